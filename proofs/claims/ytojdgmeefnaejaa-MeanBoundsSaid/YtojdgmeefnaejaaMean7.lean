import Derived.Test.YtojdgmeefnaejaaMean6
namespace Go.Proofs.Ytojdgmeefnaejaa
open Go.RowKit

theorem newV_bd {r : RuleD} (h : RuleOk r) : 0 ≤ newV r ∧ newV r ≤ 16 * r.max := by
  obtain ⟨h1, h2, h3, h4, h5, h6, h7, h8⟩ := h
  have := floor_pos (w := 1) (d := 64 * (r.first - 1)) (y := r.quart) (by omega) (by omega) (by omega) (by omega)
  rw [Int.one_mul] at this
  unfold newV
  split
  · split <;> omega
  · omega
theorem newV_iff {r : RuleD} (h : RuleOk r) (v : Int) (h0 : 0 ≤ v) (hv : v < 16 * r.max) : r.first ≤ max ((v * r.quart + 63) / 64) r.min ↔ newV r ≤ v := by
  obtain ⟨h1, h2, h3, h4, h5, h6, h7, h8⟩ := h
  have key := Int.ediv_lt_iff_lt_mul (a := 64 * (r.first - 1)) (b := v) (show 0 < r.quart by omega)
  unfold newV
  split
  · generalize v * r.quart = X at *
    generalize 64 * (r.first - 1) / r.quart = Y at *
    split <;> omega
  · omega
set_option maxRecDepth 100000 in
set_option maxHeartbeats 1000000 in
theorem rnew_bad (r : RuleD) (now : Int) (w : World) (h : ¬ RuleOk r) : Calls Try.prog 10 #[ruleV r, .int .i64 now] w fun e w' => e = .returned (.tuple #[meanV ⟨0, 0⟩, .int .i64 130]) ∧ Below w.heap.size w w' := by
  have HB := Lib.hid h
  clear h
  unfold ruleV
  go_enter Try.func10, Try.ntmps10
  go_wp2_with fail
  refine (rcheck_bad r _ HB.out).mono ?_
  rintro e w1 ⟨rfl, hb⟩
  have hz : w.heap.size + 1 < w1.heap.size := by have := hb.size; simp at this; omega
  have o3 : obj w1 (w.heap.size + 1) = some (.cells #[.int .i64 0, .int .i64 0] 25 (0, 0)) := (obj_below hb (by simp)).trans (obj_alloc_at _ _ _ (by simp))
  have f0 : w1.cell? ⟨w.heap.size + 1, 0, none⟩ = some (.int .i64 0) := cell_at o3 0
  have f1 : w1.cell? ⟨w.heap.size + 1, 1, none⟩ = some (.int .i64 0) := cell_at o3 1
  have ff : ∀ i, w1.frozen? ⟨w.heap.size + 1, i, none⟩ = false := frozen_at o3
  have hB : Below w.heap.size w w1 := (((Below.refl _ _).alloc (Nat.le_refl _) _).alloc (by simp) _).trans (hb.mono (by simp; omega))
  clear hb
  go_wp2_with fail
  have q := obj_setCell_at (.int .i64 0) (i := 1) (obj_setCell_at (.int .i64 0) (i := 0) o3)
  have q0 := cell_at q 0
  have q1 := cell_at q 1
  simp at q0 q1
  refine bodyPost_ret (v := .tuple #[meanV ⟨0, 0⟩, .int .i64 130]) (by simp [results, Try.results10, go_sem, meanV, q0, q1]) rfl ⟨rfl, ?_⟩
  exact (hB.setCell (by simp) _).setCell (by simp) _
set_option maxRecDepth 100000 in
set_option maxHeartbeats 1000000 in
theorem rnew_past (r : RuleD) (now : Int) (w : World) (h : RuleOk r) (hn : ¬ (0 ≤ now ∧ now ≤ 4611686018427387903)) : Calls Try.prog 10 #[ruleV r, .int .i64 now] w fun e w' => e = .returned (.tuple #[meanV ⟨0, 0⟩, .int .i64 131]) ∧ Below w.heap.size w w' := by
  have HB := Lib.hid h
  clear h
  unfold ruleV
  go_enter Try.func10, Try.ntmps10
  go_wp2_with fail
  refine (rcheck_ok r _ HB.out).mono ?_
  rintro e w1 ⟨rfl, hb⟩
  have hz : w.heap.size + 1 < w1.heap.size := by have := hb.size; simp at this; omega
  have o3 : obj w1 (w.heap.size + 1) = some (.cells #[.int .i64 0, .int .i64 0] 25 (0, 0)) := (obj_below hb (by simp)).trans (obj_alloc_at _ _ _ (by simp))
  have f0 : w1.cell? ⟨w.heap.size + 1, 0, none⟩ = some (.int .i64 0) := cell_at o3 0
  have f1 : w1.cell? ⟨w.heap.size + 1, 1, none⟩ = some (.int .i64 0) := cell_at o3 1
  have ff : ∀ i, w1.frozen? ⟨w.heap.size + 1, i, none⟩ = false := frozen_at o3
  have hB : Below w.heap.size w w1 := (((Below.refl _ _).alloc (Nat.le_refl _) _).alloc (by simp) _).trans (hb.mono (by simp; omega))
  clear hb
  by_cases hlt : now < 0 <;> go_wp2_with fail
  all_goals
    have q := obj_setCell_at (.int .i64 0) (i := 1) (obj_setCell_at (.int .i64 0) (i := 0) o3)
    have q0 := cell_at q 0
    have q1 := cell_at q 1
    simp at q0 q1
    refine bodyPost_ret (v := .tuple #[meanV ⟨0, 0⟩, .int .i64 131]) (by simp [results, Try.results10, go_sem, meanV, q0, q1]) rfl ⟨rfl, ?_⟩
    exact (hB.setCell (by simp) _).setCell (by simp) _
set_option maxRecDepth 100000 in
set_option maxHeartbeats 1000000 in
theorem rnew_ok (r : RuleD) (now : Int) (w : World) (h : RuleOk r) (hn1 : 0 ≤ now) (hn2 : now ≤ 4611686018427387903) : Calls Try.prog 10 #[ruleV r, .int .i64 now] w fun e w' => e = .returned (.tuple #[meanV ⟨newV r, now⟩, .int .i64 0]) ∧ Below w.heap.size w w' := by
  have HB := Lib.hid h
  obtain ⟨h1, h2, h3, h4, h5, h6, h7, h8⟩ := h
  unfold ruleV
  go_enter Try.func10, Try.ntmps10
  go_wp2_with fail
  refine (rcheck_ok r _ HB.out).mono ?_
  rintro e w1 ⟨rfl, hb⟩
  have hz : w.heap.size + 1 < w1.heap.size := by have := hb.size; simp at this; omega
  have o1 : obj w1 w.heap.size = some (.cells #[.int .i64 r.first, .int .i64 r.min, .int .i64 r.max, .int .i64 r.half, .int .i64 r.quart] 23 (0, 0)) := (obj_below hb (by simp; omega)).trans (by rw [obj_alloc_past _ _ _ (by simp)]; exact obj_alloc_at _ _ _ rfl)
  have o3 : obj w1 (w.heap.size + 1) = some (.cells #[.int .i64 0, .int .i64 0] 25 (0, 0)) := (obj_below hb (by simp)).trans (obj_alloc_at _ _ _ (by simp))
  have c0 : w1.cell? ⟨w.heap.size, 0, none⟩ = some (.int .i64 r.first) := cell_at o1 0
  have c1 : w1.cell? ⟨w.heap.size, 1, none⟩ = some (.int .i64 r.min) := cell_at o1 1
  have c2 : w1.cell? ⟨w.heap.size, 2, none⟩ = some (.int .i64 r.max) := cell_at o1 2
  have c4 : w1.cell? ⟨w.heap.size, 4, none⟩ = some (.int .i64 r.quart) := cell_at o1 4
  have f0 : w1.cell? ⟨w.heap.size + 1, 0, none⟩ = some (.int .i64 0) := cell_at o3 0
  have f1 : w1.cell? ⟨w.heap.size + 1, 1, none⟩ = some (.int .i64 0) := cell_at o3 1
  have ff : ∀ i, w1.frozen? ⟨w.heap.size + 1, i, none⟩ = false := frozen_at o3
  have hB : Below w.heap.size w w1 := (((Below.refl _ _).alloc (Nat.le_refl _) _).alloc (by simp) _).trans (hb.mono (by simp; omega))
  clear hb
  have hs0 : w.heap.size < w1.heap.size := by omega
  have hs1 : w.heap.size + 1 < w1.heap.size := by omega
  have HR : Hid (RuleOk r) := HB
  by_cases hlt : now < 0
  · omega
  go_wp2_with fail
  go_quiet (fail)
  go_wp2_with fail
  go_loopw [7, 8] (fun v7 v8 wr => ∃ lo hi : Int, v7 = .int .i64 lo ∧ v8 = .int .i64 hi ∧ 0 ≤ lo ∧ lo ≤ newV r ∧ newV r ≤ hi ∧ hi ≤ 16 * r.max ∧ obj wr w.heap.size = some (.cells #[.int .i64 r.first, .int .i64 r.min, .int .i64 r.max, .int .i64 r.half, .int .i64 r.quart] 23 (0, 0)) ∧ obj wr (w.heap.size + 1) = some (.cells #[.int .i64 0, .int .i64 0] 25 (0, 0)) ∧ Below w.heap.size w wr) (fun lo hi _ => (intOf hi - intOf lo).toNat)
  case atStart => exact ⟨0, 16 * r.max, rfl, rfl, by omega, (newV_bd HR.out).1, (newV_bd HR.out).2, by omega, o1, o3, hB.trans (below_drewN (Below.refl _ _) _)⟩
  case round =>
    obtain ⟨lo, hi, rfl, rfl, l1, l2, l3, l4, l5, l6, l7⟩ := hrel
    clear c0 c1 c2 c4 f0 f1 ff
    have ll := lt_of_obj l6
    have ll0 := lt_of_obj l5
    clear hs0 hs1 hz hB o3
    have c0 : wr.cell? ⟨w.heap.size, 0, none⟩ = some (.int .i64 r.first) := cell_at l5 0
    have c1 : wr.cell? ⟨w.heap.size, 1, none⟩ = some (.int .i64 r.min) := cell_at l5 1
    have c2 : wr.cell? ⟨w.heap.size, 2, none⟩ = some (.int .i64 r.max) := cell_at l5 2
    have c3 : wr.cell? ⟨w.heap.size, 3, none⟩ = some (.int .i64 r.half) := cell_at l5 3
    have c4 : wr.cell? ⟨w.heap.size, 4, none⟩ = some (.int .i64 r.quart) := cell_at l5 4
    have f0 : wr.cell? ⟨w.heap.size + 1, 0, none⟩ = some (.int .i64 0) := cell_at l6 0
    have f1 : wr.cell? ⟨w.heap.size + 1, 1, none⟩ = some (.int .i64 0) := cell_at l6 1
    have ff : ∀ i, wr.frozen? ⟨w.heap.size + 1, i, none⟩ = false := frozen_at l6
    by_cases hlh : lo < hi
    · go_wp2_with fail
      refine wp_region_later wr (Below.refl _ _) (by kernel_rfl) (by kernel_rfl) ?_
      repeat (go_big_quiet_step ((go_at_call 23; exact Calls.later (raw_any r _ _ (by omega) (by omega) (by omega) (by omega)))))
      refine wpQuiet_nil ?_
      intro _ hx
      obtain ⟨⟨w3, hb3⟩, hx⟩ := hx
      subst hx
      rename_i w3
      go_wp2_with fail
      all_goals
        have hi3 := newV_iff HR.out ((lo + hi) / 2) (by omega) (by omega)
        have l5' := (obj_below hb3 ll0).trans l5
        have l6' := (obj_below hb3 ll).trans l6
        have l7' := l7.trans (hb3.mono l7.size)
        go_roundw
        case rel => exact ⟨_, _, rfl, rfl, by omega, by omega, by omega, by omega, l5', l6', l7'⟩
        case measure => simp [intOf]; omega
    · have hlo : lo = newV r := by omega
      subst hlo
      go_wp2_with fail
      have q := obj_setCell_at (.int .i64 now) (i := 1) (obj_setCell_at (.int .i64 (newV r)) (i := 0) l6)
      have q0 := cell_at q 0
      have q1 := cell_at q 1
      simp at q0 q1
      refine bodyPost_ret (v := .tuple #[meanV ⟨newV r, now⟩, .int .i64 0]) (by simp [results, Try.results10, go_sem, meanV, q0, q1]) rfl ⟨rfl, ?_⟩
      exact (l7.setCell (by simp) _).setCell (by simp) _
end Go.Proofs.Ytojdgmeefnaejaa
