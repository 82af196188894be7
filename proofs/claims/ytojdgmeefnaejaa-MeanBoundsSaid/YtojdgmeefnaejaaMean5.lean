import Derived.Test.YtojdgmeefnaejaaMean4
namespace Go.Proofs.Ytojdgmeefnaejaa
open Go.RowKit

set_option maxRecDepth 100000 in
set_option maxHeartbeats 1000000 in
theorem rtmo_bad (r : RuleD) (m : MeanD) (w : World) (h : ¬ MeanOk r m) : Calls Try.prog 17 #[ruleV r, meanV m] w fun e w' => e = .returned (.int .i64 0) ∧ Below w.heap.size w w' := by
  have HB := Lib.hid h
  clear h
  unfold ruleV meanV
  go_enter Try.func17, Try.ntmps17
  go_wp2_with fail
  refine (rmay_bad r m _ HB.out).mono ?_
  rintro e w1 ⟨rfl, hb⟩
  go_wp2_with fail
  go_ret
  exact ⟨rfl, (((Below.refl _ _).alloc (Nat.le_refl _) _).alloc (by simp) _).trans (hb.mono (by simp; omega))⟩
set_option maxRecDepth 100000 in
set_option maxHeartbeats 1000000 in
theorem rtmo_ok (r : RuleD) (m : MeanD) (w : World) (h : MeanOk r m) : Calls Try.prog 17 #[ruleV r, meanV m] w fun e w' => e = .returned (.int .i64 (tmoV r m)) ∧ Below w.heap.size w w' := by
  have HB := Lib.hid h
  obtain ⟨⟨h1, h2, h3, h4, h5, h6, h7, h8⟩, g1, g2, g3, g4⟩ := h
  obtain ⟨k1, k2⟩ := mul_bd (x := 17592186044416) (y := 64) g1 (by omega) (show 0 ≤ r.quart by omega) h8
  simp only [Int.reduceMul] at k2
  unfold meanV ruleV
  go_enter Try.func17, Try.ntmps17
  go_wp2_with fail
  refine (rmay_ok r m _ HB.out).mono ?_
  rintro e w1 ⟨rfl, hb⟩
  have hz : w.heap.size + 1 < w1.heap.size := by have := hb.size; simp at this; omega
  have o1 : obj w1 w.heap.size = some (.cells #[.int .i64 r.first, .int .i64 r.min, .int .i64 r.max, .int .i64 r.half, .int .i64 r.quart] 23 (0, 0)) := (obj_below hb (by simp; omega)).trans (by rw [obj_alloc_past _ _ _ (by simp)]; exact obj_alloc_at _ _ _ rfl)
  have o2 : obj w1 (w.heap.size + 1) = some (.cells #[.int .i64 m.value, .int .i64 m.at_] 25 (0, 0)) := (obj_below hb (by simp)).trans (obj_alloc_at _ _ _ (by simp))
  have c0 : w1.cell? ⟨w.heap.size, 0, none⟩ = some (.int .i64 r.first) := cell_at o1 0
  have c1 : w1.cell? ⟨w.heap.size, 1, none⟩ = some (.int .i64 r.min) := cell_at o1 1
  have c2 : w1.cell? ⟨w.heap.size, 2, none⟩ = some (.int .i64 r.max) := cell_at o1 2
  have c3 : w1.cell? ⟨w.heap.size, 3, none⟩ = some (.int .i64 r.half) := cell_at o1 3
  have c4 : w1.cell? ⟨w.heap.size, 4, none⟩ = some (.int .i64 r.quart) := cell_at o1 4
  have d0 : w1.cell? ⟨w.heap.size + 1, 0, none⟩ = some (.int .i64 m.value) := cell_at o2 0
  have hB : Below w.heap.size w w1 := (((Below.refl _ _).alloc (Nat.le_refl _) _).alloc (by simp) _).trans (hb.mono (by simp; omega))
  have hs0 : w.heap.size < w1.heap.size := by omega
  have hs1 : w.heap.size + 1 < w1.heap.size := by omega
  clear hb
  go_wp2_with fail
  refine wp_region_later w1 (Below.refl _ _) (by kernel_rfl) (by kernel_rfl) ?_
  repeat (go_big_quiet_step ((go_at_call 23; exact Calls.later (raw_any r _ _ (by omega) (by omega) (by omega) (by omega)))))
  refine wpQuiet_nil ?_
  intro _ hx
  obtain ⟨⟨w3, hb3⟩, hx⟩ := hx
  subst hx
  rename_i w3
  have hB3 : Below w.heap.size w w3 := hB.trans (hb3.mono hB.size)
  go_wp2_with fail
  go_ret
  exact ⟨ret_int (by unfold tmoV clip; omega), hB3⟩
set_option maxRecDepth 100000 in
set_option maxHeartbeats 1000000 in
theorem robs_bad (r : RuleD) (m : MeanD) (took now : Int) (w : World) (h : ¬ MeanOk r m) : Calls Try.prog 19 #[ruleV r, meanV m, .int .i64 took, .int .i64 now] w fun e w' => e = .returned (.tuple #[meanV ⟨0, 0⟩, .int .i64 130]) ∧ Below w.heap.size w w' := by
  have HB := Lib.hid h
  clear h
  unfold meanV ruleV
  go_enter Try.func19, Try.ntmps19
  go_wp2_with fail
  refine (rmay_bad r m _ HB.out).mono ?_
  rintro e w1 ⟨rfl, hb⟩
  have hz : w.heap.size + 2 < w1.heap.size := by have := hb.size; simp at this; omega
  have o3 : obj w1 (w.heap.size + 1 + 1) = some (.cells #[.int .i64 0, .int .i64 0] 25 (0, 0)) := (obj_below hb (by simp)).trans (obj_alloc_at _ _ _ (by simp))
  have f0 : w1.cell? ⟨w.heap.size + 1 + 1, 0, none⟩ = some (.int .i64 0) := cell_at o3 0
  have f1 : w1.cell? ⟨w.heap.size + 1 + 1, 1, none⟩ = some (.int .i64 0) := cell_at o3 1
  have ff : ∀ i, w1.frozen? ⟨w.heap.size + 1 + 1, i, none⟩ = false := frozen_at o3
  have hB : Below w.heap.size w w1 := ((((Below.refl _ _).alloc (Nat.le_refl _) _).alloc (by simp) _).alloc (by simp; omega) _).trans (hb.mono (by simp; omega))
  clear hb
  go_wp2_with fail
  have q := obj_setCell_at (.int .i64 0) (i := 1) (obj_setCell_at (.int .i64 0) (i := 0) o3)
  have q0 := cell_at q 0
  have q1 := cell_at q 1
  simp at q0 q1
  refine bodyPost_ret (v := .tuple #[meanV ⟨0, 0⟩, .int .i64 130]) (by simp [results, Try.results19, go_sem, meanV, q0, q1]) rfl ⟨rfl, ?_⟩
  exact (hB.setCell (by simp; omega) _).setCell (by simp; omega) _
set_option maxRecDepth 100000 in
set_option maxHeartbeats 1000000 in
theorem robs_past (r : RuleD) (m : MeanD) (took now : Int) (w : World) (h : MeanOk r m) (hn : ¬ (m.at_ ≤ now ∧ now ≤ 4611686018427387903)) : Calls Try.prog 19 #[ruleV r, meanV m, .int .i64 took, .int .i64 now] w fun e w' => e = .returned (.tuple #[meanV ⟨0, 0⟩, .int .i64 131]) ∧ Below w.heap.size w w' := by
  have HB := Lib.hid h
  obtain ⟨⟨h1, h2, h3, h4, h5, h6, h7, h8⟩, g1, g2, g3, g4⟩ := h
  unfold meanV ruleV
  go_enter Try.func19, Try.ntmps19
  go_wp2_with fail
  refine (rmay_ok r m _ HB.out).mono ?_
  rintro e w1 ⟨rfl, hb⟩
  have hz : w.heap.size + 2 < w1.heap.size := by have := hb.size; simp at this; omega
  have o2 : obj w1 (w.heap.size + 1) = some (.cells #[.int .i64 m.value, .int .i64 m.at_] 25 (0, 0)) := (obj_below hb (by simp)).trans (by rw [obj_alloc_past _ _ _ (by simp)]; exact obj_alloc_at _ _ _ (by simp))
  have o3 : obj w1 (w.heap.size + 1 + 1) = some (.cells #[.int .i64 0, .int .i64 0] 25 (0, 0)) := (obj_below hb (by simp)).trans (obj_alloc_at _ _ _ (by simp))
  have d1 : w1.cell? ⟨w.heap.size + 1, 1, none⟩ = some (.int .i64 m.at_) := cell_at o2 1
  have f0 : w1.cell? ⟨w.heap.size + 1 + 1, 0, none⟩ = some (.int .i64 0) := cell_at o3 0
  have f1 : w1.cell? ⟨w.heap.size + 1 + 1, 1, none⟩ = some (.int .i64 0) := cell_at o3 1
  have ff : ∀ i, w1.frozen? ⟨w.heap.size + 1 + 1, i, none⟩ = false := frozen_at o3
  have hB : Below w.heap.size w w1 := ((((Below.refl _ _).alloc (Nat.le_refl _) _).alloc (by simp) _).alloc (by simp; omega) _).trans (hb.mono (by simp; omega))
  clear hb
  by_cases hlt : now < m.at_ <;> go_wp2_with fail
  all_goals
    have q := obj_setCell_at (.int .i64 0) (i := 1) (obj_setCell_at (.int .i64 0) (i := 0) o3)
    have q0 := cell_at q 0
    have q1 := cell_at q 1
    simp at q0 q1
    refine bodyPost_ret (v := .tuple #[meanV ⟨0, 0⟩, .int .i64 131]) (by simp [results, Try.results19, go_sem, meanV, q0, q1]) rfl ⟨rfl, ?_⟩
    exact (hB.setCell (by simp; omega) _).setCell (by simp; omega) _
end Go.Proofs.Ytojdgmeefnaejaa
