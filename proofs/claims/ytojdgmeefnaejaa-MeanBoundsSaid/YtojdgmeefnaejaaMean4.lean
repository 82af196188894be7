import Derived.Test.YtojdgmeefnaejaaMean3
namespace Go.Proofs.Ytojdgmeefnaejaa
open Go.RowKit

theorem rem64 (n : Int) (h : 0 ≤ n) : Int.tmod n 64 = n % 64 := Int.tmod_eq_emod_of_nonneg h
set_option maxRecDepth 100000 in
set_option maxHeartbeats 1000000 in
theorem raw_any (r : RuleD) (v : Int) (w : World) (hq1 : 1 ≤ r.quart) (hq2 : r.quart ≤ 64) (h1 : 0 ≤ v) (h2 : v ≤ 17592186044416) : Calls Try.prog 23 #[ruleV r, .int .i64 v] w fun e w' => e = .returned (.int .i64 ((v * r.quart + 63) / 64)) ∧ Below w.heap.size w w' := by
  obtain ⟨k1, k2⟩ := mul_bd (x := 17592186044416) (y := 64) h1 h2 (show 0 ≤ r.quart by omega) hq2
  simp only [Int.reduceMul] at k2
  unfold ruleV
  go_enter Try.func23, Try.ntmps23
  go_wp2_with fail
  all_goals (go_ret; refine ⟨ret_int ?_, (Below.refl _ _).alloc (Nat.le_refl _) _⟩; simp_all; omega)
set_option maxRecDepth 100000 in
set_option maxHeartbeats 1000000 in
theorem new_bad (r : RuleD) (now : Int) (w : World) (h : ¬ RuleOk r) : Calls Try.prog 9 #[ruleV r, .int .i64 now] w fun e w' => e = .returned (.tuple #[meanV ⟨0, 0⟩, .int .i64 130]) ∧ Below w.heap.size w w' := by
  have HB := Lib.hid h
  clear h
  unfold ruleV
  go_enter Try.func9, Try.ntmps9
  go_wp2_with fail
  refine (check_bad r _ HB.out).mono ?_
  rintro e w1 ⟨rfl, hb⟩
  have hz : w.heap.size + 1 < w1.heap.size := by have := hb.size; simp at this; omega
  have o3 : obj w1 (w.heap.size + 1) = some (.cells #[.int .i64 0, .int .i64 0] 25 (0, 0)) := (obj_below hb (by simp)).trans (obj_alloc_at _ _ _ (by simp))
  have f0 : w1.cell? ⟨w.heap.size + 1, 0, none⟩ = some (.int .i64 0) := cell_at o3 0
  have f1 : w1.cell? ⟨w.heap.size + 1, 1, none⟩ = some (.int .i64 0) := cell_at o3 1
  have ff : ∀ i, w1.frozen? ⟨w.heap.size + 1, i, none⟩ = false := frozen_at o3
  have hB : Below w.heap.size w w1 := (((Below.refl _ _).alloc (Nat.le_refl _) _).alloc (by simp) _).trans (hb.mono (by simp; omega))
  clear hb
  go_wp2_with fail
  have q := obj_setCell_at (.int .i64 0) (i := 1) (obj_setCell_at (.int .i64 0) (i := 0) o3)
  have q0 := cell_at q 0
  have q1 := cell_at q 1
  simp at q0 q1
  refine bodyPost_ret (v := .tuple #[meanV ⟨0, 0⟩, .int .i64 130]) (by simp [results, Try.results9, go_sem, meanV, q0, q1]) rfl ⟨rfl, ?_⟩
  exact (hB.setCell (by simp) _).setCell (by simp) _
set_option maxRecDepth 100000 in
set_option maxHeartbeats 1000000 in
theorem new_past (r : RuleD) (now : Int) (w : World) (h : RuleOk r) (hn : ¬ (0 ≤ now ∧ now ≤ 4611686018427387903)) : Calls Try.prog 9 #[ruleV r, .int .i64 now] w fun e w' => e = .returned (.tuple #[meanV ⟨0, 0⟩, .int .i64 131]) ∧ Below w.heap.size w w' := by
  have HB := Lib.hid h
  clear h
  unfold ruleV
  go_enter Try.func9, Try.ntmps9
  go_wp2_with fail
  refine (check_ok r _ HB.out).mono ?_
  rintro e w1 ⟨rfl, hb⟩
  have hz : w.heap.size + 1 < w1.heap.size := by have := hb.size; simp at this; omega
  have o3 : obj w1 (w.heap.size + 1) = some (.cells #[.int .i64 0, .int .i64 0] 25 (0, 0)) := (obj_below hb (by simp)).trans (obj_alloc_at _ _ _ (by simp))
  have f0 : w1.cell? ⟨w.heap.size + 1, 0, none⟩ = some (.int .i64 0) := cell_at o3 0
  have f1 : w1.cell? ⟨w.heap.size + 1, 1, none⟩ = some (.int .i64 0) := cell_at o3 1
  have ff : ∀ i, w1.frozen? ⟨w.heap.size + 1, i, none⟩ = false := frozen_at o3
  have hB : Below w.heap.size w w1 := (((Below.refl _ _).alloc (Nat.le_refl _) _).alloc (by simp) _).trans (hb.mono (by simp; omega))
  clear hb
  go_wp2_with ((go_at_call 22; refine (in_no _ _ _ (by omega) (by omega) _).mono ?_; rintro e w' ⟨rfl, rfl⟩))
  have q := obj_setCell_at (.int .i64 0) (i := 1) (obj_setCell_at (.int .i64 0) (i := 0) o3)
  have q0 := cell_at q 0
  have q1 := cell_at q 1
  simp at q0 q1
  refine bodyPost_ret (v := .tuple #[meanV ⟨0, 0⟩, .int .i64 131]) (by simp [results, Try.results9, go_sem, meanV, q0, q1]) rfl ⟨rfl, ?_⟩
  exact (hB.setCell (by simp) _).setCell (by simp) _
set_option maxRecDepth 100000 in
set_option maxHeartbeats 1000000 in
theorem new_ok (r : RuleD) (now : Int) (w : World) (h : RuleOk r) (hn1 : 0 ≤ now) (hn2 : now ≤ 4611686018427387903) : Calls Try.prog 9 #[ruleV r, .int .i64 now] w fun e w' => e = .returned (.tuple #[meanV ⟨newV r, now⟩, .int .i64 0]) ∧ Below w.heap.size w w' := by
  have HB := Lib.hid h
  obtain ⟨h1, h2, h3, h4, h5, h6, h7, h8⟩ := h
  unfold ruleV
  go_enter Try.func9, Try.ntmps9
  go_wp2_with fail
  refine (check_ok r _ HB.out).mono ?_
  rintro e w1 ⟨rfl, hb⟩
  have hz : w.heap.size + 1 < w1.heap.size := by have := hb.size; simp at this; omega
  have o1 : obj w1 w.heap.size = some (.cells #[.int .i64 r.first, .int .i64 r.min, .int .i64 r.max, .int .i64 r.half, .int .i64 r.quart] 23 (0, 0)) := (obj_below hb (by simp; omega)).trans (by rw [obj_alloc_past _ _ _ (by simp)]; exact obj_alloc_at _ _ _ rfl)
  have o3 : obj w1 (w.heap.size + 1) = some (.cells #[.int .i64 0, .int .i64 0] 25 (0, 0)) := (obj_below hb (by simp)).trans (obj_alloc_at _ _ _ (by simp))
  have c0 : w1.cell? ⟨w.heap.size, 0, none⟩ = some (.int .i64 r.first) := cell_at o1 0
  have c1 : w1.cell? ⟨w.heap.size, 1, none⟩ = some (.int .i64 r.min) := cell_at o1 1
  have c2 : w1.cell? ⟨w.heap.size, 2, none⟩ = some (.int .i64 r.max) := cell_at o1 2
  have c4 : w1.cell? ⟨w.heap.size, 4, none⟩ = some (.int .i64 r.quart) := cell_at o1 4
  have f0 : w1.cell? ⟨w.heap.size + 1, 0, none⟩ = some (.int .i64 0) := cell_at o3 0
  have f1 : w1.cell? ⟨w.heap.size + 1, 1, none⟩ = some (.int .i64 0) := cell_at o3 1
  have ff : ∀ i, w1.frozen? ⟨w.heap.size + 1, i, none⟩ = false := frozen_at o3
  have hB : Below w.heap.size w w1 := (((Below.refl _ _).alloc (Nat.le_refl _) _).alloc (by simp) _).trans (hb.mono (by simp; omega))
  clear hb o1
  have hs0 : w.heap.size < w1.heap.size := by omega
  have hs1 : w.heap.size + 1 < w1.heap.size := by omega
  have hq := floor_pos (w := 1) (d := 64 * (r.first - 1)) (y := r.quart) (by omega) (by omega) (by omega) (by omega)
  rw [Int.one_mul] at hq
  obtain ⟨hq0, hq1⟩ := hq
  go_wp2_with ((go_at_call 22; refine (in_yes _ _ _ (by omega) (by omega) _).mono ?_; rintro e w' ⟨rfl, rfl⟩))
  · refine wp_region_quiet_tail 13 (by kernel_rfl) (by kernel_rfl) ?_
    simp only [List.take_succ_cons, List.take_zero, List.drop_succ_cons, List.drop_zero]
    repeat (go_big_quiet_step (fail))
    refine wpQuiet_nil ?_
    go_wp2_with fail
    have hV : newV r = min (64 * (r.first - 1) / r.quart + 1) (16 * r.max) := by
      unfold newV
      rw [if_pos (by assumption)]
      split <;> omega
    have q := obj_setCell_at (.int .i64 now) (i := 1) (obj_setCell_at (.int .i64 (min (64 * (r.first - 1) / r.quart + 1) (16 * r.max))) (i := 0) o3)
    have q' := (obj_alloc_past _ (.cells #[.int .i64 (min (64 * (r.first - 1) / r.quart + 1) (16 * r.max)), .int .i64 now] 25 (0, 0)) _ (by simpa using hs1)).trans q
    have q0 := cell_at q' 0
    have q1 := cell_at q' 1
    simp at q0 q1
    refine bodyPost_ret (v := .tuple #[meanV ⟨newV r, now⟩, .int .i64 0]) (by simp [results, Try.results9, go_sem, meanV, hV, q0, q1]) rfl ⟨rfl, ?_⟩
    exact (((hB.setCell (by simp) _).setCell (by simp) _).alloc (by simp; omega) _).drew
  · have hV : newV r = 0 := by
      unfold newV
      rw [if_neg (by first | assumption | simp_all)]
    have q := obj_setCell_at (.int .i64 now) (i := 1) (obj_setCell_at (.int .i64 0) (i := 0) o3)
    have q' := (obj_alloc_past _ (.cells #[.int .i64 0, .int .i64 now] 25 (0, 0)) _ (by simpa using hs1)).trans q
    have q0 := cell_at q' 0
    have q1 := cell_at q' 1
    simp at q0 q1
    refine bodyPost_ret (v := .tuple #[meanV ⟨newV r, now⟩, .int .i64 0]) (by simp [results, Try.results9, go_sem, meanV, hV, q0, q1]) rfl ⟨rfl, ?_⟩
    exact ((hB.setCell (by simp) _).setCell (by simp) _).alloc (by simp; omega) _
end Go.Proofs.Ytojdgmeefnaejaa
