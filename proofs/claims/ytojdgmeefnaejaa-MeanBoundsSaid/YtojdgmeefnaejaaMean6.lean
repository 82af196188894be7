import Derived.Test.YtojdgmeefnaejaaMean5
namespace Go.Proofs.Ytojdgmeefnaejaa
open Go.RowKit

theorem split_floor {D B W q t : Int} (hB : 1 ≤ B) (hB2 : B ≤ 1048577) (hD : B * q + t = D) (h1 : -17592186044416 ≤ D) (h2 : D ≤ 17592186044416) (ht0 : 0 ≤ t) (htB : t < B) (hW : 1 ≤ W) (hW2 : W ≤ B) :
    q * W + t * W / B = W * D / B ∧ 0 ≤ t * W ∧ t * W ≤ 1099513724929 ∧ 0 ≤ t * W / B ∧ t * W / B ≤ 1099513724929 := by
  have e : W * D / B = q * W + t * W / B := by
    subst hD
    rw [show W * (B * q + t) = t * W + B * (q * W) from by rw [Int.mul_add, Int.mul_comm W t, ← Int.mul_assoc, Int.mul_comm W B, Int.mul_assoc, Int.mul_comm W q]; omega, Int.add_mul_ediv_left _ _ (by omega)]
    omega
  obtain ⟨a, b⟩ := mul_bd (x := 1048577) (y := 1048577) ht0 (by omega) (show 0 ≤ W by omega) (by omega)
  simp only [Int.reduceMul] at b
  have c := Int.ediv_nonneg a (show 0 ≤ B by omega)
  have d : t * W / B ≤ t * W := Int.ediv_le_self _ a
  exact ⟨e.symm, a, b, c, by omega⟩
theorem trunc_neg {D B : Int} (hB : 1 ≤ B) (h : D < 0) : D ≤ D.tdiv B ∧ D.tdiv B ≤ 0 ∧ -B < D.tmod B ∧ D.tmod B ≤ 0 ∧ B * D.tdiv B + D.tmod B = D := by
  have e : D = -(-D) := by omega
  have n : 0 ≤ -D := by omega
  have q : D.tdiv B = -((-D) / B) := by rw [e, Int.neg_tdiv, Int.tdiv_eq_ediv_of_nonneg n, Int.neg_neg]
  have t : D.tmod B = -((-D) % B) := by rw [e, Int.neg_tmod, Int.tmod_eq_emod_of_nonneg n, Int.neg_neg]
  have a := Int.ediv_nonneg n (show 0 ≤ B by omega)
  have b : (-D) / B ≤ -D := Int.ediv_le_self _ n
  have c := Int.emod_nonneg (-D) (show B ≠ 0 by omega)
  have d := Int.emod_lt_of_pos (-D) (show 0 < B by omega)
  exact ⟨by omega, by omega, by omega, by omega, Int.mul_tdiv_add_tmod D B⟩
theorem floor_all {D B : Int} (hB : 1 ≤ B) (h : 0 ≤ D) : 0 ≤ D / B ∧ D / B ≤ D ∧ 0 ≤ D % B ∧ D % B < B ∧ B * (D / B) + D % B = D :=
  ⟨Int.ediv_nonneg h (by omega), Int.ediv_le_self _ h, Int.emod_nonneg D (by omega), Int.emod_lt_of_pos D (by omega), Int.mul_ediv_add_emod D B⟩
set_option maxRecDepth 100000 in
set_option maxHeartbeats 1000000 in
theorem robs_ok (r : RuleD) (m : MeanD) (took now : Int) (w : World) (h : MeanOk r m) (hn1 : m.at_ ≤ now) (hn2 : now ≤ 4611686018427387903) : Calls Try.prog 19 #[ruleV r, meanV m, .int .i64 took, .int .i64 now] w fun e w' => e = .returned (.tuple #[meanV ⟨obsV r m took now, now⟩, .int .i64 0]) ∧ Below w.heap.size w w' := by
  have HB := Lib.hid h
  obtain ⟨⟨h1, h2, h3, h4, h5, h6, h7, h8⟩, g1, g2, g3, g4⟩ := h
  unfold meanV ruleV
  go_enter Try.func19, Try.ntmps19
  go_wp2_with fail
  refine (rmay_ok r m _ HB.out).mono ?_
  rintro e w1 ⟨rfl, hb⟩
  have hz : w.heap.size + 2 < w1.heap.size := by have := hb.size; simp at this; omega
  have o1 : obj w1 w.heap.size = some (.cells #[.int .i64 r.first, .int .i64 r.min, .int .i64 r.max, .int .i64 r.half, .int .i64 r.quart] 23 (0, 0)) := (obj_below hb (by simp; omega)).trans (by rw [obj_alloc_past _ _ _ (by simp; omega), obj_alloc_past _ _ _ (by simp)]; exact obj_alloc_at _ _ _ rfl)
  have o2 : obj w1 (w.heap.size + 1) = some (.cells #[.int .i64 m.value, .int .i64 m.at_] 25 (0, 0)) := (obj_below hb (by simp)).trans (by rw [obj_alloc_past _ _ _ (by simp)]; exact obj_alloc_at _ _ _ (by simp))
  have o3 : obj w1 (w.heap.size + 2) = some (.cells #[.int .i64 0, .int .i64 0] 25 (0, 0)) := (obj_below hb (by simp)).trans (obj_alloc_at _ _ _ (by simp))
  have c2 : w1.cell? ⟨w.heap.size, 2, none⟩ = some (.int .i64 r.max) := cell_at o1 2
  have c3 : w1.cell? ⟨w.heap.size, 3, none⟩ = some (.int .i64 r.half) := cell_at o1 3
  have d0 : w1.cell? ⟨w.heap.size + 1, 0, none⟩ = some (.int .i64 m.value) := cell_at o2 0
  have d1 : w1.cell? ⟨w.heap.size + 1, 1, none⟩ = some (.int .i64 m.at_) := cell_at o2 1
  have f0 : w1.cell? ⟨w.heap.size + 1 + 1, 0, none⟩ = some (.int .i64 0) := cell_at o3 0
  have f1 : w1.cell? ⟨w.heap.size + 1 + 1, 1, none⟩ = some (.int .i64 0) := cell_at o3 1
  have ff : ∀ i, w1.frozen? ⟨w.heap.size + 1 + 1, i, none⟩ = false := frozen_at o3
  have hB : Below w.heap.size w w1 := ((((Below.refl _ _).alloc (Nat.le_refl _) _).alloc (by simp) _).alloc (by simp; omega) _).trans (hb.mono (by simp; omega))
  clear hb o1 o2
  have hs0 : w.heap.size < w1.heap.size := by omega
  have hs1 : w.heap.size + 1 < w1.heap.size := by omega
  have hs2 : w.heap.size + 1 + 1 < w1.heap.size := by omega
  have hcl := clip_bd 0 took r.max (by omega)
  have hce : min (max took 0) r.max = clip 0 took r.max := by unfold clip; omega
  have hbd := obs_bd (took := took) HB.out hn1
  have hDe : 16 * clip 0 took r.max - m.value = obsD r m took := rfl
  have hWe : 1 + min r.half (now - m.at_) = obsW r m now := rfl
  have hVe : m.value + obsW r m now * obsD r m took / (r.half + 1) = obsV r m took now := rfl
  go_wp2_with fail
  go_quiet (fail)
  go_wp2_with fail
  clear hDe hWe
  generalize obsD r m took = D at *
  generalize obsW r m now = W at *
  obtain ⟨x1, x2, x3, x4, x5, x6, x7, x8⟩ := hbd
  by_cases hd : 0 ≤ D
  · obtain ⟨y1, y2, y3, y4, y5⟩ := floor_all (B := r.half + 1) (by omega) hd
    go_quiet (fail)
    go_wp2_with fail
    go_wp2_with fail
    generalize D / (r.half + 1) = q at *
    generalize D % (r.half + 1) = t at *
    obtain ⟨z1, z2, z3, z4, z5⟩ := split_floor (B := r.half + 1) (D := D) (W := W) (q := q) (t := t) (by omega) (by omega) (by omega) (by omega) (by omega) (by omega) (by omega) (by omega) (by omega)
    rw [← z1] at hVe x5 x6
    refine wp_region_quiet_tail 14 (by kernel_rfl) (by kernel_rfl) ?_
    simp only [List.take_succ_cons, List.take_zero, List.drop_succ_cons, List.drop_zero]
    repeat (go_big_quiet_step (fail))
    refine wpQuiet_nil ?_
    go_wp2_with fail
    rw [show m.value + q * W + t * W / (r.half + 1) = obsV r m took now from by omega]
    have o4 : ∀ k, obj (w1.drewN k) (w.heap.size + 1 + 1) = some (.cells #[.int .i64 0, .int .i64 0] 25 (0, 0)) := fun _ => o3
    have q0 := fun k => cell_at (obj_setCell_at (.int .i64 now) (i := 1) (obj_setCell_at (.int .i64 (obsV r m took now)) (i := 0) (o4 k))) 0
    have q1 := fun k => cell_at (obj_setCell_at (.int .i64 now) (i := 1) (obj_setCell_at (.int .i64 (obsV r m took now)) (i := 0) (o4 k))) 1
    simp at q0 q1
    refine bodyPost_ret (v := .tuple #[meanV ⟨obsV r m took now, now⟩, .int .i64 0]) (by simp [results, Try.results19, go_sem, meanV, q0, q1]) rfl ⟨rfl, ?_⟩
    exact ((hB.trans (below_drewN (Below.refl _ _) _)).setCell (by simp; omega) _).setCell (by simp; omega) _
  · obtain ⟨y1, y2, y3, y4, y5⟩ := trunc_neg (B := r.half + 1) (by omega) (show D < 0 by omega)
    by_cases ht : D.tmod (r.half + 1) < 0
    · go_quiet (fail)
      go_wp2_with fail
      generalize hq : D.tdiv (r.half + 1) - 1 = q at *
      generalize ht' : D.tmod (r.half + 1) + (r.half + 1) = t at *
      have y6 : (r.half + 1) * q + t = D := by
        rw [← hq, Int.mul_sub, Int.mul_one]; omega
      obtain ⟨z1, z2, z3, z4, z5⟩ := split_floor (B := r.half + 1) (D := D) (W := W) (q := q) (t := t) (by omega) (by omega) (by omega) (by omega) (by omega) (by omega) (by omega) (by omega) (by omega)
      rw [← z1] at hVe x5 x6
      refine wp_region_quiet_tail 14 (by kernel_rfl) (by kernel_rfl) ?_
      simp only [List.take_succ_cons, List.take_zero, List.drop_succ_cons, List.drop_zero]
      repeat (go_big_quiet_step (fail))
      refine wpQuiet_nil ?_
      go_wp2_with fail
      rw [show m.value + q * W + t * W / (r.half + 1) = obsV r m took now from by omega]
      have o4 : ∀ k, obj (w1.drewN k) (w.heap.size + 1 + 1) = some (.cells #[.int .i64 0, .int .i64 0] 25 (0, 0)) := fun _ => o3
      have q0 := fun k => cell_at (obj_setCell_at (.int .i64 now) (i := 1) (obj_setCell_at (.int .i64 (obsV r m took now)) (i := 0) (o4 k))) 0
      have q1 := fun k => cell_at (obj_setCell_at (.int .i64 now) (i := 1) (obj_setCell_at (.int .i64 (obsV r m took now)) (i := 0) (o4 k))) 1
      simp at q0 q1
      refine bodyPost_ret (v := .tuple #[meanV ⟨obsV r m took now, now⟩, .int .i64 0]) (by simp [results, Try.results19, go_sem, meanV, q0, q1]) rfl ⟨rfl, ?_⟩
      exact ((hB.trans (below_drewN (Below.refl _ _) _)).setCell (by simp; omega) _).setCell (by simp; omega) _
    · go_quiet (fail)
      go_wp2_with fail
      generalize D.tdiv (r.half + 1) = q at *
      generalize D.tmod (r.half + 1) = t at *
      obtain ⟨z1, z2, z3, z4, z5⟩ := split_floor (B := r.half + 1) (D := D) (W := W) (q := q) (t := t) (by omega) (by omega) (by omega) (by omega) (by omega) (by omega) (by omega) (by omega) (by omega)
      rw [← z1] at hVe x5 x6
      refine wp_region_quiet_tail 14 (by kernel_rfl) (by kernel_rfl) ?_
      simp only [List.take_succ_cons, List.take_zero, List.drop_succ_cons, List.drop_zero]
      repeat (go_big_quiet_step (fail))
      refine wpQuiet_nil ?_
      go_wp2_with fail
      rw [show m.value + q * W + t * W / (r.half + 1) = obsV r m took now from by omega]
      have o4 : ∀ k, obj (w1.drewN k) (w.heap.size + 1 + 1) = some (.cells #[.int .i64 0, .int .i64 0] 25 (0, 0)) := fun _ => o3
      have q0 := fun k => cell_at (obj_setCell_at (.int .i64 now) (i := 1) (obj_setCell_at (.int .i64 (obsV r m took now)) (i := 0) (o4 k))) 0
      have q1 := fun k => cell_at (obj_setCell_at (.int .i64 now) (i := 1) (obj_setCell_at (.int .i64 (obsV r m took now)) (i := 0) (o4 k))) 1
      simp at q0 q1
      refine bodyPost_ret (v := .tuple #[meanV ⟨obsV r m took now, now⟩, .int .i64 0]) (by simp [results, Try.results19, go_sem, meanV, q0, q1]) rfl ⟨rfl, ?_⟩
      exact ((hB.trans (below_drewN (Below.refl _ _) _)).setCell (by simp; omega) _).setCell (by simp; omega) _
end Go.Proofs.Ytojdgmeefnaejaa
