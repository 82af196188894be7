import Derived.Test.YtojdgmeefnaejaaMean9
namespace Go.Proofs.Ytojdgmeefnaejaa
open Go.RowKit

def some' : RuleD := ⟨8, 1, 100, 3, 8⟩
theorem some_ok : RuleOk some' := by unfold RuleOk some'; simp
theorem newR_some : newR some' 0 = (⟨57, 0⟩, 0) := by
  unfold newR
  rw [if_pos some_ok, if_pos (by decide)]
  rfl
theorem m57_ok : MeanOk some' ⟨57, 0⟩ := ⟨some_ok, by simp [some']⟩
theorem m188_ok : MeanOk some' ⟨188, 1⟩ := ⟨some_ok, by simp [some']⟩
theorem obsR_some : obsR some' ⟨57, 0⟩ 20 1 = (⟨188, 1⟩, 0) := by
  unfold obsR
  rw [if_pos m57_ok, if_pos (by decide)]
  rfl
theorem tmo8 : tmoR some' ⟨57, 0⟩ = 8 := by
  unfold tmoR
  rw [if_pos m57_ok]
  rfl
theorem tmo24 : tmoR some' ⟨188, 1⟩ = 24 := by
  unfold tmoR
  rw [if_pos m188_ok]
  rfl
set_option maxRecDepth 100000 in
set_option maxHeartbeats 1000000 in
theorem some_any (w : World) : Calls Try.prog 24 #[] w fun e w' => e = .returned (ruleV some') ∧ Below w.heap.size w w' := by
  go_enter Try.func24, Try.ntmps24
  go_wp2_with fail
  refine bodyPost_ret (v := ruleV some') (by simp [results, Try.results24, go_sem, ruleV, some']) rfl ⟨rfl, ?_⟩
  exact (Below.refl _ _).alloc (Nat.le_refl _) _
set_option maxRecDepth 100000 in
set_option maxHeartbeats 2000000 in
theorem live_any (w : World) : Calls Try.prog 11 #[] w fun e w' => e = .returned (.bool true) ∧ Below w.heap.size w w' := by
  have hnew := fun w => new_any some' 0 w
  rw [newR_some] at hnew
  have hobs := fun w => obs_any some' ⟨57, 0⟩ 20 1 w
  rw [obsR_some] at hobs
  have ht1 := fun w => tmo_any some' ⟨57, 0⟩ w
  rw [tmo8] at ht1
  have ht2 := fun w => tmo_any some' ⟨188, 1⟩ w
  rw [tmo24] at ht2
  have hsome := fun w => some_any w
  simp only [ruleV, meanV, some'] at hnew hobs ht1 ht2 hsome
  have HN := Lib.hid hnew
  have HO := Lib.hid hobs
  have H1 := Lib.hid ht1
  have H2 := Lib.hid ht2
  have HS := Lib.hid hsome
  clear hnew hobs ht1 ht2 hsome
  go_enter Try.func11, Try.ntmps11
  go_wp2_with ((go_at_call 24; refine (HS.out _).mono ?_; rintro _ w1 ⟨rfl, hb1⟩))
  refine (HN.out _).mono ?_
  rintro _ w2 ⟨rfl, hb2⟩
  go_wp2_with fail
  have hB : Below w.heap.size w (w2.alloc (.cells #[.int .i64 57, .int .i64 0] 25 (0, 0))) := (hb1.trans (hb2.mono hb1.size)).alloc (by have := hb1.size; have := hb2.size; omega) _
  have p : obj (w2.alloc (.cells #[.int .i64 57, .int .i64 0] 25 (0, 0))) w2.heap.size = some (.cells #[.int .i64 57, .int .i64 0] 25 (0, 0)) := obj_alloc_at _ _ _ rfl
  have hn1 : w.heap.size ≤ w2.heap.size := by have := hb1.size; have := hb2.size; omega
  clear hb1 hb2
  generalize w2.alloc (.cells #[.int .i64 57, .int .i64 0] 25 (0, 0)) = w3 at *
  generalize w2.heap.size = n1 at *
  have p0 : w3.cell? ⟨n1, 0, none⟩ = some (.int .i64 57) := cell_at p 0
  have p1 : w3.cell? ⟨n1, 1, none⟩ = some (.int .i64 0) := cell_at p 1
  have pz := lt_of_obj p
  go_region_held3 (fun w' => w'.cell? ⟨n1, 0, none⟩ = some (.int .i64 57) ∧ w'.cell? ⟨n1, 1, none⟩ = some (.int .i64 0))
    (first | exact ⟨p0, p1⟩ | ((try dsimp only); (repeat' apply And.intro) <;> (simp only [go_sem, *]; done)) | ((try dsimp only); simp [go_sem, *]; done))
    (first
      | (go_at_call 24; refine (HS.out _).mono ?_; rintro _ w4 ⟨rfl, hb4⟩
         have g4 : Below w3.heap.size w3 w4 := (by first | exact (Below.refl _ _).drew.trans hb4 | exact ((Below.refl _ _).drew.alloc (Nat.le_refl _) _).trans (hb4.mono (by simp)))
         have g4z := g4.size
         have z4 : n1 < w4.heap.size := (by omega)
         have r0 := (g4.cell (p := ⟨n1, 0, none⟩) pz).trans p0
         have r1 := (g4.cell (p := ⟨n1, 1, none⟩) pz).trans p1
         try (have k4 : obj w4 w3.heap.size = some (.cells #[.int .i64 0, .int .i64 0] 25 (0, 0)) := (obj_below hb4 (by simp)).trans (obj_alloc_at _ _ _ (by simp))))
      | (go_at_call 18; refine (HO.out _).mono ?_; rintro _ w5 ⟨rfl, hb5⟩
         have g5 : Below w3.heap.size w3 w5 := (by first | exact g4.trans (hb5.mono g4.size) | exact (g4.alloc g4.size _).trans (hb5.mono (by simp; omega)))
         have g5z := g5.size
         have z5 : n1 < w5.heap.size := (by omega)
         have s0 := (g5.cell (p := ⟨n1, 0, none⟩) pz).trans p0
         have s1 := (g5.cell (p := ⟨n1, 1, none⟩) pz).trans p1
         try (have k5 : obj w5 w4.heap.size = some (.cells #[.int .i64 0, .int .i64 0] 25 (0, 0)) := (obj_below hb5 (by simp)).trans (obj_alloc_at _ _ _ (by simp)); have k6 : w5.cell? ⟨w4.heap.size, 0, none⟩ = some (.int .i64 0) := cell_at k5 0; have k7 : w5.cell? ⟨w4.heap.size, 1, none⟩ = some (.int .i64 0) := cell_at k5 1; have k8 : ∀ i, w5.frozen? ⟨w4.heap.size, i, none⟩ = false := frozen_at k5; have k9 : w4.heap.size < w5.heap.size := lt_of_obj k5)
         try (have k5 : obj w5 w3.heap.size = some (.cells #[.int .i64 0, .int .i64 0] 25 (0, 0)) := (obj_below hb5 (lt_of_obj k4)).trans k4; have k6 : w5.cell? ⟨w3.heap.size, 0, none⟩ = some (.int .i64 0) := cell_at k5 0; have k7 : w5.cell? ⟨w3.heap.size, 1, none⟩ = some (.int .i64 0) := cell_at k5 1; have k8 : ∀ i, w5.frozen? ⟨w3.heap.size, i, none⟩ = false := frozen_at k5; have k9 : w3.heap.size < w5.heap.size := lt_of_obj k5)))
  · have m1 : obj (w5.alloc (.cells #[.int .i64 188, .int .i64 1] 25 (0, 0))) n1 = some (.cells #[.int .i64 57, .int .i64 0] 25 (0, 0)) := (obj_alloc_past _ _ _ z5).trans ((obj_below g5 pz).trans p)
    have m2 : obj (w5.alloc (.cells #[.int .i64 188, .int .i64 1] 25 (0, 0))) w5.heap.size = some (.cells #[.int .i64 188, .int .i64 1] 25 (0, 0)) := obj_alloc_at _ _ _ rfl
    have m3 : Below w.heap.size w (w5.alloc (.cells #[.int .i64 188, .int .i64 1] 25 (0, 0))) := (hB.trans (g5.mono hB.size)).alloc (by have := hB.size; omega) _
    clear s0 s1 z5 r0 r1 z4 g4z g5z p0 p1
    generalize (w5.alloc (.cells #[.int .i64 188, .int .i64 1] 25 (0, 0))) = W2 at *
    generalize w5.heap.size = n at *
    have c0 : W2.cell? ⟨n1, 0, none⟩ = some (.int .i64 57) := cell_at m1 0
    have c1 : W2.cell? ⟨n1, 1, none⟩ = some (.int .i64 0) := cell_at m1 1
    have d0 : W2.cell? ⟨n, 0, none⟩ = some (.int .i64 188) := cell_at m2 0
    have d1 : W2.cell? ⟨n, 1, none⟩ = some (.int .i64 1) := cell_at m2 1
    have v1 := lt_of_obj m1
    have v2 := lt_of_obj m2
    clear p pz hB
    try clear g5
    try clear k5 k9
    try clear g4
    go_wp2_with fail
    refine wp_region_later W2 (Below.refl _ _) (by kernel_rfl) (by kernel_rfl) ?_
    repeat (go_big_quiet_step (first
      | (go_at_call 24; with_reducible exact Calls.later (HS.out _))
      | (go_at_call 16; with_reducible exact Calls.later (H1.out _))
      | (go_at_call 16; with_reducible exact Calls.later (H2.out _))))
    refine wpQuiet_nil ?_
    intro _ hx
    obtain ⟨⟨w7, hb7⟩, hx⟩ := hx
    subst hx
    rename_i w7
    go_wp2_with fail
    go_ret
    exact ⟨rfl, m3.trans (hb7.mono m3.size)⟩
  · have m1 : obj ((w5.setCell ⟨w4.heap.size, 0, none⟩ (.int .i64 188)).setCell ⟨w4.heap.size, 1, none⟩ (.int .i64 1)) n1 = some (.cells #[.int .i64 57, .int .i64 0] 25 (0, 0)) := by rw [obj_setCell_ne _ _ _ _ (by simp; omega), obj_setCell_ne _ _ _ _ (by simp; omega)]; exact (obj_below g5 pz).trans p
    have m2 : obj ((w5.setCell ⟨w4.heap.size, 0, none⟩ (.int .i64 188)).setCell ⟨w4.heap.size, 1, none⟩ (.int .i64 1)) w4.heap.size = some (.cells #[.int .i64 188, .int .i64 1] 25 (0, 0)) := obj_setCell_at _ (i := 1) (obj_setCell_at _ (i := 0) k5)
    have m3 : Below w.heap.size w ((w5.setCell ⟨w4.heap.size, 0, none⟩ (.int .i64 188)).setCell ⟨w4.heap.size, 1, none⟩ (.int .i64 1)) := ((hB.trans (g5.mono hB.size)).setCell (by simp; have := hB.size; omega) _).setCell (by simp; have := hB.size; omega) _
    clear k6 k7 k8
    clear s0 s1 z5 r0 r1 z4 g4z g5z p0 p1
    generalize ((w5.setCell ⟨w4.heap.size, 0, none⟩ (.int .i64 188)).setCell ⟨w4.heap.size, 1, none⟩ (.int .i64 1)) = W2 at *
    generalize w4.heap.size = n at *
    have c0 : W2.cell? ⟨n1, 0, none⟩ = some (.int .i64 57) := cell_at m1 0
    have c1 : W2.cell? ⟨n1, 1, none⟩ = some (.int .i64 0) := cell_at m1 1
    have d0 : W2.cell? ⟨n, 0, none⟩ = some (.int .i64 188) := cell_at m2 0
    have d1 : W2.cell? ⟨n, 1, none⟩ = some (.int .i64 1) := cell_at m2 1
    have v1 := lt_of_obj m1
    have v2 := lt_of_obj m2
    clear p pz hB
    try clear g5
    try clear k5 k9
    try clear g4
    go_wp2_with fail
    refine wp_region_later W2 (Below.refl _ _) (by kernel_rfl) (by kernel_rfl) ?_
    repeat (go_big_quiet_step (first
      | (go_at_call 24; with_reducible exact Calls.later (HS.out _))
      | (go_at_call 16; with_reducible exact Calls.later (H1.out _))
      | (go_at_call 16; with_reducible exact Calls.later (H2.out _))))
    refine wpQuiet_nil ?_
    intro _ hx
    obtain ⟨⟨w7, hb7⟩, hx⟩ := hx
    subst hx
    rename_i w7
    go_wp2_with fail
    go_ret
    exact ⟨rfl, m3.trans (hb7.mono m3.size)⟩
  · have m1 : obj ((w5.setCell ⟨w3.heap.size, 0, none⟩ (.int .i64 188)).setCell ⟨w3.heap.size, 1, none⟩ (.int .i64 1)) n1 = some (.cells #[.int .i64 57, .int .i64 0] 25 (0, 0)) := by rw [obj_setCell_ne _ _ _ _ (by simp; omega), obj_setCell_ne _ _ _ _ (by simp; omega)]; exact (obj_below g5 pz).trans p
    have m2 : obj ((w5.setCell ⟨w3.heap.size, 0, none⟩ (.int .i64 188)).setCell ⟨w3.heap.size, 1, none⟩ (.int .i64 1)) w3.heap.size = some (.cells #[.int .i64 188, .int .i64 1] 25 (0, 0)) := obj_setCell_at _ (i := 1) (obj_setCell_at _ (i := 0) k5)
    have m3 : Below w.heap.size w ((w5.setCell ⟨w3.heap.size, 0, none⟩ (.int .i64 188)).setCell ⟨w3.heap.size, 1, none⟩ (.int .i64 1)) := ((hB.trans (g5.mono hB.size)).setCell (by simp; have := hB.size; omega) _).setCell (by simp; have := hB.size; omega) _
    clear k6 k7 k8
    clear s0 s1 z5 r0 r1 z4 g4z g5z p0 p1
    generalize ((w5.setCell ⟨w3.heap.size, 0, none⟩ (.int .i64 188)).setCell ⟨w3.heap.size, 1, none⟩ (.int .i64 1)) = W2 at *
    generalize w3.heap.size = n at *
    have c0 : W2.cell? ⟨n1, 0, none⟩ = some (.int .i64 57) := cell_at m1 0
    have c1 : W2.cell? ⟨n1, 1, none⟩ = some (.int .i64 0) := cell_at m1 1
    have d0 : W2.cell? ⟨n, 0, none⟩ = some (.int .i64 188) := cell_at m2 0
    have d1 : W2.cell? ⟨n, 1, none⟩ = some (.int .i64 1) := cell_at m2 1
    have v1 := lt_of_obj m1
    have v2 := lt_of_obj m2
    clear p pz hB
    try clear g5
    try clear k5 k9
    try clear g4
    go_wp2_with fail
    refine wp_region_later W2 (Below.refl _ _) (by kernel_rfl) (by kernel_rfl) ?_
    repeat (go_big_quiet_step (first
      | (go_at_call 24; with_reducible exact Calls.later (HS.out _))
      | (go_at_call 16; with_reducible exact Calls.later (H1.out _))
      | (go_at_call 16; with_reducible exact Calls.later (H2.out _))))
    refine wpQuiet_nil ?_
    intro _ hx
    obtain ⟨⟨w7, hb7⟩, hx⟩ := hx
    subst hx
    rename_i w7
    go_wp2_with fail
    go_ret
    exact ⟨rfl, m3.trans (hb7.mono m3.size)⟩
end Go.Proofs.Ytojdgmeefnaejaa
