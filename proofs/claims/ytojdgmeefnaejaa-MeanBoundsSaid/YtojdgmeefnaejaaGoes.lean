import Derived.Test.YtojdgmeefnaejaaLive
namespace Go.Proofs.Ytojdgmeefnaejaa
open Go.RowKit

set_option maxRecDepth 100000 in
set_option maxHeartbeats 2000000 in
theorem goes_any (r : RuleD) (m x : MeanD) (w : World) : Calls Try.prog 4 #[ruleV r, meanV m, meanV x] w fun e w' => e = .returned (.bool true) ∧ Below w.heap.size w w' := by
  have h1 := fun w => obs_any r m x.value x.at_ w
  have h2 := fun w => robs_any r m x.value x.at_ w
  generalize obsR r m x.value x.at_ = o at h1 h2
  obtain ⟨y, e⟩ := o
  simp only [ruleV, meanV] at h1 h2
  have H1 := Lib.hid h1
  have H2 := Lib.hid h2
  clear h1 h2
  unfold ruleV meanV
  go_enter Try.func4, Try.ntmps4
  go_wp2_with fail
  refine (H1.out _).mono ?_
  rintro _ w1 ⟨rfl, hb1⟩
  have o1 := (obj_below hb1 (n := w.heap.size) (by simp; omega)).trans ((by rw [obj_alloc_past _ _ _ (by simp; omega), obj_alloc_past _ _ _ (by simp)]; exact obj_alloc_at _ _ _ rfl) : _ = some (.cells #[.int .i64 r.first, .int .i64 r.min, .int .i64 r.max, .int .i64 r.half, .int .i64 r.quart] 23 (0, 0)))
  have o2 := (obj_below hb1 (n := w.heap.size + 1) (by simp)).trans ((by rw [obj_alloc_past _ _ _ (by simp)]; exact obj_alloc_at _ _ _ (by simp)) : _ = some (.cells #[.int .i64 m.value, .int .i64 m.at_] 25 (0, 0)))
  have o3 := (obj_below hb1 (n := w.heap.size + 1 + 1) (by simp)).trans ((obj_alloc_at _ _ _ (by simp)) : _ = some (.cells #[.int .i64 x.value, .int .i64 x.at_] 25 (0, 0)))
  have hB : Below w.heap.size w w1 := ((((Below.refl _ _).alloc (Nat.le_refl _) _).alloc (by simp) _).alloc (by simp; omega) _).trans (hb1.mono (by simp; omega))
  clear hb1
  have z1 := lt_of_obj o1
  have z2 := lt_of_obj o2
  have z3 := lt_of_obj o3
  have a0 := cell_at o1 0
  have a1 := cell_at o1 1
  have a2 := cell_at o1 2
  have a3 := cell_at o1 3
  have a4 := cell_at o1 4
  have b0 := cell_at o2 0
  have b1 := cell_at o2 1
  have c0 := cell_at o3 0
  have c1 := cell_at o3 1
  simp at a0 a1 a2 a3 a4 b0 b1 c0 c1
  go_wp2_with fail
  refine (H2.out _).mono ?_
  rintro _ w2 ⟨rfl, hb2⟩
  have p1 := (obj_below hb2 (n := w1.heap.size) (by simp)).trans ((obj_alloc_at _ _ _ rfl) : _ = some (.cells #[.int .i64 y.value, .int .i64 y.at_] 25 (0, 0)))
  have hB2 : Below w.heap.size w w2 := (hB.alloc hB.size _).trans (hb2.mono (by have := hB.size; simp; omega))
  have z4 := lt_of_obj p1
  have d0 := cell_at p1 0
  have d1 := cell_at p1 1
  simp at d0 d1
  clear hb2
  go_wp2_with ((go_at_call 11; refine (live_any _).mono ?_; rintro _ w3 ⟨rfl, hb3⟩; have q1 := (obj_below hb3 (n := w1.heap.size) (by simp; omega)).trans ((obj_alloc_past _ _ _ z4).trans p1); have q2 := (obj_below hb3 (n := w2.heap.size) (by simp)).trans ((obj_alloc_at _ _ _ rfl) : _ = some (.cells #[.int .i64 y.value, .int .i64 y.at_] 25 (0, 0))); have e0 := cell_at q1 0; have e1 := cell_at q1 1; have f0 := cell_at q2 0; have f1 := cell_at q2 1; simp at e0 e1 f0 f1))
  go_ret
  exact ⟨rfl, (hB2.alloc hB2.size _).trans (hb3.mono (by have := hB2.size; simp; omega))⟩
open Classical in
noncomputable def chkR (r : RuleD) : Int := if RuleOk r then 0 else 130
theorem check_any (r : RuleD) (w : World) : Calls Try.prog 12 #[ruleV r] w fun e w' => e = .returned (.int .i64 (chkR r)) ∧ Below w.heap.size w w' := by
  unfold chkR
  by_cases h : RuleOk r
  · rw [if_pos h]; exact check_ok r w h
  · rw [if_neg h]; exact check_bad r w h
theorem rcheck_any (r : RuleD) (w : World) : Calls Try.prog 13 #[ruleV r] w fun e w' => e = .returned (.int .i64 (chkR r)) ∧ Below w.heap.size w w' := by
  unfold chkR
  by_cases h : RuleOk r
  · rw [if_pos h]; exact rcheck_ok r w h
  · rw [if_neg h]; exact rcheck_bad r w h
open Classical in
noncomputable def mayR (r : RuleD) (m : MeanD) : Int := if MeanOk r m then 0 else 130
theorem may_all (r : RuleD) (m : MeanD) (w : World) : Calls Try.prog 14 #[ruleV r, meanV m] w fun e w' => e = .returned (.int .i64 (mayR r m)) ∧ Below w.heap.size w w' := by
  unfold mayR
  by_cases h : MeanOk r m
  · rw [if_pos h]; exact may_ok r m w h
  · rw [if_neg h]; exact may_bad r m w h
theorem rmay_all (r : RuleD) (m : MeanD) (w : World) : Calls Try.prog 15 #[ruleV r, meanV m] w fun e w' => e = .returned (.int .i64 (mayR r m)) ∧ Below w.heap.size w w' := by
  unfold mayR
  by_cases h : MeanOk r m
  · rw [if_pos h]; exact rmay_ok r m w h
  · rw [if_neg h]; exact rmay_bad r m w h
set_option maxRecDepth 100000 in
set_option maxHeartbeats 2000000 in
theorem is_any (r : RuleD) (m : MeanD) (now : Int) (w : World) : Calls Try.prog 3 #[ruleV r, meanV m, .int .i64 now] w fun e w' => e = .returned (.bool true) ∧ Below w.heap.size w w' := by
  have h1 := fun w => new_any r now w
  have h2 := fun w => rnew_any r now w
  generalize newR r now = o at h1 h2
  obtain ⟨y, e⟩ := o
  have h3 := fun w => check_any r w
  have h4 := fun w => rcheck_any r w
  have h5 := fun w => may_all r m w
  have h6 := fun w => rmay_all r m w
  have h7 := fun w => tmo_any r m w
  have h8 := fun w => rtmo_any r m w
  generalize chkR r = k1 at h3 h4
  generalize mayR r m = k2 at h5 h6
  generalize tmoR r m = k3 at h7 h8
  simp only [ruleV, meanV] at h1 h2 h3 h4 h5 h6 h7 h8
  have H1 := Lib.hid h1
  have H2 := Lib.hid h2
  have H3 := Lib.hid h3
  have H4 := Lib.hid h4
  have H5 := Lib.hid h5
  have H6 := Lib.hid h6
  have H7 := Lib.hid h7
  have H8 := Lib.hid h8
  clear h1 h2 h3 h4 h5 h6 h7 h8
  unfold ruleV meanV
  go_enter Try.func3, Try.ntmps3
  go_wp2_with fail
  refine (H1.out _).mono ?_
  rintro _ w1 ⟨rfl, hb1⟩
  have o1 := (obj_below hb1 (n := w.heap.size) (by simp; omega)).trans ((by rw [obj_alloc_past _ _ _ (by simp)]; exact obj_alloc_at _ _ _ rfl) : _ = some (.cells #[.int .i64 r.first, .int .i64 r.min, .int .i64 r.max, .int .i64 r.half, .int .i64 r.quart] 23 (0, 0)))
  have o2 := (obj_below hb1 (n := w.heap.size + 1) (by simp)).trans ((obj_alloc_at _ _ _ (by simp)) : _ = some (.cells #[.int .i64 m.value, .int .i64 m.at_] 25 (0, 0)))
  have hB : Below w.heap.size w w1 := (((Below.refl _ _).alloc (Nat.le_refl _) _).alloc (by simp) _).trans (hb1.mono (by simp; omega))
  clear hb1
  have z1 := lt_of_obj o1
  have z2 := lt_of_obj o2
  have a0 := cell_at o1 0
  have a1 := cell_at o1 1
  have a2 := cell_at o1 2
  have a3 := cell_at o1 3
  have a4 := cell_at o1 4
  have b0 := cell_at o2 0
  have b1 := cell_at o2 1
  simp at a0 a1 a2 a3 a4 b0 b1
  go_wp2_with fail
  refine (H2.out _).mono ?_
  rintro _ w2 ⟨rfl, hb2⟩
  clear a0 a1 a2 a3 a4 b0 b1
  have p1 := (obj_below hb2 (n := w1.heap.size) (by simp)).trans ((obj_alloc_at _ _ _ rfl) : _ = some (.cells #[.int .i64 y.value, .int .i64 y.at_] 25 (0, 0)))
  have p2 := (obj_below hb2 (n := w.heap.size) (by simp; omega)).trans ((obj_alloc_past _ _ _ z1).trans o1)
  have p3 := (obj_below hb2 (n := w.heap.size + 1) (by simp; omega)).trans ((obj_alloc_past _ _ _ z2).trans o2)
  have hB2 : Below w.heap.size w w2 := (hB.alloc hB.size _).trans (hb2.mono (by have := hB.size; simp; omega))
  clear hb2
  go_wp2_with fail
  have hB3 : Below w.heap.size w (w2.alloc (.cells #[.int .i64 y.value, .int .i64 y.at_] 25 (0, 0))) := hB2.alloc hB2.size _
  have q1 := (obj_alloc_past w2 (.cells #[.int .i64 y.value, .int .i64 y.at_] 25 (0, 0)) _ (lt_of_obj p1)).trans p1
  have q2 := (obj_alloc_past w2 (.cells #[.int .i64 y.value, .int .i64 y.at_] 25 (0, 0)) _ (lt_of_obj p2)).trans p2
  have q3 := (obj_alloc_past w2 (.cells #[.int .i64 y.value, .int .i64 y.at_] 25 (0, 0)) _ (lt_of_obj p3)).trans p3
  have q4 : obj (w2.alloc (.cells #[.int .i64 y.value, .int .i64 y.at_] 25 (0, 0))) w2.heap.size = some (.cells #[.int .i64 y.value, .int .i64 y.at_] 25 (0, 0)) := obj_alloc_at _ _ _ rfl
  generalize w2.alloc (.cells #[.int .i64 y.value, .int .i64 y.at_] 25 (0, 0)) = w3 at *
  generalize w2.heap.size = n2 at *
  generalize w1.heap.size = n1 at *
  clear p1 p2 p3 o1 o2 hB hB2 z1 z2
  have z1 := lt_of_obj q1
  have z2 := lt_of_obj q2
  have z3 := lt_of_obj q3
  have z4 := lt_of_obj q4
  have a0 := cell_at q2 0
  have a1 := cell_at q2 1
  have a2 := cell_at q2 2
  have a3 := cell_at q2 3
  have a4 := cell_at q2 4
  have b0 := cell_at q3 0
  have b1 := cell_at q3 1
  have c0 := cell_at q1 0
  have c1 := cell_at q1 1
  have d0 := cell_at q4 0
  have d1 := cell_at q4 1
  simp at a0 a1 a2 a3 a4 b0 b1 c0 c1 d0 d1
  refine wp_region_later w3 (Below.refl _ _) (by kernel_rfl) (by kernel_rfl) ?_
  repeat (go_big_quiet_step (first
    | (go_at_call 11; with_reducible exact Calls.later (live_any _))
    | (go_at_call 12; with_reducible exact Calls.later (H3.out _))
    | (go_at_call 13; with_reducible exact Calls.later (H4.out _))
    | (go_at_call 14; with_reducible exact Calls.later (H5.out _))
    | (go_at_call 15; with_reducible exact Calls.later (H6.out _))
    | (go_at_call 16; with_reducible exact Calls.later (H7.out _))
    | (go_at_call 17; with_reducible exact Calls.later (H8.out _))))
  refine wpQuiet_nil ?_
  intro _ hx
  obtain ⟨⟨w7, hb7⟩, hx⟩ := hx
  subst hx
  rename_i w7
  go_wp2_with fail
  go_ret
  exact ⟨rfl, hB3.trans (hb7.mono hB3.size)⟩
end Go.Proofs.Ytojdgmeefnaejaa
