import Derived.Test.YtojdgmeefnaejaaPure
namespace Go.Proofs.Ytojdgmeefnaejaa
open Go.RowKit

set_option maxRecDepth 100000 in
set_option maxHeartbeats 2000000 in
theorem bet_any (r : RuleD) (m x : MeanD) (w : World) : Calls Try.prog 5 #[ruleV r, meanV m, meanV x] w fun e w' => e = .returned (.bool true) ∧ Below w.heap.size w w' := by
  have h1 := fun w => obs_any r m x.value x.at_ w
  have ho : (∃ c, c ≠ 0 ∧ obsR r m x.value x.at_ = (⟨0, 0⟩, c)) ∨ (MeanOk r m ∧ m.at_ ≤ x.at_ ∧ x.at_ ≤ 4611686018427387903 ∧ obsR r m x.value x.at_ = (⟨obsV r m x.value x.at_, x.at_⟩, 0)) := by
    unfold obsR
    by_cases h : MeanOk r m
    · rw [if_pos h]
      by_cases hn : m.at_ ≤ x.at_ ∧ x.at_ ≤ 4611686018427387903
      · rw [if_pos hn]; exact Or.inr ⟨h, hn.1, hn.2, rfl⟩
      · rw [if_neg hn]; exact Or.inl ⟨131, by decide, rfl⟩
    · rw [if_neg h]; exact Or.inl ⟨130, by decide, rfl⟩
  generalize obsR r m x.value x.at_ = o at h1 ho
  obtain ⟨y, e⟩ := o
  simp only [ruleV, meanV] at h1
  have H1 := Lib.hid h1
  have HO := Lib.hid ho
  clear h1 ho
  unfold ruleV meanV
  go_enter Try.func5, Try.ntmps5
  go_wp2_with fail
  refine (H1.out _).mono ?_
  rintro _ w1 ⟨rfl, hb1⟩
  have o1 := (obj_below hb1 (n := w.heap.size) (by simp; omega)).trans ((by rw [obj_alloc_past _ _ _ (by simp; omega), obj_alloc_past _ _ _ (by simp)]; exact obj_alloc_at _ _ _ rfl) : _ = some (.cells #[.int .i64 r.first, .int .i64 r.min, .int .i64 r.max, .int .i64 r.half, .int .i64 r.quart] 23 (0, 0)))
  have o2 := (obj_below hb1 (n := w.heap.size + 1) (by simp)).trans ((by rw [obj_alloc_past _ _ _ (by simp)]; exact obj_alloc_at _ _ _ (by simp)) : _ = some (.cells #[.int .i64 m.value, .int .i64 m.at_] 25 (0, 0)))
  have o3 := (obj_below hb1 (n := w.heap.size + 1 + 1) (by simp)).trans ((obj_alloc_at _ _ _ (by simp)) : _ = some (.cells #[.int .i64 x.value, .int .i64 x.at_] 25 (0, 0)))
  have hB : Below w.heap.size w w1 := ((((Below.refl _ _).alloc (Nat.le_refl _) _).alloc (by simp) _).alloc (by simp; omega) _).trans (hb1.mono (by simp; omega))
  clear hb1
  have z1 := lt_of_obj o1
  have z2 := lt_of_obj o2
  have z3 := lt_of_obj o3
  go_wp2_with fail
  refine (live_any _).mono ?_
  rintro _ w2 ⟨rfl, hb2⟩
  have p1 := (obj_below hb2 (n := w.heap.size) (by simp; omega)).trans ((obj_alloc_past _ _ _ z1).trans o1)
  have p2 := (obj_below hb2 (n := w.heap.size + 1) (by simp; omega)).trans ((obj_alloc_past _ _ _ z2).trans o2)
  have p3 := (obj_below hb2 (n := w.heap.size + 1 + 1) (by simp; omega)).trans ((obj_alloc_past _ _ _ z3).trans o3)
  have p4 := (obj_below hb2 (n := w1.heap.size) (by simp)).trans ((obj_alloc_at _ _ _ rfl) : _ = some (.cells #[.int .i64 y.value, .int .i64 y.at_] 25 (0, 0)))
  have hB2 : Below w.heap.size w w2 := (hB.alloc hB.size _).trans (hb2.mono (by have := hB.size; simp; omega))
  clear hb2 z1 z2 z3
  generalize w1.heap.size = n1 at *
  clear o1 o2 o3 hB
  have z1 := lt_of_obj p1
  have z2 := lt_of_obj p2
  have z3 := lt_of_obj p3
  have z4 := lt_of_obj p4
  have a0 := cell_at p1 0
  have a1 := cell_at p1 1
  have a2 := cell_at p1 2
  have a3 := cell_at p1 3
  have a4 := cell_at p1 4
  have b0 := cell_at p2 0
  have b1 := cell_at p2 1
  have c0 := cell_at p3 0
  have c1 := cell_at p3 1
  have d0 := cell_at p4 0
  have d1 := cell_at p4 1
  simp at a0 a1 a2 a3 a4 b0 b1 c0 c1 d0 d1
  rcases HO.out with ⟨c, hc0, hc⟩ | ⟨hm, hn1, hn2, hc⟩
  · simp only [Prod.mk.injEq] at hc
    obtain ⟨_, rfl⟩ := hc
    clear HO
    go_wp2_with fail
    refine (live_any _).mono ?_
    rintro _ w3 ⟨rfl, hb3⟩
    go_wp2_with fail
    go_ret
    exact ⟨rfl, hB2.trans (hb3.mono hB2.size)⟩
  · simp only [Prod.mk.injEq] at hc
    obtain ⟨rfl, rfl⟩ := hc
    clear HO
    have hbt := obs_between (took := x.value) hm hn1
    have hob := obs_bd (took := x.value) hm hn1
    obtain ⟨⟨h1, h2, h3, h4, h5, h6, h7, h8⟩, g1, g2, g3, g4⟩ := hm
    obtain ⟨t1, t2, t3, t4⟩ := hbt
    have t5 := hob.2.2.2.2.2.2.1
    have t6 := hob.2.2.2.2.2.2.2
    have hce : min (max x.value 0) r.max = clip 0 x.value r.max := by unfold clip; omega
    have hcl := clip_bd 0 x.value r.max (by omega)
    clear hob
    simp only at d0 d1
    generalize obsV r m x.value x.at_ = V at *
    go_wp2_with fail
    all_goals first
      | (exfalso; omega)
      | (go_ret; refine ⟨ret_bool ?_, hB2⟩; simp; omega)
      | (go_ret; exact ⟨rfl, hB2⟩)
      | trace_state
end Go.Proofs.Ytojdgmeefnaejaa
