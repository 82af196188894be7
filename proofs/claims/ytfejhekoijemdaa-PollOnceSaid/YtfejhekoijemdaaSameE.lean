import Derived.Test.YtfejhekoijemdaaSameV
namespace Go.Proofs.Ytfejhekoijemdaa
open Go.RowKit

set_option maxRecDepth 100000 in
set_option maxHeartbeats 2000000 in
/-- flurryref18.SameEnds, of the same polls' ends -/
theorem sameEnds_yes (w : World) (V1 V2 : Nat → Prop) (u v : Value) (es fs : List EndM) (l : List OneM) (h1 : SlIn w u 3 endL es) (h2 : SlIn w v 3 endL fs) (e1 : EndsAt w V1 es l) (e2 : EndsAt w V2 fs l) :
    Calls Try.prog 28 #[u, v] w fun e w' => e = .returned (.bool true) ∧ Below w.heap.size w w' := by
  obtain ⟨oa, ca, rfl, p1, p2, p3⟩ := h1
  obtain ⟨oc, cc, rfl, q1, q2, q3⟩ := h2
  unfold maxLen at p2 q2
  have P3 := Lib.hid p3
  have Q3 := Lib.hid q3
  have E1 := Lib.hid e1
  have E2 := Lib.hid e2
  obtain ⟨n, hn⟩ : ∃ n, n = es.length := ⟨_, rfl⟩
  have hn2 : fs.length = n := by rw [e2.1, hn, e1.1]
  have HA := Lib.hid hn
  have HC := Lib.hid hn2
  rw [← hn] at p1 ⊢
  rw [hn2] at q1 ⊢
  clear hn hn2 p3 q3 e1 e2
  go_enter Try.func28, Try.ntmps28
  go_wp2_with fail
  go_loopw [5] (fun v5 wr => ∃ k : Nat, k ≤ n ∧ v5 = .int .i64 k ∧ Hid (Below w.heap.size w wr)) (fun i _ => n - (intOf i).toNat)
  case atStart => exact ⟨0, Nat.zero_le _, rfl, Lib.hid (Below.refl _ _)⟩
  case round =>
    obtain ⟨k, hk, rfl, HB⟩ := hrel
    by_cases hlt : k < n
    · have hka : k < es.length := by rw [← HA.out]; exact hlt
      have hkc : k < fs.length := by rw [HC.out]; exact hlt
      have hkl : k < l.length := by rw [← E1.out.1]; exact hka
      obtain ⟨b1, o1, rfl, hb1, hr1⟩ := P3.out (by omega)
      obtain ⟨b2, o2, rfl, hb2, hr2⟩ := Q3.out (by omega)
      have s1 := hr1 k hka
      have s2 := hr2 k hkc
      rw [← obj_below HB.out hb1] at s1
      rw [← obj_below HB.out hb2] at s2
      have hz := HB.out.size
      have l1 : b1 < wr.heap.size := by omega
      have l2 : b2 < wr.heap.size := by omega
      have x1 := E1.out.2 k es[k] l[k] (List.getElem?_eq_getElem hka) (List.getElem?_eq_getElem hkl)
      have x2 := E2.out.2 k fs[k] l[k] (List.getElem?_eq_getElem hkc) (List.getElem?_eq_getElem hkl)
      have hi : es[k].id = fs[k].id := x1.id.trans x2.id.symm
      have hs : es[k].slots = fs[k].slots := x1.slots.trans x2.slots.symm
      have y1 := x1.vt.1.below HB.out
      have y2 := x2.vt.1.below HB.out
      clear hr1 hr2 hb1 hb2 x1 x2
      generalize l[k].votes = vs at *
      generalize es[k] = x at *
      generalize fs[k] = y at *
      obtain ⟨i1, a1, n1, c1, t1⟩ := x
      obtain ⟨i2, a2, n2, c2, t2⟩ := y
      simp only at hi hs
      subst hi hs
      have f10 : wr.cell? ⟨b1, o1 + k * 3, none⟩ = some (.int .i64 i1) := by have := subOf_cell s1 (j := 0) (by decide); simpa [endL] using this
      have f11 : wr.cell? ⟨b1, o1 + k * 3 + 1, none⟩ = some (.slice a1 n1 c1) := by have := subOf_cell s1 (j := 1) (by decide); simpa [endL] using this
      have f12 : wr.cell? ⟨b1, o1 + k * 3 + 2, none⟩ = some (.int .i64 t1) := by have := subOf_cell s1 (j := 2) (by decide); simpa [endL] using this
      have f20 : wr.cell? ⟨b2, o2 + k * 3, none⟩ = some (.int .i64 i1) := by have := subOf_cell s2 (j := 0) (by decide); simpa [endL] using this
      have f21 : wr.cell? ⟨b2, o2 + k * 3 + 1, none⟩ = some (.slice a2 n2 c2) := by have := subOf_cell s2 (j := 1) (by decide); simpa [endL] using this
      have f22 : wr.cell? ⟨b2, o2 + k * 3 + 2, none⟩ = some (.int .i64 t1) := by have := subOf_cell s2 (j := 2) (by decide); simpa [endL] using this
      have HV : Hid (∀ x : Later wr, Calls Try.prog 48 #[.slice a1 n1 c1, .slice a2 n2 c2] x.w fun e w' => e = .returned (.bool true) ∧ Below x.w.heap.size x.w w') := Lib.hid (fun x => by
        have := sameV_any x.w _ _ vs vs (y1.below x.h) (y2.below x.h)
        rw [decide_eq_true rfl] at this
        exact this)
      clear s1 s2 y1 y2 hka hkc hkl
      go_wp2_with fail
      refine wp_region_later wr (Below.refl _ _) (by kernel_rfl) (by kernel_rfl) ?_
      repeat (go_big_quiet_step (first | (go_at_call 48; with_reducible exact Calls.later (HV.out _))))
      refine wpQuiet_nil ?_
      intro _ hx
      obtain ⟨⟨w3, b3⟩, hx⟩ := hx
      subst hx
      rename_i w3
      have B3 := Lib.hid (HB.out.trans (b3.mono HB.out.size))
      clear b3
      go_wp2_with fail
      go_roundw
      case rel => exact ⟨k + 1, by omega, by go_num, B3⟩
      case measure => simp [intOf]; omega
    · go_wp2
      go_ret
      exact ⟨rfl, HB.out⟩
end Go.Proofs.Ytfejhekoijemdaa
