import Derived.Test.YtagpclgappcnbaaBkX
namespace Go.Proofs.Ytagpclgappcnbaa
open Go.RowKit

structure FewR (w : World) (l : List Be.Vd) (e : Ending) (w' : World) : Prop where
  r : ∃ b, e = .returned (.bool b) ∧ (b = true → l.length ≤ 100 ∧ ∀ x ∈ l, x.name.size ≤ 200)
  hb : Below w.heap.size w w'
set_option maxRecDepth 100000 in
set_option maxHeartbeats 2000000 in
theorem few_any (w : World) (v : Value) (l : List Be.Vd) (h : SlIn w v 2 Be.vdL l) : Calls Try.prog 8 #[v] w (FewR w l) := by
  obtain ⟨oa, cap, rfl, g1, g2, g3⟩ := h
  have H3 := Lib.hid g3
  unfold maxLen at g2
  clear g3
  go_enter Try.func8, Try.ntmps8
  by_cases h1 : (100 : Int) < l.length
  · go_wp2_with fail
    go_ret
    exact ⟨⟨_, rfl, fun h => by cases h⟩, Below.refl _ _⟩
  go_wp2_with fail
  go_loopw [4, 10] (fun _ v10 wr => ∃ k : Nat, k ≤ l.length ∧ v10 = .int .i64 k ∧ Hid (Below w.heap.size w wr) ∧ Hid (∀ x ∈ l.take k, x.name.size ≤ 200)) (fun _ i _ => l.length - (intOf i).toNat)
  case atStart => exact ⟨0, Nat.zero_le _, rfl, Lib.hid (Below.refl _ _), Lib.hid (by simp)⟩
  case round =>
    obtain ⟨k, hk, rfl, HB, HS⟩ := hrel
    have hz := HB.out.size
    by_cases hlt : k < l.length
    · obtain ⟨b, off, rfl, hbb, hr⟩ := H3.out (by omega)
      have hs := hr k hlt
      rw [← obj_below HB.out hbb] at hs
      have hbr : b < wr.heap.size := by omega
      have NX : Hid (l[k].name.size ≤ 200 → ∀ x ∈ l.take (k + 1), x.name.size ≤ 200) := Lib.hid (fun h x hx => by
        rw [List.take_succ_eq_append_getElem hlt] at hx
        rcases List.mem_append.1 hx with hx | hx
        · exact HS.out x hx
        · simp at hx; subst hx; exact h)
      clear hr
      generalize l[k] = x at *
      obtain ⟨xn, xw⟩ := x
      simp only at NX
      have c0 : wr.cell? ⟨b, off + k * 2, none⟩ = some (.string xn) := by have := subOf_cell hs (j := 0) (by decide); simpa [Be.vdL] using this
      have c1 : wr.cell? ⟨b, off + k * 2 + 1, none⟩ = some (.int .i64 xw) := by have := subOf_cell hs (j := 1) (by decide); simpa [Be.vdL] using this
      have HBA : Hid (Below w.heap.size w (wr.alloc (.cells #[.string xn, .int .i64 xw] 54))) := Lib.hid (HB.out.alloc hz _)
      have hki : (k : Int) < l.length := by omega
      by_cases hn : xn.size ≤ 200
      · have hn1 : ¬ (200 : Int) < xn.size := by omega
        have HN := Lib.hid (NX.out hn)
        go_wp2_with fail
        go_roundw
        case rel => exact ⟨k + 1, by omega, by go_num, HBA, HN⟩
        case measure => simp [intOf]; omega
      · have hn1 : (200 : Int) < xn.size := by omega
        go_wp2_with fail
        go_ret
        exact ⟨⟨_, rfl, fun h => by cases h⟩, HBA.out⟩
    · have hk' : k = l.length := by omega
      subst hk'
      have HF : Hid (∀ x ∈ l, x.name.size ≤ 200) := Lib.hid (by have := HS.out; rwa [List.take_length] at this)
      go_wp2_with fail
      go_ret
      exact ⟨⟨_, rfl, fun _ => ⟨by omega, HF.out⟩⟩, HB.out⟩
end Go.Proofs.Ytagpclgappcnbaa
