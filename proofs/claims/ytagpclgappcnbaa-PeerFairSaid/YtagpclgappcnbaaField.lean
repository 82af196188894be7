import Derived.Test.YtagpclgappcnbaaOpen
namespace Go.Proofs.Ytagpclgappcnbaa
open Go.ChangeShapes Go.WideShapes Go.ChangeAt Go.RowKit

/-! ### structs of unlike fields, opened field by field -/
section
variable {H : Type} {enc : TypeId × Value → H} {P : Program}
theorem struct_cell {t : TypeId} {fs : Array Field} (ht : P.underlying t = some (.struct fs)) {W : World} {base : Nat} {sp : Nat → Bool} {held : Bool} {fuel : Nat} {cs : List Value} {x : DataW H × List MemPlace} (h : DataW.trod enc P W base sp held fuel t cs = some x)
    {i : Nat} {f : Field} (hf : fs[i]? = some f) : ∃ fu y, DataW.trod enc P W base sp held fu f.type ((cs.drop f.offset).take (P.cellsOf f.type)) = some y := by
  obtain ⟨xs, n, _, _, _, hxl, hx⟩ := DataW.trod_struct ht h
  have hi := (Array.getElem?_eq_some_iff.1 hf).1
  have h4 := hx i f hf
  have h5 : xs[i]? = some (xs[i]'(by omega)) := by simp [hxl, hi]
  rw [h5] at h4
  exact ⟨_, _, h4⟩
theorem take1 {cs : List Value} {o : Nat} {v : Value} (h : (cs.drop o).take 1 = [v]) : cs[o]? = some v := by
  have : ((cs.drop o).take 1)[0]? = some v := by rw [h]; rfl
  simpa using this
theorem cell_int {t : TypeId} {fs : Array Field} (ht : P.underlying t = some (.struct fs)) {W : World} {base : Nat} {sp : Nat → Bool} {held : Bool} {fuel : Nat} {cs : List Value} {x : DataW H × List MemPlace} (h : DataW.trod enc P W base sp held fuel t cs = some x)
    (i : Nat) {f : Field} (hf : fs[i]? = some f) {q : IntKind} (hq : P.underlying f.type = some (.int q)) (hk : P.cellsOf f.type = 1) : ∃ n : Int, cs[f.offset]? = some (.int q n) ∧ (Lit.int q n).wf = true := by
  obtain ⟨fu, y, h1⟩ := struct_cell ht h hf
  rw [hk] at h1
  obtain ⟨n, h2, _, h3⟩ := DataW.trod_int hq h1
  exact ⟨n, take1 h2, h3⟩
theorem cell_bool {t : TypeId} {fs : Array Field} (ht : P.underlying t = some (.struct fs)) {W : World} {base : Nat} {sp : Nat → Bool} {held : Bool} {fuel : Nat} {cs : List Value} {x : DataW H × List MemPlace} (h : DataW.trod enc P W base sp held fuel t cs = some x)
    (i : Nat) {f : Field} (hf : fs[i]? = some f) (hq : P.underlying f.type = some .bool) (hk : P.cellsOf f.type = 1) : ∃ b : Bool, cs[f.offset]? = some (.bool b) := by
  obtain ⟨fu, y, h1⟩ := struct_cell ht h hf
  rw [hk] at h1
  obtain ⟨n, h2, _⟩ := DataW.trod_bool hq h1
  exact ⟨n, take1 h2⟩
theorem cell_string {t : TypeId} {fs : Array Field} (ht : P.underlying t = some (.struct fs)) {W : World} {base : Nat} {sp : Nat → Bool} {held : Bool} {fuel : Nat} {cs : List Value} {x : DataW H × List MemPlace} (h : DataW.trod enc P W base sp held fuel t cs = some x)
    (i : Nat) {f : Field} (hf : fs[i]? = some f) (hq : P.underlying f.type = some .string) (hk : P.cellsOf f.type = 1) : ∃ s : ByteArray, cs[f.offset]? = some (.string s) ∧ s.size ≤ maxLen := by
  obtain ⟨fu, y, h1⟩ := struct_cell ht h hf
  rw [hk] at h1
  obtain ⟨n, h2, _, h3⟩ := DataW.trod_string hq h1
  exact ⟨n, take1 h2, h3⟩
theorem struct_len {t : TypeId} {fs : Array Field} (ht : P.underlying t = some (.struct fs)) {W : World} {base : Nat} {sp : Nat → Bool} {held : Bool} {fuel : Nat} {cs : List Value} {x : DataW H × List MemPlace} (h : DataW.trod enc P W base sp held fuel t cs = some x) : cs.length = P.cellsOf t := by
  obtain ⟨_, _, _, _, hl, _, _⟩ := DataW.trod_struct ht h
  exact hl
end
end Go.Proofs.Ytagpclgappcnbaa
