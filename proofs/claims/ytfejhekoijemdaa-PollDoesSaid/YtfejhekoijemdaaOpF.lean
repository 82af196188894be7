import Derived.Test.YtfejhekoijemdaaLaw
namespace Go.Proofs.Ytfejhekoijemdaa
open Go.ChangeShapes Go.WideShapes Go.ChangeAt Go.RowKit

/-! ### arguments that are slices, opened -/
section
variable {H : Type} {enc : TypeId × Value → H} {P : Program}
/-- a slice that came in, of elements each of which is of a form -/
theorem open_row {α : Type} [Inhabited α] {t e : TypeId} {k : Nat} (ht : P.underlying t = some (.slice e)) (hk : P.cellsOf e = k) (hk0 : 0 < k) {encL : α → List Value} (hlen : ∀ x, (encL x).length = k) {Q : α → Prop} {W : World}
    (hd : ∀ fuel cs y, DataW.trod enc P W 0 (fun _ => true) true fuel e cs = some y → ∃ x, cs = encL x ∧ Q x)
    {oa : Option Addr} {len cap : Nat} {d : DataW H} {p : List MemPlace} (h : DataW.Trod enc P W 0 (fun _ => true) true t (.slice oa len cap) d p) :
    ∃ xs : List α, SlIn W (.slice oa len cap) k encL xs ∧ xs.length = len ∧ ∀ x ∈ xs, Q x := by
  obtain ⟨hlc, hcap, hsh⟩ := slice_shape (k := k) ht hk hk0 h
  by_cases h0 : 0 < len
  · obtain ⟨b, off, rfl, hb, C, hC⟩ := hsh h0
    obtain ⟨X, hX⟩ := Go.Deep.choose_lt (α := α) (p := fun i x => C i = encL x ∧ Q x) (fun i hi => by
      obtain ⟨_, _, fuel, y, hy⟩ := hC i hi
      exact hd _ _ _ hy)
    have hl : ((List.range len).map X).length = len := by simp
    refine ⟨(List.range len).map X, ⟨_, cap, by rw [hl], by rw [hl]; exact hlc, hcap, fun _ => ⟨b, off, rfl, hb, fun j hj => ?_⟩⟩, hl, fun x hx => ?_⟩
    · rw [hl] at hj
      have := (hC j hj).2.1
      rw [(hX j hj).1] at this
      rw [show ((List.range len).map X)[j] = X j by simp]
      exact subOf_of_cells (hlen _) hk0 (fun i hi => this i hi)
    · simp only [List.mem_map, List.mem_range] at hx
      obtain ⟨i, hi, rfl⟩ := hx
      exact (hX i hi).2
  · have : len = 0 := by omega
    subst this
    exact ⟨[], ⟨oa, cap, rfl, Nat.zero_le _, hcap, fun h => absurd h (Nat.lt_irrefl _)⟩, rfl, by simp⟩
/-- an element that is one integer -/
theorem int_cells {e : TypeId} {q : IntKind} (he : P.underlying e = some (.int q)) {W : World} {base : Nat} {sp : Nat → Bool} {held : Bool} {fuel : Nat} {cs : List Value} {y : DataW H × List MemPlace}
    (h : DataW.trod enc P W base sp held fuel e cs = some y) : ∃ n : Int, cs = [.int q n] ∧ (Lit.int q n).wf = true := by
  obtain ⟨n, h1, _, h2⟩ := DataW.trod_int he h
  exact ⟨n, h1, h2⟩
/-- an element that is a struct of two integers of one kind -/
theorem pair_cells {e : TypeId} {q : IntKind} {fs : Array Field} (ht : P.underlying e = some (.struct fs)) (hs : fs.size = 2) (hk : P.cellsOf e = 2) (hf : ∀ (i : Nat) (f : Field), fs[i]? = some f → f.offset = i ∧ P.underlying f.type = some (.int q) ∧ P.cellsOf f.type = 1)
    {W : World} {base : Nat} {sp : Nat → Bool} {held : Bool} {fuel : Nat} {cs : List Value} {y : DataW H × List MemPlace} (h : DataW.trod enc P W base sp held fuel e cs = some y) :
    ∃ a b : Int, cs = [.int q a, .int q b] ∧ (Lit.int q a).wf = true ∧ (Lit.int q b).wf = true := by
  have hh := struct_ints ht hf h
  obtain ⟨_, _, _, _, hl, _, _⟩ := DataW.trod_struct ht h
  rw [hk] at hl
  rw [hs] at hh
  obtain ⟨a, g0, w0⟩ := hh 0 (by decide)
  obtain ⟨b, g1, w1⟩ := hh 1 (by decide)
  match cs, hl, g0, g1 with
  | [x, y], _, g0, g1 =>
    simp at g0 g1
    subst g0 g1
    exact ⟨a, b, rfl, w0, w1⟩
/-- an element that is a struct of three integers of one kind -/
theorem triple_cells {e : TypeId} {q : IntKind} {fs : Array Field} (ht : P.underlying e = some (.struct fs)) (hs : fs.size = 3) (hk : P.cellsOf e = 3) (hf : ∀ (i : Nat) (f : Field), fs[i]? = some f → f.offset = i ∧ P.underlying f.type = some (.int q) ∧ P.cellsOf f.type = 1)
    {W : World} {base : Nat} {sp : Nat → Bool} {held : Bool} {fuel : Nat} {cs : List Value} {y : DataW H × List MemPlace} (h : DataW.trod enc P W base sp held fuel e cs = some y) :
    ∃ a b c : Int, cs = [.int q a, .int q b, .int q c] ∧ (Lit.int q a).wf = true ∧ (Lit.int q b).wf = true ∧ (Lit.int q c).wf = true := by
  have hh := struct_ints ht hf h
  obtain ⟨_, _, _, _, hl, _, _⟩ := DataW.trod_struct ht h
  rw [hk] at hl
  rw [hs] at hh
  obtain ⟨a, g0, w0⟩ := hh 0 (by decide)
  obtain ⟨b, g1, w1⟩ := hh 1 (by decide)
  obtain ⟨c, g2, w2⟩ := hh 2 (by decide)
  match cs, hl, g0, g1, g2 with
  | [x, y, z], _, g0, g1, g2 =>
    simp at g0 g1 g2
    subst g0 g1 g2
    exact ⟨a, b, c, rfl, w0, w1, w2⟩
end
end Go.Proofs.Ytfejhekoijemdaa
namespace Go.Proofs.Ytfejhekoijemdaa
open Go.ChangeShapes Go.WideShapes Go.ChangeAt Go.RowKit

/-! ### structs of unlike fields, opened field by field -/
section
variable {H : Type} {enc : TypeId × Value → H} {P : Program}
theorem struct_cell {t : TypeId} {fs : Array Field} (ht : P.underlying t = some (.struct fs)) {W : World} {base : Nat} {sp : Nat → Bool} {held : Bool} {fuel : Nat} {cs : List Value} {x : DataW H × List MemPlace} (h : DataW.trod enc P W base sp held fuel t cs = some x)
    {i : Nat} {f : Field} (hf : fs[i]? = some f) : ∃ fu y, DataW.trod enc P W base sp held fu f.type ((cs.drop f.offset).take (P.cellsOf f.type)) = some y := by
  obtain ⟨xs, n, _, _, _, hxl, hx⟩ := DataW.trod_struct ht h
  have hi := (Array.getElem?_eq_some_iff.1 hf).1
  have h4 := hx i f hf
  have h5 : xs[i]? = some (xs[i]'(by omega)) := by simp [hxl, hi]
  rw [h5] at h4
  exact ⟨_, _, h4⟩
theorem take1 {cs : List Value} {o : Nat} {v : Value} (h : (cs.drop o).take 1 = [v]) : cs[o]? = some v := by
  have : ((cs.drop o).take 1)[0]? = some v := by rw [h]; rfl
  simpa using this
theorem cell_int {t : TypeId} {fs : Array Field} (ht : P.underlying t = some (.struct fs)) {W : World} {base : Nat} {sp : Nat → Bool} {held : Bool} {fuel : Nat} {cs : List Value} {x : DataW H × List MemPlace} (h : DataW.trod enc P W base sp held fuel t cs = some x)
    (i : Nat) {f : Field} (hf : fs[i]? = some f) {q : IntKind} (hq : P.underlying f.type = some (.int q)) (hk : P.cellsOf f.type = 1) : ∃ n : Int, cs[f.offset]? = some (.int q n) ∧ (Lit.int q n).wf = true := by
  obtain ⟨fu, y, h1⟩ := struct_cell ht h hf
  rw [hk] at h1
  obtain ⟨n, h2, _, h3⟩ := DataW.trod_int hq h1
  exact ⟨n, take1 h2, h3⟩
theorem cell_bool {t : TypeId} {fs : Array Field} (ht : P.underlying t = some (.struct fs)) {W : World} {base : Nat} {sp : Nat → Bool} {held : Bool} {fuel : Nat} {cs : List Value} {x : DataW H × List MemPlace} (h : DataW.trod enc P W base sp held fuel t cs = some x)
    (i : Nat) {f : Field} (hf : fs[i]? = some f) (hq : P.underlying f.type = some .bool) (hk : P.cellsOf f.type = 1) : ∃ b : Bool, cs[f.offset]? = some (.bool b) := by
  obtain ⟨fu, y, h1⟩ := struct_cell ht h hf
  rw [hk] at h1
  obtain ⟨n, h2, _⟩ := DataW.trod_bool hq h1
  exact ⟨n, take1 h2⟩
theorem cell_string {t : TypeId} {fs : Array Field} (ht : P.underlying t = some (.struct fs)) {W : World} {base : Nat} {sp : Nat → Bool} {held : Bool} {fuel : Nat} {cs : List Value} {x : DataW H × List MemPlace} (h : DataW.trod enc P W base sp held fuel t cs = some x)
    (i : Nat) {f : Field} (hf : fs[i]? = some f) (hq : P.underlying f.type = some .string) (hk : P.cellsOf f.type = 1) : ∃ s : ByteArray, cs[f.offset]? = some (.string s) ∧ s.size ≤ maxLen := by
  obtain ⟨fu, y, h1⟩ := struct_cell ht h hf
  rw [hk] at h1
  obtain ⟨n, h2, _, h3⟩ := DataW.trod_string hq h1
  exact ⟨n, take1 h2, h3⟩
theorem struct_len {t : TypeId} {fs : Array Field} (ht : P.underlying t = some (.struct fs)) {W : World} {base : Nat} {sp : Nat → Bool} {held : Bool} {fuel : Nat} {cs : List Value} {x : DataW H × List MemPlace} (h : DataW.trod enc P W base sp held fuel t cs = some x) : cs.length = P.cellsOf t := by
  obtain ⟨_, _, _, _, hl, _, _⟩ := DataW.trod_struct ht h
  exact hl
end
end Go.Proofs.Ytfejhekoijemdaa
