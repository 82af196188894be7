import Derived.Test.YtagpclgappcnbaaLaw
namespace Go.Proofs.Ytagpclgappcnbaa
open Go.ChangeShapes Go.WideShapes Go.ChangeAt Go.RowKit

/-! ### arguments that are slices, opened -/
section
variable {H : Type} {enc : TypeId × Value → H} {P : Program}
/-- a slice that came in, of elements each of which is of a form -/
theorem open_row {α : Type} [Inhabited α] {t e : TypeId} {k : Nat} (ht : P.underlying t = some (.slice e)) (hk : P.cellsOf e = k) (hk0 : 0 < k) {encL : α → List Value} (hlen : ∀ x, (encL x).length = k) {Q : α → Prop} {W : World}
    (hd : ∀ fuel cs y, DataW.trod enc P W 0 (fun _ => true) true fuel e cs = some y → ∃ x, cs = encL x ∧ Q x)
    {oa : Option Addr} {len cap : Nat} {d : DataW H} {p : List MemPlace} (h : DataW.Trod enc P W 0 (fun _ => true) true t (.slice oa len cap) d p) :
    ∃ xs : List α, SlIn W (.slice oa len cap) k encL xs ∧ xs.length = len ∧ ∀ x ∈ xs, Q x := by
  obtain ⟨hlc, hcap, hsh⟩ := slice_shape (k := k) ht hk hk0 h
  by_cases h0 : 0 < len
  · obtain ⟨b, off, rfl, hb, C, hC⟩ := hsh h0
    obtain ⟨X, hX⟩ := Go.Deep.choose_lt (α := α) (p := fun i x => C i = encL x ∧ Q x) (fun i hi => by
      obtain ⟨_, _, fuel, y, hy⟩ := hC i hi
      exact hd _ _ _ hy)
    have hl : ((List.range len).map X).length = len := by simp
    refine ⟨(List.range len).map X, ⟨_, cap, by rw [hl], by rw [hl]; exact hlc, hcap, fun _ => ⟨b, off, rfl, hb, fun j hj => ?_⟩⟩, hl, fun x hx => ?_⟩
    · rw [hl] at hj
      have := (hC j hj).2.1
      rw [(hX j hj).1] at this
      rw [show ((List.range len).map X)[j] = X j by simp]
      exact subOf_of_cells (hlen _) hk0 (fun i hi => this i hi)
    · simp only [List.mem_map, List.mem_range] at hx
      obtain ⟨i, hi, rfl⟩ := hx
      exact (hX i hi).2
  · have : len = 0 := by omega
    subst this
    exact ⟨[], ⟨oa, cap, rfl, Nat.zero_le _, hcap, fun h => absurd h (Nat.lt_irrefl _)⟩, rfl, by simp⟩
/-- an element that is one integer -/
theorem int_cells {e : TypeId} {q : IntKind} (he : P.underlying e = some (.int q)) {W : World} {base : Nat} {sp : Nat → Bool} {held : Bool} {fuel : Nat} {cs : List Value} {y : DataW H × List MemPlace}
    (h : DataW.trod enc P W base sp held fuel e cs = some y) : ∃ n : Int, cs = [.int q n] ∧ (Lit.int q n).wf = true := by
  obtain ⟨n, h1, _, h2⟩ := DataW.trod_int he h
  exact ⟨n, h1, h2⟩
/-- an element that is a struct of two integers of one kind -/
theorem pair_cells {e : TypeId} {q : IntKind} {fs : Array Field} (ht : P.underlying e = some (.struct fs)) (hs : fs.size = 2) (hk : P.cellsOf e = 2) (hf : ∀ (i : Nat) (f : Field), fs[i]? = some f → f.offset = i ∧ P.underlying f.type = some (.int q) ∧ P.cellsOf f.type = 1)
    {W : World} {base : Nat} {sp : Nat → Bool} {held : Bool} {fuel : Nat} {cs : List Value} {y : DataW H × List MemPlace} (h : DataW.trod enc P W base sp held fuel e cs = some y) :
    ∃ a b : Int, cs = [.int q a, .int q b] ∧ (Lit.int q a).wf = true ∧ (Lit.int q b).wf = true := by
  have hh := struct_ints ht hf h
  obtain ⟨_, _, _, _, hl, _, _⟩ := DataW.trod_struct ht h
  rw [hk] at hl
  rw [hs] at hh
  obtain ⟨a, g0, w0⟩ := hh 0 (by decide)
  obtain ⟨b, g1, w1⟩ := hh 1 (by decide)
  match cs, hl, g0, g1 with
  | [x, y], _, g0, g1 =>
    simp at g0 g1
    subst g0 g1
    exact ⟨a, b, rfl, w0, w1⟩
/-- an element that is a struct of three integers of one kind -/
theorem triple_cells {e : TypeId} {q : IntKind} {fs : Array Field} (ht : P.underlying e = some (.struct fs)) (hs : fs.size = 3) (hk : P.cellsOf e = 3) (hf : ∀ (i : Nat) (f : Field), fs[i]? = some f → f.offset = i ∧ P.underlying f.type = some (.int q) ∧ P.cellsOf f.type = 1)
    {W : World} {base : Nat} {sp : Nat → Bool} {held : Bool} {fuel : Nat} {cs : List Value} {y : DataW H × List MemPlace} (h : DataW.trod enc P W base sp held fuel e cs = some y) :
    ∃ a b c : Int, cs = [.int q a, .int q b, .int q c] ∧ (Lit.int q a).wf = true ∧ (Lit.int q b).wf = true ∧ (Lit.int q c).wf = true := by
  have hh := struct_ints ht hf h
  obtain ⟨_, _, _, _, hl, _, _⟩ := DataW.trod_struct ht h
  rw [hk] at hl
  rw [hs] at hh
  obtain ⟨a, g0, w0⟩ := hh 0 (by decide)
  obtain ⟨b, g1, w1⟩ := hh 1 (by decide)
  obtain ⟨c, g2, w2⟩ := hh 2 (by decide)
  match cs, hl, g0, g1, g2 with
  | [x, y, z], _, g0, g1, g2 =>
    simp at g0 g1 g2
    subst g0 g1 g2
    exact ⟨a, b, c, rfl, w0, w1, w2⟩
end
end Go.Proofs.Ytagpclgappcnbaa
