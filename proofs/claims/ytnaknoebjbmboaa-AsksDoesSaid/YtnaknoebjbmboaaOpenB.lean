import Derived.Test.YtnaknoebjbmboaaOpen
import Derived.Test.YtnaknoebjbmboaaDoesLaw
namespace Go.Proofs.Ytnaknoebjbmboaa
open Go.ChangeShapes Go.WideShapes Go.ChangeAt Go.RowKit

theorem cellsOf45 : Try.prog.cellsOf 45 = 4 := by kernel_rfl
theorem fieldsOf45 : ∃ fs : Array Field, Try.prog.underlying 45 = some (.struct fs) ∧ fs.size = 4 ∧ ∀ (i : Nat) (f : Field), fs[i]? = some f → f.offset = i ∧ Try.prog.underlying f.type = some (.int .i64) ∧ Try.prog.cellsOf f.type = 1 := by
  refine ⟨_, Try.underlying45, rfl, ?_⟩
  intro i f hf
  match i, hf with
  | 0, hf => cases hf; exact ⟨rfl, Try.underlying3, by kernel_rfl⟩
  | 1, hf => cases hf; exact ⟨rfl, Try.underlying3, by kernel_rfl⟩
  | 2, hf => cases hf; exact ⟨rfl, Try.underlying3, by kernel_rfl⟩
  | 3, hf => cases hf; exact ⟨rfl, Try.underlying2, by kernel_rfl⟩
  | n + 4, hf => simp at hf
section
variable {H : Type} {enc : TypeId × Value → H} {P : Program}
/-- an element that is a struct of four integers of one kind -/
theorem quad_cells {e : TypeId} {q : IntKind} {fs : Array Field} (ht : P.underlying e = some (.struct fs)) (hs : fs.size = 4) (hk : P.cellsOf e = 4) (hf : ∀ (i : Nat) (f : Field), fs[i]? = some f → f.offset = i ∧ P.underlying f.type = some (.int q) ∧ P.cellsOf f.type = 1)
    {W : World} {base : Nat} {sp : Nat → Bool} {held : Bool} {fuel : Nat} {cs : List Value} {y : DataW H × List MemPlace} (h : DataW.trod enc P W base sp held fuel e cs = some y) :
    ∃ a b c d : Int, cs = [.int q a, .int q b, .int q c, .int q d] ∧ (Lit.int q a).wf = true ∧ (Lit.int q b).wf = true ∧ (Lit.int q c).wf = true ∧ (Lit.int q d).wf = true := by
  have hh := struct_ints ht hf h
  obtain ⟨_, _, _, _, hl, _, _⟩ := DataW.trod_struct ht h
  rw [hk] at hl
  rw [hs] at hh
  obtain ⟨a, g0, w0⟩ := hh 0 (by decide)
  obtain ⟨b, g1, w1⟩ := hh 1 (by decide)
  obtain ⟨c, g2, w2⟩ := hh 2 (by decide)
  obtain ⟨d, g3, w3⟩ := hh 3 (by decide)
  match cs, hl, g0, g1, g2, g3 with
  | [x, y, z, u], _, g0, g1, g2, g3 =>
    simp at g0 g1 g2 g3
    subst g0 g1 g2 g3
    exact ⟨a, b, c, d, rfl, w0, w1, w2, w3⟩
end
section
variable {H : Type} {enc : TypeId × Value → H} {W : World}
theorem open_script {oa : Option Addr} {len cap : Nat} {d : DataW H} {p : List MemPlace} (h : DataW.Trod enc Try.prog W 0 (fun _ => true) true 42 (.slice oa len cap) d p) :
    ∃ xs : List Op4, SlIn W (.slice oa len cap) 4 opL xs ∧ xs.length = len ∧ ∀ x ∈ xs, (Lit.int .i64 x.d).wf = true := by
  refine open_row (α := Op4) Try.underlying42 cellsOf45 (by decide) opL_length (fun fuel cs y hy => ?_) h
  obtain ⟨fs, h1, h2, h3⟩ := fieldsOf45
  obtain ⟨a, b, c, d, rfl, w1, w2, w3, w4⟩ := quad_cells h1 h2 cellsOf45 h3 hy
  exact ⟨⟨a, b, c, d⟩, rfl, w1⟩
end
end Go.Proofs.Ytnaknoebjbmboaa
