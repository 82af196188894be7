import Derived.Test.YtkjaabajomigkaaOpenB
namespace Go.Proofs.Ytkjaabajomigkaa
open Go.ChangeShapes Go.WideShapes Go.ChangeAt Go.RowKit
set_option linter.unusedVariables false

section
variable {H : Type} {enc : TypeId × Value → H}
set_option maxRecDepth 100000 in
theorem open_name {W : World} {base : Nat} {v : Value} {d : DataW H} {p : List MemPlace} (hv : Value.okWide Try.prog W .any base 27 v) (h : DataW.Trod enc Try.prog W 0 (fun _ => true) true 27 v d p) : ∃ a : ID, v = .agg (idL a).toArray := by
  refine open_id Try.underlying27 Try.underlying5 cells5 cells27 ?_ h
  simp only [Value.okWide, Try.underlying27] at hv
  obtain ⟨cs, h1, _⟩ := hv
  exact ⟨cs, h1⟩
set_option maxRecDepth 100000 in
theorem open_vote {W : World} {base : Nat} {v : Value} {d : DataW H} {p : List MemPlace} (hv : Value.okWide Try.prog W .any base 33 v) (h : DataW.Trod enc Try.prog W 0 (fun _ => true) true 33 v d p) : ∃ x : Vt, v = .agg (vtL x).toArray ∧ (Lit.int .i64 x.n).wf = true := by
  simp only [Value.okWide, Try.underlying33] at hv
  obtain ⟨cs, rfl, _⟩ := hv
  obtain ⟨fuel, hf⟩ := h
  obtain ⟨x, hx, hw⟩ := vote_cells hf
  refine ⟨x, ?_, hw⟩
  simp only [Value.cells] at hx
  rw [← hx]
def byL (n : Int) : List Value := [.int .u8 n]
theorem byL_length (n : Int) : (byL n).length = 1 := rfl
theorem open_bytes {W : World} {oa : Option Addr} {len cap : Nat} {d : DataW H} {p : List MemPlace} (h : DataW.Trod enc Try.prog W 0 (fun _ => true) true 50 (.slice oa len cap) d p) :
    ∃ xs : List Int, SlIn W (.slice oa len cap) 1 byL xs ∧ xs.length = len ∧ ∀ x ∈ xs, (Lit.int .u8 x).wf = true :=
  open_row (α := Int) Try.underlying50 cells5 (by decide) byL_length (fun fuel cs y hy => int_cells Try.underlying5 hy) h
end
end Go.Proofs.Ytkjaabajomigkaa
