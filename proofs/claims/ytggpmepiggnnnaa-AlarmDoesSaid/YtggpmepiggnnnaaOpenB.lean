import Derived.Test.YtggpmepiggnnnaaOpen
import Derived.Test.YtggpmepiggnnnaaKeepsLaw
namespace Go.Proofs.Ytggpmepiggnnnaa
open Go.ChangeShapes Go.WideShapes Go.ChangeAt Go.RowKit

theorem cells55 : Try.prog.cellsOf 55 = 3 := by kernel_rfl
theorem fields55 : ∃ fs : Array Field, Try.prog.underlying 55 = some (.struct fs) ∧ fs.size = 3 ∧ ∀ (i : Nat) (f : Field), fs[i]? = some f → f.offset = i ∧ Try.prog.underlying f.type = some (.int .i64) ∧ Try.prog.cellsOf f.type = 1 := by
  refine ⟨_, Try.underlying55, rfl, ?_⟩
  intro i f hf
  match i, hf with
  | 0, hf => cases hf; exact ⟨rfl, Try.underlying3, by kernel_rfl⟩
  | 1, hf => cases hf; exact ⟨rfl, Try.underlying2, by kernel_rfl⟩
  | 2, hf => cases hf; exact ⟨rfl, Try.underlying2, by kernel_rfl⟩
  | n + 3, hf => simp at hf
section
variable {H : Type} {enc : TypeId × Value → H} {W : World}
theorem open_script {oa : Option Addr} {len cap : Nat} {d : DataW H} {p : List MemPlace} (h : DataW.Trod enc Try.prog W 0 (fun _ => true) true 52 (.slice oa len cap) d p) :
    ∃ xs : List Act3, SlIn W (.slice oa len cap) 3 opL xs ∧ xs.length = len ∧ ∀ x ∈ xs, (Lit.int .i64 x.d).wf = true ∧ (Lit.int .i64 x.t).wf = true ∧ (Lit.int .i64 x.k).wf = true := by
  refine open_row (α := Act3) Try.underlying52 cells55 (by decide) opL_length (fun fuel cs y hy => ?_) h
  obtain ⟨fs, h1, h2, h3⟩ := fields55
  obtain ⟨a, b, c, rfl, w1, w2, w3⟩ := triple_cells h1 h2 cells55 h3 hy
  exact ⟨⟨a, b, c⟩, rfl, w1, w2, w3⟩
end
end Go.Proofs.Ytggpmepiggnnnaa
