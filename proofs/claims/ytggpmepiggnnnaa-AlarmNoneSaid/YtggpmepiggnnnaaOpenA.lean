import Derived.Test.YtggpmepiggnnnaaOpen
import Derived.Test.YtggpmepiggnnnaaState
namespace Go.Proofs.Ytggpmepiggnnnaa
open Go.ChangeShapes Go.WideShapes Go.ChangeAt Go.RowKit

theorem cells32 : Try.prog.cellsOf 32 = 2 := by kernel_rfl
theorem cells36 : Try.prog.cellsOf 36 = 1 := by kernel_rfl
theorem fields32 : ∃ fs : Array Field, Try.prog.underlying 32 = some (.struct fs) ∧ fs.size = 2 ∧ ∀ (i : Nat) (f : Field), fs[i]? = some f → f.offset = i ∧ Try.prog.underlying f.type = some (.int .i64) ∧ Try.prog.cellsOf f.type = 1 := by
  refine ⟨_, Try.underlying32, rfl, ?_⟩
  intro i f hf
  match i, hf with
  | 0, hf => cases hf; exact ⟨rfl, Try.underlying2, by kernel_rfl⟩
  | 1, hf => cases hf; exact ⟨rfl, Try.underlying2, by kernel_rfl⟩
  | n + 2, hf => simp at hf
def uL (n : Int) : List Value := [.int .u16 n]
section
variable {H : Type} {enc : TypeId × Value → H} {W : World}
theorem open_alarms {oa : Option Addr} {len cap : Nat} {d : DataW H} {p : List MemPlace} (h : DataW.Trod enc Try.prog W 0 (fun _ => true) true 29 (.slice oa len cap) d p) :
    ∃ xs : List Al, SlIn W (.slice oa len cap) 2 alL xs ∧ xs.length = len ∧ ∀ x ∈ xs, (Lit.int .i64 x.1).wf = true ∧ (Lit.int .i64 x.2).wf = true := by
  refine open_row (α := Al) Try.underlying29 cells32 (by decide) alL_length (fun fuel cs y hy => ?_) h
  obtain ⟨fs, h1, h2, h3⟩ := fields32
  obtain ⟨a, b, rfl, w1, w2⟩ := pair_cells h1 h2 cells32 h3 hy
  exact ⟨(a, b), rfl, w1, w2⟩
theorem open_swaps {oa : Option Addr} {len cap : Nat} {d : DataW H} {p : List MemPlace} (h : DataW.Trod enc Try.prog W 0 (fun _ => true) true 30 (.slice oa len cap) d p) :
    ∃ xs : List Int, SlIn W (.slice oa len cap) 1 uL xs ∧ xs.length = len ∧ ∀ x ∈ xs, (Lit.int .u16 x).wf = true := by
  refine open_row (α := Int) Try.underlying30 cells36 (by decide) (fun _ => rfl) (fun fuel cs y hy => ?_) h
  obtain ⟨a, rfl, w1⟩ := int_cells Try.underlying36 hy
  exact ⟨a, rfl, w1⟩
end
end Go.Proofs.Ytggpmepiggnnnaa
