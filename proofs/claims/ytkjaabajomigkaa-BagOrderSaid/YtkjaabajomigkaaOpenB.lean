import Derived.Test.YtkjaabajomigkaaField
import Derived.Test.YtkjaabajomigkaaVote
namespace Go.Proofs.Ytkjaabajomigkaa
open Go.ChangeShapes Go.WideShapes Go.ChangeAt Go.RowKit
set_option linter.unusedVariables false

theorem cells27 : Try.prog.cellsOf 27 = 32 := by kernel_rfl
theorem cells33 : Try.prog.cellsOf 33 = 33 := by kernel_rfl
theorem cells5 : Try.prog.cellsOf 5 = 1 := by kernel_rfl
instance inhVtO : Inhabited Vt := ⟨Vt.zero⟩
section
variable {H : Type} {enc : TypeId × Value → H} {W : World}
theorem vote_cells {fuel : Nat} {cs : List Value} {y : DataW H × List MemPlace} (hy : DataW.trod enc Try.prog W 0 (fun _ => true) true fuel 33 cs = some y) : ∃ x : Vt, cs = vtL x ∧ (Lit.int .i64 x.n).wf = true := by
  have hl := struct_len Try.underlying33 hy
  rw [cells33] at hl
  obtain ⟨f0, y0, h0⟩ := struct_cell Try.underlying33 hy (i := 0) rfl
  obtain ⟨a, ha⟩ := id_cells Try.underlying27 Try.underlying5 cells5 cells27 h0
  replace ha : (cs.drop 0).take 32 = idL a := by rw [← cells27]; exact ha
  obtain ⟨n1, g1, w1⟩ := cell_int Try.underlying33 hy 1 rfl Try.underlying3 (by kernel_rfl)
  replace g1 : cs[32]? = some (.int .i64 n1) := g1
  refine ⟨⟨a, n1⟩, ?_, w1⟩
  unfold vtL
  rw [List.drop_zero] at ha
  have hd : cs.drop 32 = [.int .i64 n1] := by
    have hlt : 32 < cs.length := by omega
    rw [List.drop_eq_getElem_cons hlt, List.drop_eq_nil_of_le (by omega)]
    rw [List.getElem?_eq_getElem hlt] at g1
    rw [Option.some.inj g1]
  rw [← ha, ← hd, List.take_append_drop]
theorem open_votes {oa : Option Addr} {len cap : Nat} {d : DataW H} {p : List MemPlace} (h : DataW.Trod enc Try.prog W 0 (fun _ => true) true 22 (.slice oa len cap) d p) :
    ∃ xs : List Vt, SlIn W (.slice oa len cap) 33 vtL xs ∧ xs.length = len ∧ ∀ x ∈ xs, (Lit.int .i64 x.n).wf = true :=
  open_row (α := Vt) Try.underlying22 cells33 (by decide) vtL_length (fun fuel cs y hy => vote_cells hy) h
instance inhIdO : Inhabited ID := ⟨ID.zero⟩
theorem open_names {oa : Option Addr} {len cap : Nat} {d : DataW H} {p : List MemPlace} (h : DataW.Trod enc Try.prog W 0 (fun _ => true) true 23 (.slice oa len cap) d p) :
    ∃ xs : List ID, SlIn W (.slice oa len cap) 32 idL xs ∧ xs.length = len ∧ ∀ x ∈ xs, True :=
  open_row (α := ID) Try.underlying23 cells27 (by decide) idL_length (fun fuel cs y hy => by
    obtain ⟨a, ha⟩ := id_cells Try.underlying27 Try.underlying5 cells5 cells27 hy
    exact ⟨a, ha, trivial⟩) h
end
end Go.Proofs.Ytkjaabajomigkaa
