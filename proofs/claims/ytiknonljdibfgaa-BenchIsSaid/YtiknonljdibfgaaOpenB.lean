import Derived.Test.YtiknonljdibfgaaField
import Derived.Test.YtiknonljdibfgaaAct
namespace Go.Proofs.Ytiknonljdibfgaa
open Go.ChangeShapes Go.WideShapes Go.ChangeAt Go.RowKit
set_option linter.unusedVariables false

theorem cells23 : Try.prog.cellsOf 23 = 5 := by kernel_rfl
theorem cells65 : Try.prog.cellsOf 65 = 2 := by kernel_rfl
theorem cells36 : Try.prog.cellsOf 36 = 3 := by kernel_rfl
theorem cells50 : Try.prog.cellsOf 50 = 3 := by kernel_rfl
instance : Inhabited Vd := ⟨⟨ByteArray.empty, 0⟩⟩
instance : Inhabited St := ⟨⟨0, 0, 0⟩⟩
instance : Inhabited Ac := ⟨⟨0, false, 0⟩⟩
section
variable {H : Type} {enc : TypeId × Value → H} {W : World}
theorem open_rule {r : Reach} {b0 : Nat} {v : Value} {d : DataW H} {p : List MemPlace} (hval : Value.okWide Try.prog W r b0 23 v) (h : DataW.Trod enc Try.prog W 0 (fun _ => true) true 23 v d p) : ∃ m : Rul, v = ruV m ∧ m.de < 9223372036854775808 := by
  obtain ⟨cs, rfl, hc⟩ := okWide_struct Try.underlying23 hval
  obtain ⟨fuel, h⟩ := h
  rw [cells23] at hc
  obtain ⟨n0, g0, _⟩ := cell_int Try.underlying23 h 0 rfl Try.underlying3 (by kernel_rfl)
  obtain ⟨n1, g1, _⟩ := cell_int Try.underlying23 h 1 rfl Try.underlying2 (by kernel_rfl)
  obtain ⟨n2, g2, _⟩ := cell_int Try.underlying23 h 2 rfl Try.underlying2 (by kernel_rfl)
  obtain ⟨n3, g3, _⟩ := cell_int Try.underlying23 h 3 rfl Try.underlying2 (by kernel_rfl)
  obtain ⟨n4, g4, w4⟩ := cell_int Try.underlying23 h 4 rfl Try.underlying2 (by kernel_rfl)
  obtain ⟨l⟩ := cs
  match l, hc, g0, g1, g2, g3, g4 with
  | [a, b, c, d, e], _, g0, g1, g2, g3, g4 =>
    simp [Value.cells] at g0 g1 g2 g3 g4
    subst g0 g1 g2 g3 g4
    refine ⟨⟨n0, n1, n2, n3, n4⟩, rfl, ?_⟩
    have := (bounds_i64 w4).2
    simp only
    omega
theorem open_vds {oa : Option Addr} {len cap : Nat} {d : DataW H} {p : List MemPlace} (h : DataW.Trod enc Try.prog W 0 (fun _ => true) true 24 (.slice oa len cap) d p) :
    ∃ xs : List Vd, SlIn W (.slice oa len cap) 2 vdL xs ∧ xs.length = len ∧ ∀ x ∈ xs, True := by
  refine open_row (α := Vd) Try.underlying24 cells65 (by decide) vdL_length (fun fuel cs y hy => ?_) h
  have hl := struct_len Try.underlying65 hy
  rw [cells65] at hl
  obtain ⟨n0, g0, _⟩ := cell_string Try.underlying65 hy 0 rfl Try.underlying9 (by kernel_rfl)
  obtain ⟨n1, g1, _⟩ := cell_int Try.underlying65 hy 1 rfl Try.underlying2 (by kernel_rfl)
  match cs, hl, g0, g1 with
  | [x, y], _, g0, g1 =>
    simp at g0 g1
    subst g0 g1
    exact ⟨⟨n0, n1⟩, rfl, trivial⟩
theorem open_acts {oa : Option Addr} {len cap : Nat} {d : DataW H} {p : List MemPlace} (h : DataW.Trod enc Try.prog W 0 (fun _ => true) true 25 (.slice oa len cap) d p) :
    ∃ xs : List Ac, SlIn W (.slice oa len cap) 3 acL xs ∧ xs.length = len ∧ ∀ x ∈ xs, AcOK x := by
  refine open_row (α := Ac) Try.underlying25 cells36 (by decide) acL_length (fun fuel cs y hy => ?_) h
  have hl := struct_len Try.underlying36 hy
  rw [cells36] at hl
  obtain ⟨n0, g0, w0⟩ := cell_int Try.underlying36 hy 0 rfl Try.underlying5 (by kernel_rfl)
  obtain ⟨n1, g1⟩ := cell_bool Try.underlying36 hy 1 rfl Try.underlying4 (by kernel_rfl)
  obtain ⟨n2, g2, w2⟩ := cell_int Try.underlying36 hy 2 rfl Try.underlying34 (by kernel_rfl)
  match cs, hl, g0, g1, g2 with
  | [x, y, z], _, g0, g1, g2 =>
    simp at g0 g1 g2
    subst g0 g1 g2
    have b0 := bounds_u8 w0
    have b2 := bounds_u16 w2
    exact ⟨⟨n0, n1, n2⟩, rfl, b0.1, b0.2, b2.1, b2.2⟩
theorem open_seats {oa : Option Addr} {len cap : Nat} {d : DataW H} {p : List MemPlace} (h : DataW.Trod enc Try.prog W 0 (fun _ => true) true 31 (.slice oa len cap) d p) :
    ∃ xs : List St, SlIn W (.slice oa len cap) 3 stL xs ∧ xs.length = len ∧ ∀ x ∈ xs, (Lit.int .i64 x.f).wf = true ∧ (Lit.int .i64 x.s).wf = true ∧ (Lit.int .i64 x.u).wf = true := by
  refine open_row (α := St) Try.underlying31 cells50 (by decide) stL_length (fun fuel cs y hy => ?_) h
  have hl := struct_len Try.underlying50 hy
  rw [cells50] at hl
  obtain ⟨n0, g0, w0⟩ := cell_int Try.underlying50 hy 0 rfl Try.underlying3 (by kernel_rfl)
  obtain ⟨n1, g1, w1⟩ := cell_int Try.underlying50 hy 1 rfl Try.underlying2 (by kernel_rfl)
  obtain ⟨n2, g2, w2⟩ := cell_int Try.underlying50 hy 2 rfl Try.underlying2 (by kernel_rfl)
  match cs, hl, g0, g1, g2 with
  | [x, y, z], _, g0, g1, g2 =>
    simp at g0 g1 g2
    subst g0 g1 g2
    exact ⟨⟨n0, n1, n2⟩, rfl, w0, w1, w2⟩
end
end Go.Proofs.Ytiknonljdibfgaa
