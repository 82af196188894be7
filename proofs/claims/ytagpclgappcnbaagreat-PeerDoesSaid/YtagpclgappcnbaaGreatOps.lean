import Derived.Test.YtagpclgappcnbaaGreatOpF
import Derived.Test.YtagpclgappcnbaaGreatBkO
namespace Go.Proofs.YtagpclgappcnbaaGreat
open Go.ChangeShapes Go.WideShapes Go.ChangeAt Go.RowKit
set_option linter.unusedVariables false

/-! ### the laws' arguments, opened -/
structure OpM where
  d : Int
  v : Int
  id : Int
  kind : Int
  ticks : Int
  past : Bool
  now : Int
instance : Inhabited OpM := ⟨⟨0, 0, 0, 0, 0, false, 0⟩⟩
instance : Inhabited Be.Vd := ⟨⟨ByteArray.empty, 0⟩⟩
def opL (x : OpM) : List Value := [.int .i64 x.d, .int .i64 x.v, .int .i64 x.id, .int .i64 x.kind, .int .u16 x.ticks, .bool x.past, .int .i64 x.now]
theorem opL_length (x : OpM) : (opL x).length = 7 := rfl
def OpOK (x : OpM) : Prop := 0 ≤ x.ticks ∧ x.ticks ≤ 65535
theorem cells27 : Tryz.prog.cellsOf 27 = 11 := by kernel_rfl
theorem cells23 : Tryz.prog.cellsOf 23 = 5 := by kernel_rfl
theorem cells25 : Tryz.prog.cellsOf 25 = 5 := by kernel_rfl
theorem cells54 : Tryz.prog.cellsOf 38 = 2 := by kernel_rfl
theorem cells39 : Tryz.prog.cellsOf 45 = 7 := by kernel_rfl
theorem bounds_u16 {x : Int} (h : (Lit.int .u16 x).wf = true) : 0 ≤ x ∧ x ≤ 65535 := by
  simp [Lit.wf, IntKind.signed, IntKind.bits, IntKind.min, IntKind.max] at h
  omega
section
variable {H : Type} {enc : TypeId × Value → H} {W : World}
set_option maxRecDepth 100000 in
theorem open_cfg {r : Reach} {b0 : Nat} {v : Value} {d : DataW H} {p : List MemPlace} (hval : Value.okWide Tryz.prog W r b0 27 v) (h : DataW.Trod enc Tryz.prog W 0 (fun _ => true) true 27 v d p) : ∃ c : CfgD, v = .agg (cfgC c) ∧ c.q.de < 9223372036854775808 := by
  obtain ⟨cs, rfl, hc⟩ := okWide_struct Tryz.underlying27 hval
  obtain ⟨fuel, h⟩ := h
  rw [cells27] at hc
  obtain ⟨n0, g0, _⟩ := cell_int Tryz.underlying27 h 0 rfl Tryz.underlying3 (by kernel_rfl)
  obtain ⟨fu1, y1, h1⟩ := struct_cell Tryz.underlying27 h (i := 1) rfl
  obtain ⟨fu2, y2, h2⟩ := struct_cell Tryz.underlying27 h (i := 2) rfl
  obtain ⟨m0, k0, _⟩ := cell_int Tryz.underlying23 h1 0 rfl Tryz.underlying2 (by kernel_rfl)
  obtain ⟨m1, k1, _⟩ := cell_int Tryz.underlying23 h1 1 rfl Tryz.underlying2 (by kernel_rfl)
  obtain ⟨m2, k2, _⟩ := cell_int Tryz.underlying23 h1 2 rfl Tryz.underlying2 (by kernel_rfl)
  obtain ⟨m3, k3, _⟩ := cell_int Tryz.underlying23 h1 3 rfl Tryz.underlying2 (by kernel_rfl)
  obtain ⟨m4, k4, _⟩ := cell_int Tryz.underlying23 h1 4 rfl Tryz.underlying2 (by kernel_rfl)
  obtain ⟨l0, j0, _⟩ := cell_int Tryz.underlying25 h2 0 rfl Tryz.underlying3 (by kernel_rfl)
  obtain ⟨l1, j1, _⟩ := cell_int Tryz.underlying25 h2 1 rfl Tryz.underlying2 (by kernel_rfl)
  obtain ⟨l2, j2, _⟩ := cell_int Tryz.underlying25 h2 2 rfl Tryz.underlying2 (by kernel_rfl)
  obtain ⟨l3, j3, _⟩ := cell_int Tryz.underlying25 h2 3 rfl Tryz.underlying2 (by kernel_rfl)
  obtain ⟨l4, j4, w4⟩ := cell_int Tryz.underlying25 h2 4 rfl Tryz.underlying2 (by kernel_rfl)
  obtain ⟨l⟩ := cs
  replace k0 : ((l.drop 1).take 5)[0]? = some (.int .i64 m0) := by rw [← cells23]; exact k0
  replace k1 : ((l.drop 1).take 5)[1]? = some (.int .i64 m1) := by rw [← cells23]; exact k1
  replace k2 : ((l.drop 1).take 5)[2]? = some (.int .i64 m2) := by rw [← cells23]; exact k2
  replace k3 : ((l.drop 1).take 5)[3]? = some (.int .i64 m3) := by rw [← cells23]; exact k3
  replace k4 : ((l.drop 1).take 5)[4]? = some (.int .i64 m4) := by rw [← cells23]; exact k4
  replace j0 : ((l.drop 6).take 5)[0]? = some (.int .i64 l0) := by rw [← cells25]; exact j0
  replace j1 : ((l.drop 6).take 5)[1]? = some (.int .i64 l1) := by rw [← cells25]; exact j1
  replace j2 : ((l.drop 6).take 5)[2]? = some (.int .i64 l2) := by rw [← cells25]; exact j2
  replace j3 : ((l.drop 6).take 5)[3]? = some (.int .i64 l3) := by rw [← cells25]; exact j3
  replace j4 : ((l.drop 6).take 5)[4]? = some (.int .i64 l4) := by rw [← cells25]; exact j4
  match l, hc, g0, k0, k1, k2, k3, k4, j0, j1, j2, j3, j4 with
  | [a, b, c, d, e, f, g, h, i, j, k], _, g0, k0, k1, k2, k3, k4, j0, j1, j2, j3, j4 =>
    simp [Value.cells] at g0 k0 k1 k2 k3 k4 j0 j1 j2 j3 j4
    subst g0 k0 k1 k2 k3 k4 j0 j1 j2 j3 j4
    refine ⟨⟨n0, ⟨m0, m1, m2, m3, m4⟩, ⟨l0, l1, l2, l3, l4⟩⟩, rfl, ?_⟩
    have := (bounds_i64 w4).2
    simp only
    omega
theorem open_vds {oa : Option Addr} {len cap : Nat} {d : DataW H} {p : List MemPlace} (h : DataW.Trod enc Tryz.prog W 0 (fun _ => true) true 28 (.slice oa len cap) d p) :
    ∃ xs : List Be.Vd, SlIn W (.slice oa len cap) 2 Be.vdL xs ∧ xs.length = len ∧ ∀ x ∈ xs, True := by
  refine open_row (α := Be.Vd) Tryz.underlying28 cells54 (by decide) Be.vdL_length (fun fuel cs y hy => ?_) h
  have hl := struct_len Tryz.underlying38 hy
  rw [cells54] at hl
  obtain ⟨n0, g0, _⟩ := cell_string Tryz.underlying38 hy 0 rfl Tryz.underlying9 (by kernel_rfl)
  obtain ⟨n1, g1, _⟩ := cell_int Tryz.underlying38 hy 1 rfl Tryz.underlying2 (by kernel_rfl)
  match cs, hl, g0, g1 with
  | [x, y], _, g0, g1 =>
    simp at g0 g1
    subst g0 g1
    exact ⟨⟨n0, n1⟩, rfl, trivial⟩
theorem open_script {oa : Option Addr} {len cap : Nat} {d : DataW H} {p : List MemPlace} (h : DataW.Trod enc Tryz.prog W 0 (fun _ => true) true 29 (.slice oa len cap) d p) :
    ∃ xs : List OpM, SlIn W (.slice oa len cap) 7 opL xs ∧ xs.length = len ∧ ∀ x ∈ xs, OpOK x := by
  refine open_row (α := OpM) Tryz.underlying29 cells39 (by decide) opL_length (fun fuel cs y hy => ?_) h
  have hl := struct_len Tryz.underlying45 hy
  rw [cells39] at hl
  obtain ⟨n0, g0, _⟩ := cell_int Tryz.underlying45 hy 0 rfl Tryz.underlying3 (by kernel_rfl)
  obtain ⟨n1, g1, _⟩ := cell_int Tryz.underlying45 hy 1 rfl Tryz.underlying3 (by kernel_rfl)
  obtain ⟨n2, g2, _⟩ := cell_int Tryz.underlying45 hy 2 rfl Tryz.underlying2 (by kernel_rfl)
  obtain ⟨n3, g3, _⟩ := cell_int Tryz.underlying45 hy 3 rfl Tryz.underlying3 (by kernel_rfl)
  obtain ⟨n4, g4, w4⟩ := cell_int Tryz.underlying45 hy 4 rfl Tryz.underlying43 (by kernel_rfl)
  obtain ⟨n5, g5⟩ := cell_bool Tryz.underlying45 hy 5 rfl Tryz.underlying4 (by kernel_rfl)
  obtain ⟨n6, g6, _⟩ := cell_int Tryz.underlying45 hy 6 rfl Tryz.underlying2 (by kernel_rfl)
  match cs, hl, g0, g1, g2, g3, g4, g5, g6 with
  | [a, b, c, d, e, f, g], _, g0, g1, g2, g3, g4, g5, g6 =>
    simp at g0 g1 g2 g3 g4 g5 g6
    subst g0 g1 g2 g3 g4 g5 g6
    exact ⟨⟨n0, n1, n2, n3, n4, n5, n6⟩, rfl, (bounds_u16 w4).1, (bounds_u16 w4).2⟩
end
end Go.Proofs.YtagpclgappcnbaaGreat
