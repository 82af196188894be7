import Derived.Test.YtfejhekoijemdaaModel
import Derived.Test.YtfejhekoijemdaaWide
import Derived.Test.YtfejhekoijemdaaLaw
import Derived.Test.YtfejhekoijemdaaOpF
namespace Go.Proofs.Ytfejhekoijemdaa
open Go.ChangeShapes Go.WideShapes Go.ChangeAt Go.RowKit

/-- an act of a script -/
structure OpM where
  d : Int
  poll : Int
  v : Int
  id : Int
  oa : Option Addr
  n : Nat
  cap : Nat
  xs : List Int
instance : Inhabited OpM := ⟨⟨0, 0, 0, 0, none, 0, 0, []⟩⟩
def opL (x : OpM) : List Value := [.int .i64 x.d, .int .i64 x.poll, .int .i64 x.v, .int .u8 x.id, .slice x.oa x.n x.cap]
theorem opL_length (x : OpM) : (opL x).length = 5 := rfl
theorem opL_one (x : OpM) : allOne (opL x).toArray = true := rfl
structure OpOK (W : World) (x : OpM) : Prop where
  lo : 0 ≤ x.id
  hi : x.id ≤ 255
  sl : SlIn W (.slice x.oa x.n x.cap) 1 intL x.xs
theorem OpOK.below {W W' : World} {x : OpM} (h : OpOK W x) (hb : Below W.heap.size W W') : OpOK W' x := ⟨h.lo, h.hi, h.sl.below hb⟩
theorem OpOK.len {W : World} {x : OpM} (h : OpOK W x) : x.xs.length = x.n := by
  obtain ⟨oa, cap, e, _⟩ := h.sl
  injection e with _ h _
  exact h.symm
theorem cells54 : Try.prog.cellsOf 54 = 5 := by kernel_rfl
theorem cells3 : Try.prog.cellsOf 3 = 1 := by kernel_rfl
theorem cells2 : Try.prog.cellsOf 2 = 1 := by kernel_rfl
theorem cells5 : Try.prog.cellsOf 5 = 1 := by kernel_rfl
theorem cells22 : Try.prog.cellsOf 22 = 1 := by kernel_rfl
section
variable {H : Type} {enc : TypeId × Value → H}
theorem open_ints {W : World} {oa : Option Addr} {len cap : Nat} {d : DataW H} {p : List MemPlace} (h : DataW.Trod enc Try.prog W 0 (fun _ => true) true 22 (.slice oa len cap) d p) :
    ∃ xs : List Int, SlIn W (.slice oa len cap) 1 intL xs ∧ xs.length = len ∧ ∀ x ∈ xs, (Lit.int .i64 x).wf = true := by
  refine open_row (α := Int) Try.underlying22 cells3 (by decide) intL_length (fun fuel cs y hy => ?_) h
  obtain ⟨n, h1, h2⟩ := int_cells Try.underlying3 hy
  exact ⟨n, h1, h2⟩
theorem open_bytes {W : World} {t : TypeId} (ht : Try.prog.underlying t = some (.slice 5)) {oa : Option Addr} {len cap : Nat} {d : DataW H} {p : List MemPlace} (h : DataW.Trod enc Try.prog W 0 (fun _ => true) true t (.slice oa len cap) d p) :
    ∃ xs : List Int, SlIn W (.slice oa len cap) 1 (fun n : Int => [.int .u8 n]) xs ∧ xs.length = len ∧ ∀ x ∈ xs, (Lit.int .u8 x).wf = true := by
  refine open_row (α := Int) ht cells5 (by decide) (fun _ => rfl) (fun fuel cs y hy => ?_) h
  obtain ⟨n, h1, h2⟩ := int_cells Try.underlying5 hy
  exact ⟨n, h1, h2⟩
theorem slice_cell {t e : TypeId} (ht : Try.prog.underlying t = some (.slice e)) {W : World} {fuel : Nat} {cs : List Value} {x : DataW H × List MemPlace} (h : DataW.trod enc Try.prog W 0 (fun _ => true) true fuel t cs = some x) :
    ∃ (oa : Option Addr) (len cap : Nat), cs = [.slice oa len cap] := by
  rcases Go.Deep.open_slice ht h with ⟨h0, _⟩ | ⟨a, len, cap, _, _, _, _, h0, _, h1, h2, _⟩
  · exact ⟨none, 0, 0, h0⟩
  · exact ⟨some a, len, cap, h0⟩
set_option maxRecDepth 100000 in
theorem op_cells {W : World} {fuel : Nat} {cs : List Value} {y : DataW H × List MemPlace} (h : DataW.trod enc Try.prog W 0 (fun _ => true) true fuel 54 cs = some y) :
    ∃ x : OpM, cs = opL x ∧ OpOK W x := by
  obtain ⟨xs, n, _, _, hl, hxl, hx⟩ := DataW.trod_struct Try.underlying54 h
  rw [cells54] at hl
  have g : ∀ i f, (i < 5) → _ → DataW.trod enc Try.prog W 0 (fun _ => true) true n (Field.type f) ((cs.drop f.offset).take (Try.prog.cellsOf f.type)) = some (xs[i]!) := fun i f hi hf => by
    have := hx i f hf
    rw [this, getElem!_pos xs i (by rw [hxl]; exact hi)]
    exact List.getElem?_eq_getElem _
  obtain ⟨m0, e0, _⟩ := DataW.trod_int Try.underlying3 (g 0 _ (by decide) rfl)
  obtain ⟨m1, e1, _⟩ := DataW.trod_int Try.underlying2 (g 1 _ (by decide) rfl)
  obtain ⟨m2, e2, _⟩ := DataW.trod_int Try.underlying3 (g 2 _ (by decide) rfl)
  obtain ⟨m3, e3, _, b3⟩ := DataW.trod_int Try.underlying5 (g 3 _ (by decide) rfl)
  have g4 := g 4 _ (by decide) rfl
  obtain ⟨oa, ln, cap, e4⟩ := slice_cell Try.underlying22 g4
  rw [e4] at g4
  obtain ⟨ys, h1, h2, _⟩ := open_ints (enc := enc) (d := xs[4]!.1) (p := xs[4]!.2) ⟨_, g4⟩
  replace e0 : (cs.drop 0).take 1 = [.int .i64 m0] := by rw [← cells3]; exact e0
  replace e1 : (cs.drop 1).take 1 = [.int .i64 m1] := by rw [← cells2]; exact e1
  replace e2 : (cs.drop 2).take 1 = [.int .i64 m2] := by rw [← cells3]; exact e2
  replace e3 : (cs.drop 3).take 1 = [.int .u8 m3] := by rw [← cells5]; exact e3
  replace e4 : (cs.drop 4).take 1 = [.slice oa ln cap] := by rw [← cells22]; exact e4
  have b3' : 0 ≤ m3 ∧ m3 ≤ 255 := by
    simp [Lit.wf, IntKind.signed, IntKind.bits, IntKind.min, IntKind.max] at b3
    omega
  refine ⟨⟨m0, m1, m2, m3, oa, ln, cap, ys⟩, ?_, b3'.1, b3'.2, h1⟩
  have k0 := take1 e0
  have k1 := take1 e1
  have k2 := take1 e2
  have k3 := take1 e3
  have k4 := take1 e4
  match cs, hl, k0, k1, k2, k3, k4 with
  | [x, y, z, u, t], _, k0, k1, k2, k3, k4 =>
    simp at k0 k1 k2 k3 k4
    subst k0 k1 k2 k3 k4
    rfl
theorem open_script {W : World} {oa : Option Addr} {len cap : Nat} {d : DataW H} {p : List MemPlace} (h : DataW.Trod enc Try.prog W 0 (fun _ => true) true 50 (.slice oa len cap) d p) :
    ∃ xs : List OpM, SlIn W (.slice oa len cap) 5 opL xs ∧ xs.length = len ∧ ∀ x ∈ xs, OpOK W x :=
  open_row (α := OpM) Try.underlying50 cells54 (by decide) opL_length (fun fuel cs y hy => op_cells hy) h
end
end Go.Proofs.Ytfejhekoijemdaa
