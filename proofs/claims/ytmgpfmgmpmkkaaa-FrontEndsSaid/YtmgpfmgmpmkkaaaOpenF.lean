import Derived.Test.YtmgpfmgmpmkkaaaField
import Derived.Test.YtmgpfmgmpmkkaaaOpen
import Derived.Test.YtmgpfmgmpmkkaaaEndW
import Derived.SizedLaws
namespace Go.Proofs.Ytmgpfmgmpmkkaaa
open Go.ChangeShapes Go.WideShapes Go.ChangeAt Go.RowKit
set_option linter.unusedVariables false

theorem cells3 : Try.prog.cellsOf 3 = 1 := by kernel_rfl
theorem cells4 : Try.prog.cellsOf 4 = 1 := by kernel_rfl
theorem cells5 : Try.prog.cellsOf 5 = 1 := by kernel_rfl
theorem cells26 : Try.prog.cellsOf 26 = 1 := by kernel_rfl
theorem cells45 : Try.prog.cellsOf 45 = 32 := by kernel_rfl
theorem cells54 : Try.prog.cellsOf 54 = 2 := by kernel_rfl
theorem cells58 : Try.prog.cellsOf 58 = 34 := by kernel_rfl
instance : Inhabited Vd := ⟨⟨ByteArray.empty, 0⟩⟩
section
variable {H : Type} {enc : TypeId × Value → H} {W : World}
theorem open_vds {oa : Option Addr} {len cap : Nat} {d : DataW H} {p : List MemPlace} (h : DataW.Trod enc Try.prog W 0 (fun _ => true) true 22 (.slice oa len cap) d p) :
    ∃ xs : List Vd, SlIn W (.slice oa len cap) 2 vdL xs ∧ xs.length = len ∧ ∀ x ∈ xs, True := by
  refine open_row (α := Vd) Try.underlying22 cells54 (by decide) vdL_length (fun fuel cs y hy => ?_) h
  have hl := struct_len Try.underlying54 hy
  rw [cells54] at hl
  obtain ⟨n0, g0, _⟩ := cell_string Try.underlying54 hy 0 rfl Try.underlying9 (by kernel_rfl)
  obtain ⟨n1, g1, _⟩ := cell_int Try.underlying54 hy 1 rfl Try.underlying2 (by kernel_rfl)
  match cs, hl, g0, g1 with
  | [x, y], _, g0, g1 =>
    simp at g0 g1
    subst g0 g1
    exact ⟨⟨n0, n1⟩, rfl, trivial⟩
theorem open_ints {oa : Option Addr} {len cap : Nat} {d : DataW H} {p : List MemPlace} (h : DataW.Trod enc Try.prog W 0 (fun _ => true) true 23 (.slice oa len cap) d p) :
    ∃ xs : List Int, SlIn W (.slice oa len cap) 1 intL xs ∧ xs.length = len ∧ ∀ x ∈ xs, (Lit.int .i64 x).wf = true := by
  refine open_row (α := Int) Try.underlying23 cells3 (by decide) intL_length (fun fuel cs y hy => ?_) h
  obtain ⟨n, h1, h2⟩ := int_cells Try.underlying3 hy
  exact ⟨n, h1, h2⟩
theorem open_bytes {oa : Option Addr} {len cap : Nat} {d : DataW H} {p : List MemPlace} (h : DataW.Trod enc Try.prog W 0 (fun _ => true) true 25 (.slice oa len cap) d p) :
    ∃ xs : List Int, SlIn W (.slice oa len cap) 1 byteL xs ∧ xs.length = len ∧ ∀ x ∈ xs, (Lit.int .u8 x).wf = true := by
  refine open_row (α := Int) Try.underlying25 cells5 (by decide) byteL_length (fun fuel cs y hy => ?_) h
  obtain ⟨n, h1, h2⟩ := int_cells Try.underlying5 hy
  exact ⟨n, h1, h2⟩
theorem open_names {oa : Option Addr} {len cap : Nat} {d : DataW H} {p : List MemPlace} (h : DataW.Trod enc Try.prog W 0 (fun _ => true) true 26 (.slice oa len cap) d p) :
    ∃ xs : List ID, SlIn W (.slice oa len cap) 32 idL xs ∧ xs.length = len ∧ ∀ x ∈ xs, True := by
  refine open_row (α := ID) Try.underlying26 cells45 (by decide) idL_length (fun fuel cs y hy => ?_) h
  obtain ⟨a, ha⟩ := id_cells Try.underlying45 Try.underlying5 cells5 cells45 hy
  exact ⟨a, ha, trivial⟩
theorem slice_cell {t e : TypeId} (ht : Try.prog.underlying t = some (.slice e)) {fuel : Nat} {cs : List Value} {x : DataW H × List MemPlace} (h : DataW.trod enc Try.prog W 0 (fun _ => true) true fuel t cs = some x) :
    ∃ (oa : Option Addr) (len cap : Nat), cs = [.slice oa len cap] := by
  rcases Go.Deep.open_slice ht h with ⟨h0, _⟩ | ⟨a, len, cap, _, _, _, _, h0, _, h1, h2, _⟩
  · exact ⟨none, 0, 0, h0⟩
  · exact ⟨some a, len, cap, h0⟩
set_option maxRecDepth 100000 in
theorem ans_cells {fuel : Nat} {cs : List Value} {y : DataW H × List MemPlace} (h : DataW.trod enc Try.prog W 0 (fun _ => true) true fuel 58 cs = some y) :
    ∃ x : AnsD, cs = ansL x ∧ ∃ ids, SlIn W (.slice x.oa x.n x.cap) 32 idL ids := by
  obtain ⟨xs, n, _, _, hl, hxl, hx⟩ := DataW.trod_struct Try.underlying58 h
  rw [cells58] at hl
  have g : ∀ i f, (i < 3) → _ → DataW.trod enc Try.prog W 0 (fun _ => true) true n (Field.type f) ((cs.drop f.offset).take (Try.prog.cellsOf f.type)) = some (xs[i]!) := fun i f hi hf => by
    have := hx i f hf
    rw [this, getElem!_pos xs i (by rw [hxl]; exact hi)]
    exact List.getElem?_eq_getElem _
  obtain ⟨b0, g0⟩ := cell_bool Try.underlying58 h 0 rfl Try.underlying4 (by kernel_rfl)
  obtain ⟨a, ha⟩ := id_cells Try.underlying45 Try.underlying5 cells5 cells45 (g 1 _ (by decide) rfl)
  have g4 := g 2 _ (by decide) rfl
  obtain ⟨oa, ln, cap, e4⟩ := slice_cell Try.underlying26 g4
  rw [e4] at g4
  obtain ⟨ids, h1, _, _⟩ := open_names (enc := enc) (d := xs[2]!.1) (p := xs[2]!.2) ⟨_, g4⟩
  replace ha : (cs.drop 1).take 32 = idL a := by rw [← cells45]; exact ha
  replace e4 : (cs.drop 33).take 1 = [.slice oa ln cap] := by rw [← cells26]; exact e4
  refine ⟨⟨b0, a, oa, ln, cap⟩, ?_, ids, h1⟩
  match cs, hl with
  | c :: cs, hl =>
    simp at g0
    subst g0
    unfold ansL
    simp only [List.drop_succ_cons, List.drop_zero] at ha e4
    simp only [List.length_cons] at hl
    congr 1
    have e5 : cs = cs.take 32 ++ cs.drop 32 := (List.take_append_drop 32 cs).symm
    rw [e5, ha]
    congr 1
    rw [List.take_of_length_le (by simp; omega)] at e4
    exact e4
theorem asAt_of (xs : List AnsD) (h : ∀ x ∈ xs, ∃ ids, SlIn W (.slice x.oa x.n x.cap) 32 idL ids) : ∃ av, AsAt W xs av := by
  induction xs with
  | nil => exact ⟨[], rfl, fun i r a h1 _ => by simp at h1⟩
  | cons x xs ih =>
    obtain ⟨av, h1, h2⟩ := ih fun y hy => h y (by simp [hy])
    obtain ⟨ids, hi⟩ := h x (by simp)
    refine ⟨⟨x.fails, x.tip, ids⟩ :: av, by simp [h1], fun i r a g1 g2 => ?_⟩
    cases i with
    | zero =>
      simp at g1 g2
      subst g1 g2
      exact ⟨rfl, rfl, hi⟩
    | succ i => exact h2 i r a (by simpa using g1) (by simpa using g2)
theorem open_answers {oa : Option Addr} {len cap : Nat} {d : DataW H} {p : List MemPlace} (h : DataW.Trod enc Try.prog W 0 (fun _ => true) true 24 (.slice oa len cap) d p) :
    ∃ xs av, SlIn W (.slice oa len cap) 34 ansL xs ∧ AsAt W xs av := by
  obtain ⟨xs, h1, _, h2⟩ := open_row (α := AnsD) Try.underlying24 cells58 (by decide) ansL_length (fun fuel cs y hy => ans_cells hy) h
  obtain ⟨av, h3⟩ := asAt_of xs h2
  exact ⟨xs, av, h1, h3⟩
theorem row_weight {t e : TypeId} (ht : Try.prog.underlying t = some (.slice e)) {oa : Option Addr} {len cap : Nat} {d : DataW H} {p : List MemPlace}
    (h : DataW.Trod enc Try.prog W 0 (fun _ => true) true t (.slice oa len cap) d p) : len = 0 ∨ ∃ el sp, d = .slice el sp ∧ el.length = len := by
  obtain ⟨fuel, hf⟩ := h
  rcases Go.Deep.open_slice ht hf with ⟨h0, _⟩ | ⟨a, len', cap', m, n, D, Pl, h0, _, h1, h2, h3, h5, h4⟩
  · simp [Value.cells] at h0
    exact .inl h0.2.1
  · simp [Value.cells] at h0
    obtain ⟨rfl, rfl, rfl⟩ := h0
    simp only [Prod.mk.injEq] at h5
    exact .inr ⟨_, _, h5.1, by simp⟩
theorem bytes3 : Try.prog.bytesOf 3 = 8 := by kernel_rfl
theorem sized_row {ts : List TypeId} {ds : List (DataW H)} (hs : (DataW.weightsEach Try.prog ts ds).all (· ≤ reachBytes) = true) {j : Nat} {d : DataW H} (h1 : ts[j]? = some 23) (h2 : ds[j]? = some d)
    {oa : Option Addr} {len cap : Nat} {p : List MemPlace} (h : DataW.Trod enc Try.prog W 0 (fun _ => true) true 23 (.slice oa len cap) d p) : len * 8 ≤ 140737488351232 := by
  rcases row_weight Try.underlying23 h with rfl | ⟨el, sp, rfl, rfl⟩
  · omega
  · have := sized_slice hs h1 h2 Try.underlying23
    rw [bytes3] at this
    unfold reachBytes at this
    have h3 : el.length * 8 ≤ (el.length + sp.length) * 8 := Nat.mul_le_mul_right _ (by omega)
    omega
end
end Go.Proofs.Ytmgpfmgmpmkkaaa
