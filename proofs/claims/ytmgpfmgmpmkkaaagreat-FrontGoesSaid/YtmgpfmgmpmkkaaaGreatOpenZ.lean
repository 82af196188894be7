import Derived.Test.YtmgpfmgmpmkkaaaGreatField
import Derived.Test.YtmgpfmgmpmkkaaaGreatOpen
import Derived.Test.YtmgpfmgmpmkkaaaGreatFewF
import Derived.Test.YtmgpfmgmpmkkaaaGreatAnsw
import Derived.SizedLaws
namespace Go.Proofs.YtmgpfmgmpmkkaaaGreat
open Go.ChangeShapes Go.WideShapes Go.ChangeAt Go.RowKit
set_option linter.unusedVariables false

theorem cells3 : Tryz.prog.cellsOf 3 = 1 := by kernel_rfl
theorem cells4 : Tryz.prog.cellsOf 4 = 1 := by kernel_rfl
theorem cells5 : Tryz.prog.cellsOf 5 = 1 := by kernel_rfl
theorem cells24 : Tryz.prog.cellsOf 24 = 1 := by kernel_rfl
theorem cells32 : Tryz.prog.cellsOf 32 = 32 := by kernel_rfl
theorem cells58 : Tryz.prog.cellsOf 58 = 2 := by kernel_rfl
theorem cells54 : Tryz.prog.cellsOf 54 = 34 := by kernel_rfl
instance : Inhabited Vd := ⟨⟨ByteArray.empty, 0⟩⟩
theorem cells23 : Tryz.prog.cellsOf 23 = 1 := by kernel_rfl
theorem cells25 : Tryz.prog.cellsOf 25 = 1 := by kernel_rfl
theorem cells27 : Tryz.prog.cellsOf 27 = 4 := by kernel_rfl
theorem cells42 : Tryz.prog.cellsOf 42 = 2 := by kernel_rfl
section
variable {H : Type} {enc : TypeId × Value → H} {W : World}
theorem open_vds {oa : Option Addr} {len cap : Nat} {d : DataW H} {p : List MemPlace} (h : DataW.Trod enc Tryz.prog W 0 (fun _ => true) true 22 (.slice oa len cap) d p) :
    ∃ xs : List Vd, SlIn W (.slice oa len cap) 2 vdL xs ∧ xs.length = len ∧ ∀ x ∈ xs, True := by
  refine open_row (α := Vd) Tryz.underlying22 cells58 (by decide) vdL_length (fun fuel cs y hy => ?_) h
  have hl := struct_len Tryz.underlying58 hy
  rw [cells58] at hl
  obtain ⟨n0, g0, _⟩ := cell_string Tryz.underlying58 hy 0 rfl Tryz.underlying9 (by kernel_rfl)
  obtain ⟨n1, g1, _⟩ := cell_int Tryz.underlying58 hy 1 rfl Tryz.underlying2 (by kernel_rfl)
  match cs, hl, g0, g1 with
  | [x, y], _, g0, g1 =>
    simp at g0 g1
    subst g0 g1
    exact ⟨⟨n0, n1⟩, rfl, trivial⟩
theorem open_ints {oa : Option Addr} {len cap : Nat} {d : DataW H} {p : List MemPlace} (h : DataW.Trod enc Tryz.prog W 0 (fun _ => true) true 23 (.slice oa len cap) d p) :
    ∃ xs : List Int, SlIn W (.slice oa len cap) 1 intL xs ∧ xs.length = len ∧ ∀ x ∈ xs, (Lit.int .i64 x).wf = true := by
  refine open_row (α := Int) Tryz.underlying23 cells3 (by decide) intL_length (fun fuel cs y hy => ?_) h
  obtain ⟨n, h1, h2⟩ := int_cells Tryz.underlying3 hy
  exact ⟨n, h1, h2⟩
theorem open_names {oa : Option Addr} {len cap : Nat} {d : DataW H} {p : List MemPlace} (h : DataW.Trod enc Tryz.prog W 0 (fun _ => true) true 24 (.slice oa len cap) d p) :
    ∃ xs : List ID, SlIn W (.slice oa len cap) 32 idL xs ∧ xs.length = len ∧ ∀ x ∈ xs, True := by
  refine open_row (α := ID) Tryz.underlying24 cells32 (by decide) idL_length (fun fuel cs y hy => ?_) h
  obtain ⟨a, ha⟩ := id_cells Tryz.underlying32 Tryz.underlying5 cells5 cells32 hy
  exact ⟨a, ha, trivial⟩
theorem slice_cell {t e : TypeId} (ht : Tryz.prog.underlying t = some (.slice e)) {fuel : Nat} {cs : List Value} {x : DataW H × List MemPlace} (h : DataW.trod enc Tryz.prog W 0 (fun _ => true) true fuel t cs = some x) :
    ∃ (oa : Option Addr) (len cap : Nat), cs = [.slice oa len cap] := by
  rcases Go.Deep.open_slice ht h with ⟨h0, _⟩ | ⟨a, len, cap, _, _, _, _, h0, _, h1, h2, _⟩
  · exact ⟨none, 0, 0, h0⟩
  · exact ⟨some a, len, cap, h0⟩
set_option maxRecDepth 100000 in
theorem ans_cells {fuel : Nat} {cs : List Value} {y : DataW H × List MemPlace} (h : DataW.trod enc Tryz.prog W 0 (fun _ => true) true fuel 54 cs = some y) :
    ∃ x : AnsD, cs = ansL x ∧ ∃ ids, SlIn W (.slice x.oa x.n x.cap) 32 idL ids := by
  obtain ⟨xs, n, _, _, hl, hxl, hx⟩ := DataW.trod_struct Tryz.underlying54 h
  rw [cells54] at hl
  have g : ∀ i f, (i < 3) → _ → DataW.trod enc Tryz.prog W 0 (fun _ => true) true n (Field.type f) ((cs.drop f.offset).take (Tryz.prog.cellsOf f.type)) = some (xs[i]!) := fun i f hi hf => by
    have := hx i f hf
    rw [this, getElem!_pos xs i (by rw [hxl]; exact hi)]
    exact List.getElem?_eq_getElem _
  obtain ⟨b0, g0⟩ := cell_bool Tryz.underlying54 h 0 rfl Tryz.underlying4 (by kernel_rfl)
  obtain ⟨a, ha⟩ := id_cells Tryz.underlying32 Tryz.underlying5 cells5 cells32 (g 1 _ (by decide) rfl)
  have g4 := g 2 _ (by decide) rfl
  obtain ⟨oa, ln, cap, e4⟩ := slice_cell Tryz.underlying24 g4
  rw [e4] at g4
  obtain ⟨ids, h1, _, _⟩ := open_names (enc := enc) (d := xs[2]!.1) (p := xs[2]!.2) ⟨_, g4⟩
  replace ha : (cs.drop 1).take 32 = idL a := by rw [← cells32]; exact ha
  replace e4 : (cs.drop 33).take 1 = [.slice oa ln cap] := by rw [← cells24]; exact e4
  refine ⟨⟨b0, a, oa, ln, cap⟩, ?_, ids, h1⟩
  match cs, hl with
  | c :: cs, hl =>
    simp at g0
    subst g0
    unfold ansL
    simp only [List.drop_succ_cons, List.drop_zero] at ha e4
    simp only [List.length_cons] at hl
    congr 1
    have e5 : cs = cs.take 32 ++ cs.drop 32 := (List.take_append_drop 32 cs).symm
    rw [e5, ha]
    congr 1
    rw [List.take_of_length_le (by simp; omega)] at e4
    exact e4
theorem asAt_of (xs : List AnsD) (h : ∀ x ∈ xs, ∃ ids, SlIn W (.slice x.oa x.n x.cap) 32 idL ids) : ∃ av, AsAt W xs av := by
  induction xs with
  | nil => exact ⟨[], rfl, fun i r a h1 _ => by simp at h1⟩
  | cons x xs ih =>
    obtain ⟨av, h1, h2⟩ := ih fun y hy => h y (by simp [hy])
    obtain ⟨ids, hi⟩ := h x (by simp)
    refine ⟨⟨x.fails, x.tip, ids⟩ :: av, by simp [h1], fun i r a g1 g2 => ?_⟩
    cases i with
    | zero =>
      simp at g1 g2
      subst g1 g2
      exact ⟨rfl, rfl, hi⟩
    | succ i => exact h2 i r a (by simpa using g1) (by simpa using g2)
theorem open_answers {oa : Option Addr} {len cap : Nat} {d : DataW H} {p : List MemPlace} (h : DataW.Trod enc Tryz.prog W 0 (fun _ => true) true 48 (.slice oa len cap) d p) :
    ∃ xs av, SlIn W (.slice oa len cap) 34 ansL xs ∧ AsAt W xs av := by
  obtain ⟨xs, h1, _, h2⟩ := open_row (α := AnsD) Tryz.underlying48 cells54 (by decide) ansL_length (fun fuel cs y hy => ans_cells hy) h
  obtain ⟨av, h3⟩ := asAt_of xs h2
  exact ⟨xs, av, h1, h3⟩
set_option maxRecDepth 100000 in
theorem open_saids {oa : Option Addr} {len cap : Nat} {d : DataW H} {p : List MemPlace} (h : DataW.Trod enc Tryz.prog W 0 (fun _ => true) true 25 (.slice oa len cap) d p) :
    ∃ rows l, SlIn W (.slice oa len cap) 2 sdL rows ∧ SdAt W rows l := by
  obtain ⟨xs, h1, _, h2⟩ := open_row (α := SdD) (Q := fun x => ∃ ids, SlIn W (.slice x.oa x.n x.cap) 32 idL ids) Tryz.underlying25 cells42 (by decide) sdL_length (fun fuel cs y hy => by
    have hl := struct_len Tryz.underlying42 hy
    rw [cells42] at hl
    obtain ⟨n0, g0, _⟩ := cell_int Tryz.underlying42 hy 0 rfl Tryz.underlying3 (by kernel_rfl)
    obtain ⟨fu, y2, g1⟩ := struct_cell Tryz.underlying42 hy (i := 1) rfl
    obtain ⟨oa, ln, cap, e4⟩ := slice_cell Tryz.underlying24 g1
    rw [e4] at g1
    obtain ⟨ids, q1, _, _⟩ := open_names (enc := enc) (d := y2.1) (p := y2.2) ⟨_, g1⟩
    have e5 : (cs.drop 1).take 1 = [Value.slice oa ln cap] := by rw [← cells24]; exact e4
    have e6 := take1 e5
    refine ⟨⟨n0, oa, ln, cap⟩, ?_, ids, q1⟩
    match cs, hl, g0, e6 with
    | [x, y], _, g0, e6 =>
      simp at g0 e6
      subst g0 e6
      rfl) h
  have key : ∀ xs : List SdD, (∀ x ∈ xs, ∃ ids, SlIn W (.slice x.oa x.n x.cap) 32 idL ids) → ∃ l, SdAt W xs l := by
    intro xs
    induction xs with
    | nil => intro _; exact ⟨[], rfl, fun i r s h1 _ => by simp at h1⟩
    | cons x xs ih =>
      intro h
      obtain ⟨l, h1, h2⟩ := ih fun y hy => h y (by simp [hy])
      obtain ⟨ids, hi⟩ := h x (by simp)
      refine ⟨⟨x.node, ids⟩ :: l, by simp [h1], fun i r a g1 g2 => ?_⟩
      cases i with
      | zero =>
        simp at g1 g2
        subst g1 g2
        exact ⟨rfl, hi⟩
      | succ i => exact h2 i r a (by simpa using g1) (by simpa using g2)
  obtain ⟨l, h3⟩ := key xs h2
  exact ⟨xs, l, h1, h3⟩
set_option maxRecDepth 100000 in
theorem open_front {r : Reach} {b0 : Nat} {v : Value} {d : DataW H} {p : List MemPlace} (hval : Value.okWide Tryz.prog W r b0 27 v) (h : DataW.Trod enc Tryz.prog W 0 (fun _ => true) true 27 v d p) : ∃ d m, v = frV d ∧ FrAt W d m := by
  obtain ⟨cs, rfl, hc⟩ := okWide_struct Tryz.underlying27 hval
  obtain ⟨fuel, h⟩ := h
  rw [cells27] at hc
  obtain ⟨l⟩ := cs
  simp only [Value.cells] at h
  obtain ⟨n0, g0, _⟩ := cell_int Tryz.underlying27 h 0 rfl Tryz.underlying3 (by kernel_rfl)
  obtain ⟨f1, y1, h1⟩ := struct_cell Tryz.underlying27 h (i := 1) rfl
  obtain ⟨oa1, ln1, cap1, e1⟩ := slice_cell Tryz.underlying23 h1
  rw [e1] at h1
  obtain ⟨op, q1, _, _⟩ := open_ints (enc := enc) (d := y1.1) (p := y1.2) ⟨_, h1⟩
  obtain ⟨f2, y2, h2⟩ := struct_cell Tryz.underlying27 h (i := 2) rfl
  obtain ⟨oa2, ln2, cap2, e2⟩ := slice_cell Tryz.underlying24 h2
  rw [e2] at h2
  obtain ⟨tips, q2, _, _⟩ := open_names (enc := enc) (d := y2.1) (p := y2.2) ⟨_, h2⟩
  obtain ⟨f3, y3, h3⟩ := struct_cell Tryz.underlying27 h (i := 3) rfl
  obtain ⟨oa3, ln3, cap3, e3⟩ := slice_cell Tryz.underlying25 h3
  rw [e3] at h3
  obtain ⟨rows, said, q3, q4⟩ := open_saids (enc := enc) (d := y3.1) (p := y3.2) ⟨_, h3⟩
  have c1 := take1 (show (l.drop 1).take 1 = [Value.slice oa1 ln1 cap1] by rw [← cells23]; exact e1)
  have c2 := take1 (show (l.drop 2).take 1 = [Value.slice oa2 ln2 cap2] by rw [← cells24]; exact e2)
  have c3 := take1 (show (l.drop 3).take 1 = [Value.slice oa3 ln3 cap3] by rw [← cells25]; exact e3)
  refine ⟨⟨n0, oa1, ln1, cap1, oa2, ln2, cap2, oa3, ln3, cap3⟩, ⟨n0, op, tips, said⟩, ?_, ⟨rfl, q1, q2, rows, q3, q4⟩⟩
  match l, hc, g0, c1, c2, c3 with
  | [a, b, c, d], _, g0, c1, c2, c3 =>
    simp at g0 c1 c2 c3
    subst g0 c1 c2 c3
    rfl
theorem row_weight {t e : TypeId} (ht : Tryz.prog.underlying t = some (.slice e)) {oa : Option Addr} {len cap : Nat} {d : DataW H} {p : List MemPlace}
    (h : DataW.Trod enc Tryz.prog W 0 (fun _ => true) true t (.slice oa len cap) d p) : len = 0 ∨ ∃ el sp, d = .slice el sp ∧ el.length = len := by
  obtain ⟨fuel, hf⟩ := h
  rcases Go.Deep.open_slice ht hf with ⟨h0, _⟩ | ⟨a, len', cap', m, n, D, Pl, h0, _, h1, h2, h3, h5, h4⟩
  · simp [Value.cells] at h0
    exact .inl h0.2.1
  · simp [Value.cells] at h0
    obtain ⟨rfl, rfl, rfl⟩ := h0
    simp only [Prod.mk.injEq] at h5
    exact .inr ⟨_, _, h5.1, by simp⟩
theorem bytes3 : Tryz.prog.bytesOf 3 = 8 := by kernel_rfl
theorem sized_row {ts : List TypeId} {ds : List (DataW H)} (hs : (DataW.weightsEach Tryz.prog ts ds).all (· ≤ reachBytes) = true) {j : Nat} {d : DataW H} (h1 : ts[j]? = some 23) (h2 : ds[j]? = some d)
    {oa : Option Addr} {len cap : Nat} {p : List MemPlace} (h : DataW.Trod enc Tryz.prog W 0 (fun _ => true) true 23 (.slice oa len cap) d p) : len * 8 ≤ 140737488351232 := by
  rcases row_weight Tryz.underlying23 h with rfl | ⟨el, sp, rfl, rfl⟩
  · omega
  · have := sized_slice hs h1 h2 Tryz.underlying23
    rw [bytes3] at this
    unfold reachBytes at this
    have h3 : el.length * 8 ≤ (el.length + sp.length) * 8 := Nat.mul_le_mul_right _ (by omega)
    omega
end
end Go.Proofs.YtmgpfmgmpmkkaaaGreat
