import Derived.Test.YtmenfbfekfljbaaOpen
import Derived.Test.YtmenfbfekfljbaaPolls
namespace Go.Proofs.Ytmenfbfekfljbaa
open Go.ChangeShapes Go.WideShapes Go.ChangeAt Go.RowKit

section
variable {H : Type} {enc : TypeId × Value → H} {P : Program}
/-- a slice that came in, of elements each of which is of a form -/
theorem open_row {α : Type} [Inhabited α] {t e : TypeId} {k : Nat} (ht : P.underlying t = some (.slice e)) (hk : P.cellsOf e = k) (hk0 : 0 < k) {encL : α → List Value} (hlen : ∀ x, (encL x).length = k) {Q : α → Prop} {W : World}
    (hd : ∀ fuel cs y, DataW.trod enc P W 0 (fun _ => true) true fuel e cs = some y → ∃ x, cs = encL x ∧ Q x)
    {oa : Option Addr} {len cap : Nat} {d : DataW H} {p : List MemPlace} (h : DataW.Trod enc P W 0 (fun _ => true) true t (.slice oa len cap) d p) :
    ∃ xs : List α, SlIn W (.slice oa len cap) k encL xs ∧ xs.length = len ∧ ∀ x ∈ xs, Q x := by
  obtain ⟨hlc, hcap, hsh⟩ := slice_shape (k := k) ht hk hk0 h
  by_cases h0 : 0 < len
  · obtain ⟨b, off, rfl, hb, C, hC⟩ := hsh h0
    obtain ⟨X, hX⟩ := Go.Deep.choose_lt (α := α) (p := fun i x => C i = encL x ∧ Q x) (fun i hi => by
      obtain ⟨_, _, fuel, y, hy⟩ := hC i hi
      exact hd _ _ _ hy)
    have hl : ((List.range len).map X).length = len := by simp
    refine ⟨(List.range len).map X, ⟨_, cap, by rw [hl], by rw [hl]; exact hlc, hcap, fun _ => ⟨b, off, rfl, hb, fun j hj => ?_⟩⟩, hl, fun x hx => ?_⟩
    · rw [hl] at hj
      have := (hC j hj).2.1
      rw [(hX j hj).1] at this
      rw [show ((List.range len).map X)[j] = X j by simp]
      exact subOf_of_cells (hlen _) hk0 (fun i hi => this i hi)
    · simp only [List.mem_map, List.mem_range] at hx
      obtain ⟨i, hi, rfl⟩ := hx
      exact (hX i hi).2
  · have : len = 0 := by omega
    subst this
    exact ⟨[], ⟨oa, cap, rfl, Nat.zero_le _, hcap, fun h => absurd h (Nat.lt_irrefl _)⟩, rfl, by simp⟩
def IntsK (k : Nat) (cs : List Value) : Prop := cs.length = k ∧ ∀ j, j < k → ∃ n : Int, cs[j]? = some (.int .i64 n) ∧ (Lit.int .i64 n).wf = true
theorem ints_int {t : TypeId} (ht : P.underlying t = some (.int .i64)) {W : World} {base : Nat} {sp : Nat → Bool} {held : Bool} {fuel : Nat} {cs : List Value} {y : DataW H × List MemPlace}
    (h : DataW.trod enc P W base sp held fuel t cs = some y) : IntsK 1 cs := by
  obtain ⟨n, rfl, _, hw⟩ := DataW.trod_int ht h
  exact ⟨rfl, fun j hj => ⟨n, by obtain rfl : j = 0 := by omega
                                 rfl, hw⟩⟩
def coverB (P : Program) (fs : List Field) (k : Nat) : Bool := (List.range k).all fun j => fs.any fun f => decide (f.offset ≤ j) && decide (j < f.offset + P.cellsOf f.type)
theorem ints_struct {t : TypeId} {fs : Array Field} {k : Nat} (ht : P.underlying t = some (.struct fs)) (hk : P.cellsOf t = k) (hcov : coverB P fs.toList k = true)
    {W : World} {base : Nat} {sp : Nat → Bool} {held : Bool} (hf : ∀ f ∈ fs.toList, ∀ fuel cs y, DataW.trod enc P W base sp held fuel f.type cs = some y → IntsK (P.cellsOf f.type) cs)
    {fuel : Nat} {cs : List Value} {y : DataW H × List MemPlace} (h : DataW.trod enc P W base sp held fuel t cs = some y) : IntsK k cs := by
  obtain ⟨xs, n, _, _, hl, hxl, hx⟩ := DataW.trod_struct ht h
  rw [hk] at hl
  refine ⟨hl, fun j hj => ?_⟩
  unfold coverB at hcov
  rw [List.all_eq_true] at hcov
  have hc := hcov j (List.mem_range.2 hj)
  rw [List.any_eq_true] at hc
  obtain ⟨f, hfm, hfo⟩ := hc
  simp only [Bool.and_eq_true, decide_eq_true_eq] at hfo
  obtain ⟨i, hi, he⟩ := List.getElem_of_mem hfm
  have hfi : fs[i]? = some f := by
    rw [← Array.getElem?_toList, List.getElem?_eq_getElem hi, he]
  have hi' : i < xs.length := by rw [hxl]; simpa using hi
  have h4 := hx i f hfi
  rw [List.getElem?_eq_getElem hi'] at h4
  obtain ⟨h5, h6⟩ := hf f hfm _ _ _ h4
  obtain ⟨m, h7, h8⟩ := h6 (j - f.offset) (by omega)
  refine ⟨m, ?_, h8⟩
  rw [List.getElem?_take_of_lt (by omega), List.getElem?_drop, show f.offset + (j - f.offset) = j by omega] at h7
  exact h7
theorem IntsK.row {k : Nat} {cs : List Value} (h : IntsK k cs) : ∃ l : List Int, l.length = k ∧ cs = l.map (Value.int .i64) ∧ ∀ n ∈ l, (Lit.int .i64 n).wf = true := by
  obtain ⟨X, hX⟩ := Go.Deep.choose_lt h.2
  refine ⟨(List.range k).map X, by simp, ?_, ?_⟩
  · refine List.ext_getElem? fun j => ?_
    by_cases hj : j < k
    · rw [(hX j hj).1]; simp [hj]
    · rw [List.getElem?_eq_none (by rw [h.1]; omega), List.getElem?_eq_none (by simp; omega)]
  · intro n hn
    simp only [List.mem_map, List.mem_range] at hn
    obtain ⟨i, hi, rfl⟩ := hn
    exact (hX i hi).2
end
instance : Inhabited Vt := ⟨⟨ID.zero, 0⟩⟩
instance : Inhabited FactX := ⟨⟨⟨0, 0, 0, 0, ID.zero, ID.zero, 0, 0, ⟨none, 0, 0⟩, ⟨none, 0, 0⟩⟩, [], []⟩⟩
instance : Inhabited VdrD := ⟨⟨default, 0⟩⟩
theorem cells114 : Try.prog.cellsOf 114 = 33 := by kernel_rfl
theorem cells81 : Try.prog.cellsOf 81 = 2 := by kernel_rfl
theorem cells41 : Try.prog.cellsOf 41 = 32 := by kernel_rfl
theorem cells9 : Try.prog.cellsOf 9 = 1 := by kernel_rfl
theorem cells36 : Try.prog.cellsOf 36 = 28 := by kernel_rfl
theorem cells37 : Try.prog.cellsOf 37 = 1 := by kernel_rfl
theorem cells39 : Try.prog.cellsOf 39 = 1 := by kernel_rfl
theorem vtL_len (x : Vt) : (vtL x).length = 33 := by simp [vtL]
theorem vdrL_len (x : VdrD) : (vdrL x).length = 2 := rfl
section
variable {H : Type} {enc : TypeId × Value → H}
theorem one_wf {n : Int} (h : (Lit.int .i64 n).wf = true) : -9223372036854775808 ≤ n ∧ n ≤ 9223372036854775807 := by
  simpa [Lit.wf, IntKind.min, IntKind.max, IntKind.signed, IntKind.bits] using h
set_option maxRecDepth 100000 in
theorem vote_cells {W : World} {fuel : Nat} {cs : List Value} {y : DataW H × List MemPlace} (h : DataW.trod enc Try.prog W 0 (fun _ => true) true fuel 114 cs = some y) :
    ∃ x : Vt, cs = vtL x ∧ x.n ≤ 9223372036854775807 := by
  obtain ⟨xs, n, _, _, hl, hxl, hx⟩ := DataW.trod_struct Try.underlying114 h
  rw [cells114] at hl
  have g : ∀ i f, (i < 2) → _ → DataW.trod enc Try.prog W 0 (fun _ => true) true n (Field.type f) ((cs.drop f.offset).take (Try.prog.cellsOf f.type)) = some (xs[i]!) := fun i f hi hf => by
    have := hx i f hf
    rw [this, getElem!_pos xs i (by rw [hxl]; exact hi)]
    exact List.getElem?_eq_getElem _
  obtain ⟨a0, e0⟩ := id_cells Try.underlying45 Try.underlying5 cells5 cells45 (g 0 _ (by decide) rfl)
  obtain ⟨m1, e1, _, w1⟩ := DataW.trod_int Try.underlying3 (g 1 _ (by decide) rfl)
  replace e0 : (cs.drop 0).take 32 = idL a0 := by rw [← cells45]; exact e0
  replace e1 : (cs.drop 32).take 1 = [.int .i64 m1] := by rw [← cells3]; exact e1
  have d0 := drop_split cs 0 32
  have d1 := drop_split cs 32 1
  have d2 : cs.drop 33 = [] := List.drop_eq_nil_of_le (by omega)
  simp only [Nat.reduceAdd] at d0 d1
  rw [List.drop_zero] at d0
  rw [e1, d2] at d1
  rw [List.drop_zero] at e0
  rw [e0, d1] at d0
  exact ⟨⟨a0, m1⟩, by rw [d0]; rfl, (one_wf w1).2⟩
set_option maxRecDepth 100000 in
theorem vdr_cells {W : World} {fuel : Nat} {cs : List Value} {y : DataW H × List MemPlace} (h : DataW.trod enc Try.prog W 0 (fun _ => true) true fuel 81 cs = some y) :
    ∃ x : VdrD, cs = vdrL x ∧ x.name.size ≤ maxLen := by
  obtain ⟨xs, n, _, _, hl, hxl, hx⟩ := DataW.trod_struct Try.underlying81 h
  rw [cells81] at hl
  have g : ∀ i f, (i < 2) → _ → DataW.trod enc Try.prog W 0 (fun _ => true) true n (Field.type f) ((cs.drop f.offset).take (Try.prog.cellsOf f.type)) = some (xs[i]!) := fun i f hi hf => by
    have := hx i f hf
    rw [this, getElem!_pos xs i (by rw [hxl]; exact hi)]
    exact List.getElem?_eq_getElem _
  obtain ⟨a0, e0, _, w0⟩ := DataW.trod_string Try.underlying9 (g 0 _ (by decide) rfl)
  obtain ⟨m1, e1, _, w1⟩ := DataW.trod_int Try.underlying2 (g 1 _ (by decide) rfl)
  replace e0 : (cs.drop 0).take 1 = [.string a0] := by rw [← cells9]; exact e0
  replace e1 : (cs.drop 1).take 1 = [.int .i64 m1] := by rw [← cells2]; exact e1
  have d0 := drop_split cs 0 1
  have d1 := drop_split cs 1 1
  have d2 : cs.drop 2 = [] := List.drop_eq_nil_of_le (by omega)
  simp only [Nat.reduceAdd] at d0 d1
  rw [List.drop_zero] at d0
  rw [e1, d2] at d1
  rw [List.drop_zero] at e0
  rw [e0, d1] at d0
  exact ⟨⟨a0, m1⟩, by rw [d0]; rfl, w0⟩
theorem int3_cells {W : World} {fuel : Nat} {cs : List Value} {y : DataW H × List MemPlace} (h : DataW.trod enc Try.prog W 0 (fun _ => true) true fuel 3 cs = some y) :
    ∃ x : Int, cs = iL x ∧ True := by
  obtain ⟨n, h1, _, h2⟩ := DataW.trod_int Try.underlying3 h
  exact ⟨n, h1, trivial⟩
/-- a slice's one cell, read -/
theorem open_cell {α : Type} [Inhabited α] {t e : TypeId} {k : Nat} (ht : Try.prog.underlying t = some (.slice e)) (hk : Try.prog.cellsOf e = k) (hk0 : 0 < k) {encL : α → List Value} (hlen : ∀ x, (encL x).length = k) {Q : α → Prop} {W : World}
    (hd : ∀ fuel cs y, DataW.trod enc Try.prog W 0 (fun _ => true) true fuel e cs = some y → ∃ x, cs = encL x ∧ Q x)
    {s : SlD} {fuel : Nat} {y : DataW H × List MemPlace} (h : DataW.trod enc Try.prog W 0 (fun _ => true) true fuel t [slV s] = some y) :
    ∃ xs : List α, SlIn W (slV s) k encL xs ∧ xs.length = s.len ∧ ∀ x ∈ xs, Q x := by
  obtain ⟨d, p⟩ := y
  exact open_row ht hk hk0 hlen hd (show DataW.Trod enc Try.prog W 0 (fun _ => true) true t (.slice s.a s.len s.cap) d p from ⟨fuel, h⟩)
theorem factL_end (x : FactD) : (factL x).drop 70 = [slV x.slots, slV x.votes] := by
  simp [factL, List.drop_append]
  rw [List.drop_eq_nil_of_le (by simp), List.drop_eq_nil_of_le (by simp)]
  rfl
set_option maxRecDepth 100000 in
theorem factx_cells {W : World} {fuel : Nat} {cs : List Value} {y : DataW H × List MemPlace} (h : DataW.trod enc Try.prog W 0 (fun _ => true) true fuel 54 cs = some y) :
    ∃ z : FactX, cs = fxL z ∧ (z.x.slots.len ≤ maxLen ∧ z.x.votes.len ≤ maxLen) ∧ Inner W z ∧ z.sl.length = z.x.slots.len ∧ z.vs.length = z.x.votes.len ∧ ∀ x ∈ z.vs, x.n ≤ 9223372036854775807 := by
  obtain ⟨x, rfl, hb⟩ := fact_cells h
  obtain ⟨xs, n, _, _, hl, hxl, hx⟩ := DataW.trod_struct Try.underlying54 h
  have g : ∀ i f, (i < 10) → _ → DataW.trod enc Try.prog W 0 (fun _ => true) true n (Field.type f) (((factL x).drop f.offset).take (Try.prog.cellsOf f.type)) = some (xs[i]!) := fun i f hi hf => by
    have := hx i f hf
    rw [this, getElem!_pos xs i (by rw [hxl]; exact hi)]
    exact List.getElem?_eq_getElem _
  have g8 := g 8 _ (by decide) rfl
  have g9 := g 9 _ (by decide) rfl
  replace g8 : DataW.trod enc Try.prog W 0 (fun _ => true) true n 38 (((factL x).drop 70).take 1) = some (xs[8]!) := by rw [← cells38]; exact g8
  replace g9 : DataW.trod enc Try.prog W 0 (fun _ => true) true n 52 (((factL x).drop 71).take 1) = some (xs[9]!) := by rw [← cells52]; exact g9
  rw [factL_end] at g8
  rw [show (71 : Nat) = 70 + 1 from rfl, ← List.drop_drop, factL_end] at g9
  obtain ⟨sl, h1, h2, _⟩ := open_cell (k := 1) (encL := iL) (Q := fun _ => True) Try.underlying38 cells3 (by decide) (fun _ => rfl) (fun _ _ _ h => int3_cells h) g8
  obtain ⟨vs, h3, h4, h5⟩ := open_cell (k := 33) (encL := vtL) (Q := fun x => x.n ≤ 9223372036854775807) Try.underlying52 cells114 (by decide) vtL_len (fun _ _ _ h => vote_cells h) g9
  exact ⟨⟨x, sl, vs⟩, rfl, hb, ⟨h1, h3⟩, h2, h4, h5⟩
/-- facts that came in, with what their slices hold -/
theorem open_factx {W : World} {oa : Option Addr} {len cap : Nat} {d : DataW H} {p : List MemPlace} (h : DataW.Trod enc Try.prog W 0 (fun _ => true) true 22 (.slice oa len cap) d p) :
    ∃ zs : List FactX, SlIn W (.slice oa len cap) 72 fxL zs ∧ zs.length = len ∧ ∀ z ∈ zs, (z.x.slots.len ≤ maxLen ∧ z.x.votes.len ≤ maxLen) ∧ Inner W z ∧ z.sl.length = z.x.slots.len ∧ z.vs.length = z.x.votes.len ∧ ∀ x ∈ z.vs, x.n ≤ 9223372036854775807 :=
  open_row Try.underlying22 cells54 (by decide) fxL_length (fun _ _ _ h => factx_cells h) h
set_option maxRecDepth 100000 in
theorem cfg_ints {W : World} {fuel : Nat} {cs : List Value} {y : DataW H × List MemPlace} (h : DataW.trod enc Try.prog W 0 (fun _ => true) true fuel 36 cs = some y) : IntsK 28 cs := by
  have i3 : ∀ fuel cs y, DataW.trod enc Try.prog W 0 (fun _ => true) true fuel 3 cs = some y → IntsK (Try.prog.cellsOf 3) cs := fun _ _ _ h => by rw [cells3]; exact ints_int Try.underlying3 h
  have i2 : ∀ fuel cs y, DataW.trod enc Try.prog W 0 (fun _ => true) true fuel 2 cs = some y → IntsK (Try.prog.cellsOf 2) cs := fun _ _ _ h => by rw [cells2]; exact ints_int Try.underlying2 h
  have i26 : ∀ fuel cs y, DataW.trod enc Try.prog W 0 (fun _ => true) true fuel 26 cs = some y → IntsK (Try.prog.cellsOf 26) cs := fun _ _ _ h => ints_struct Try.underlying26 rfl (by kernel_rfl) (fun f hf => by
    simp only [List.mem_cons, List.not_mem_nil, or_false] at hf
    rcases hf with rfl | rfl | rfl | rfl <;> first | exact i3 | exact i2) h
  have i28 : ∀ fuel cs y, DataW.trod enc Try.prog W 0 (fun _ => true) true fuel 28 cs = some y → IntsK (Try.prog.cellsOf 28) cs := fun _ _ _ h => ints_struct Try.underlying28 rfl (by kernel_rfl) (fun f hf => by
    simp only [List.mem_cons, List.not_mem_nil, or_false] at hf
    rcases hf with rfl | rfl | rfl | rfl | rfl <;> first | exact i3 | exact i2) h
  have i30 : ∀ fuel cs y, DataW.trod enc Try.prog W 0 (fun _ => true) true fuel 30 cs = some y → IntsK (Try.prog.cellsOf 30) cs := fun _ _ _ h => ints_struct Try.underlying30 rfl (by kernel_rfl) (fun f hf => by
    simp only [List.mem_cons, List.not_mem_nil, or_false] at hf
    rcases hf with rfl | rfl | rfl | rfl | rfl <;> first | exact i3 | exact i2) h
  have i32 : ∀ fuel cs y, DataW.trod enc Try.prog W 0 (fun _ => true) true fuel 32 cs = some y → IntsK (Try.prog.cellsOf 32) cs := fun _ _ _ h => ints_struct Try.underlying32 rfl (by kernel_rfl) (fun f hf => by
    simp only [List.mem_cons, List.not_mem_nil, or_false] at hf
    rcases hf with rfl | rfl | rfl | rfl | rfl <;> first | exact i3 | exact i2) h
  have i34 : ∀ fuel cs y, DataW.trod enc Try.prog W 0 (fun _ => true) true fuel 34 cs = some y → IntsK (Try.prog.cellsOf 34) cs := fun _ _ _ h => ints_struct Try.underlying34 rfl (by kernel_rfl) (fun f hf => by
    simp only [List.mem_cons, List.not_mem_nil, or_false] at hf
    rcases hf with rfl | rfl | rfl <;> first | exact i3 | exact i30 | exact i32) h
  exact ints_struct Try.underlying36 cells36 (by kernel_rfl) (fun f hf => by
    simp only [List.mem_cons, List.not_mem_nil, or_false] at hf
    rcases hf with rfl | rfl | rfl | rfl | rfl | rfl | rfl | rfl | rfl | rfl | rfl <;> first | exact i3 | exact i2 | exact i26 | exact i28 | exact i34) h
set_option maxRecDepth 100000 in
/-- a plan that came in -/
theorem open_plan {W : World} {base : Nat} {v : Value} {d : DataW H} {ps : List MemPlace} (hv : Value.okWide Try.prog W .any base 41 v) (h : DataW.Trod enc Try.prog W 0 (fun _ => true) true 41 v d ps) :
    ∃ (p : PlanD) (vs : List VdrD) (byz : List Int), v = .agg (planL p).toArray ∧ SlIn W (slV p.vdrs) 2 vdrL vs ∧ (∀ x ∈ vs, x.name.size ≤ maxLen) ∧ SlIn W (slV p.byz) 1 iL byz ∧ p.byz.len ≤ maxLen ∧ -9223372036854775808 ≤ p.al2 ∧ p.al2 ≤ 9223372036854775807 := by
  simp only [Value.okWide, Try.underlying41] at hv
  obtain ⟨ca, rfl, hsz, _⟩ := hv
  obtain ⟨fuel, h⟩ := h
  obtain ⟨cs⟩ := ca
  replace h : DataW.trod enc Try.prog W 0 (fun _ => true) true fuel 41 cs = some (d, ps) := h
  obtain ⟨xs, n, _, _, hl, hxl, hx⟩ := DataW.trod_struct Try.underlying41 h
  rw [cells41] at hl
  have g : ∀ i f, (i < 5) → _ → DataW.trod enc Try.prog W 0 (fun _ => true) true n (Field.type f) ((cs.drop f.offset).take (Try.prog.cellsOf f.type)) = some (xs[i]!) := fun i f hi hf => by
    have := hx i f hf
    rw [this, getElem!_pos xs i (by rw [hxl]; exact hi)]
    exact List.getElem?_eq_getElem _
  have g0 := cfg_ints (g 0 _ (by decide) rfl)
  obtain ⟨l, hl0, e0, hw⟩ := g0.row
  have g1 := g 1 _ (by decide) rfl
  have g2 := g 2 _ (by decide) rfl
  obtain ⟨s1, e1, b1, c1⟩ := slice_cells Try.underlying37 g1
  obtain ⟨s2, e2, b2, c2⟩ := slice_cells Try.underlying38 g2
  obtain ⟨s3, e3, b3, c3⟩ := slice_cells Try.underlying39 (g 3 _ (by decide) rfl)
  obtain ⟨m4, e4, _⟩ := DataW.trod_int Try.underlying2 (g 4 _ (by decide) rfl)
  rw [e1] at g1
  rw [e2] at g2
  obtain ⟨vs, q1, _, q2⟩ := open_cell (k := 2) (encL := vdrL) (Q := fun x => x.name.size ≤ maxLen) Try.underlying37 cells81 (by decide) vdrL_len (fun _ _ _ h => vdr_cells h) g1
  obtain ⟨byz, q3, _, _⟩ := open_cell (k := 1) (encL := iL) (Q := fun _ => True) Try.underlying38 cells3 (by decide) (fun _ => rfl) (fun _ _ _ h => int3_cells h) g2
  replace e0 : (cs.drop 0).take 28 = l.map (Value.int .i64) := by rw [← cells36]; exact e0
  replace e1 : (cs.drop 28).take 1 = [slV s1] := by rw [← cells37]; exact e1
  replace e2 : (cs.drop 29).take 1 = [slV s2] := by rw [← cells38]; exact e2
  replace e3 : (cs.drop 30).take 1 = [slV s3] := by rw [← cells39]; exact e3
  replace e4 : (cs.drop 31).take 1 = [.int .i64 m4] := by rw [← cells2]; exact e4
  refine ⟨⟨l, hl0, s1, s2, s3, m4⟩, vs, byz, ?_, q1, q2, q3, Nat.le_trans b2 c2, ?_⟩
  · have d0 := drop_split cs 0 28
    have d1 := drop_split cs 28 1
    have d2 := drop_split cs 29 1
    have d3 := drop_split cs 30 1
    have d4 := drop_split cs 31 1
    have d5 : cs.drop 32 = [] := List.drop_eq_nil_of_le (by omega)
    simp only [Nat.reduceAdd] at d0 d1 d2 d3 d4
    rw [List.drop_zero] at d0
    rw [e4, d5] at d4
    rw [e3, d4] at d3
    rw [e2, d3] at d2
    rw [e1, d2] at d1
    rw [List.drop_zero] at e0
    rw [e0, d1] at d0
    rw [d0]
    rfl
  · exact one_wf (hw _ (List.getElem_mem _))
end
end Go.Proofs.Ytmenfbfekfljbaa
