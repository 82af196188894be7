import Derived.Test.YtmenfbfekfljbaaFew
import Derived.Test.YtmenfbfekfljbaaLaw
namespace Go.Proofs.Ytmenfbfekfljbaa
open Go.ChangeShapes Go.WideShapes Go.ChangeAt Go.RowKit

theorem cells45 : Try.prog.cellsOf 45 = 32 := by kernel_rfl
theorem cells5 : Try.prog.cellsOf 5 = 1 := by kernel_rfl
theorem cells54 : Try.prog.cellsOf 54 = 72 := by kernel_rfl
theorem cells3 : Try.prog.cellsOf 3 = 1 := by kernel_rfl
theorem cells2 : Try.prog.cellsOf 2 = 1 := by kernel_rfl
theorem cells38 : Try.prog.cellsOf 38 = 1 := by kernel_rfl
theorem cells52 : Try.prog.cellsOf 52 = 1 := by kernel_rfl
section
variable {H : Type} {enc : TypeId × Value → H}
set_option maxRecDepth 100000 in
theorem open_name {W : World} {base : Nat} {v : Value} {d : DataW H} {p : List MemPlace} (hv : Value.okWide Try.prog W .any base 45 v) (h : DataW.Trod enc Try.prog W 0 (fun _ => true) true 45 v d p) : ∃ a : ID, v = .agg (idL a).toArray := by
  refine open_id Try.underlying45 Try.underlying5 cells5 cells45 ?_ h
  simp only [Value.okWide, Try.underlying45] at hv
  obtain ⟨cs, h1, _⟩ := hv
  exact ⟨cs, h1⟩
set_option maxRecDepth 100000 in
theorem slice_cells {t e : TypeId} (ht : Try.prog.underlying t = some (.slice e)) {W : World} {fuel : Nat} {cs : List Value} {x : DataW H × List MemPlace} (h : DataW.trod enc Try.prog W 0 (fun _ => true) true fuel t cs = some x) :
    ∃ s : SlD, cs = [slV s] ∧ s.len ≤ s.cap ∧ s.cap ≤ maxLen := by
  rcases Go.Deep.open_slice ht h with ⟨h0, _⟩ | ⟨a, len, cap, _, _, _, _, h0, _, h1, h2, _⟩
  · exact ⟨⟨none, 0, 0⟩, h0, Nat.le_refl _, Nat.zero_le _⟩
  · exact ⟨⟨some a, len, cap⟩, h0, h1, h2⟩
set_option maxRecDepth 100000 in
theorem fact_cells {W : World} {fuel : Nat} {cs : List Value} {y : DataW H × List MemPlace} (h : DataW.trod enc Try.prog W 0 (fun _ => true) true fuel 54 cs = some y) :
    ∃ x : FactD, cs = factL x ∧ (x.slots.len ≤ maxLen ∧ x.votes.len ≤ maxLen) := by
  obtain ⟨xs, n, _, _, hl, hxl, hx⟩ := DataW.trod_struct Try.underlying54 h
  rw [cells54] at hl
  have g : ∀ i f, (i < 10) → _ → DataW.trod enc Try.prog W 0 (fun _ => true) true n (Field.type f) ((cs.drop f.offset).take (Try.prog.cellsOf f.type)) = some (xs[i]!) := fun i f hi hf => by
    have := hx i f hf
    rw [this, getElem!_pos xs i (by rw [hxl]; exact hi)]
    exact List.getElem?_eq_getElem _
  obtain ⟨m0, e0, _⟩ := DataW.trod_int Try.underlying3 (g 0 _ (by decide) rfl)
  obtain ⟨m1, e1, _⟩ := DataW.trod_int Try.underlying3 (g 1 _ (by decide) rfl)
  obtain ⟨m2, e2, _⟩ := DataW.trod_int Try.underlying3 (g 2 _ (by decide) rfl)
  obtain ⟨m3, e3, _⟩ := DataW.trod_int Try.underlying3 (g 3 _ (by decide) rfl)
  obtain ⟨a4, e4⟩ := id_cells Try.underlying45 Try.underlying5 cells5 cells45 (g 4 _ (by decide) rfl)
  obtain ⟨a5, e5⟩ := id_cells Try.underlying45 Try.underlying5 cells5 cells45 (g 5 _ (by decide) rfl)
  obtain ⟨m6, e6, _⟩ := DataW.trod_int Try.underlying2 (g 6 _ (by decide) rfl)
  obtain ⟨m7, e7, _⟩ := DataW.trod_int Try.underlying2 (g 7 _ (by decide) rfl)
  obtain ⟨s8, e8, b8, c8⟩ := slice_cells Try.underlying38 (g 8 _ (by decide) rfl)
  obtain ⟨s9, e9, b9, c9⟩ := slice_cells Try.underlying52 (g 9 _ (by decide) rfl)
  replace e0 : (cs.drop 0).take 1 = [.int .i64 m0] := by rw [← cells3]; exact e0
  replace e1 : (cs.drop 1).take 1 = [.int .i64 m1] := by rw [← cells3]; exact e1
  replace e2 : (cs.drop 2).take 1 = [.int .i64 m2] := by rw [← cells3]; exact e2
  replace e3 : (cs.drop 3).take 1 = [.int .i64 m3] := by rw [← cells3]; exact e3
  replace e4 : (cs.drop 4).take 32 = idL a4 := by rw [← cells45]; exact e4
  replace e5 : (cs.drop 36).take 32 = idL a5 := by rw [← cells45]; exact e5
  replace e6 : (cs.drop 68).take 1 = [.int .i64 m6] := by rw [← cells2]; exact e6
  replace e7 : (cs.drop 69).take 1 = [.int .i64 m7] := by rw [← cells2]; exact e7
  replace e8 : (cs.drop 70).take 1 = [slV s8] := by rw [← cells38]; exact e8
  replace e9 : (cs.drop 71).take 1 = [slV s9] := by rw [← cells52]; exact e9
  refine ⟨⟨m0, m1, m2, m3, a4, a5, m6, m7, s8, s9⟩, ?_, Nat.le_trans b8 c8, Nat.le_trans b9 c9⟩
  have d0 := drop_split cs 0 1
  have d1 := drop_split cs 1 1
  have d2 := drop_split cs 2 1
  have d3 := drop_split cs 3 1
  have d4 := drop_split cs 4 32
  have d5 := drop_split cs 36 32
  have d6 := drop_split cs 68 1
  have d7 := drop_split cs 69 1
  have d8 := drop_split cs 70 1
  have d9 := drop_split cs 71 1
  have d10 : cs.drop 72 = [] := List.drop_eq_nil_of_le (by omega)
  simp only [Nat.reduceAdd] at d0 d1 d2 d3 d4 d5 d6 d7 d8 d9
  rw [List.drop_zero] at d0
  rw [e9, d10] at d9
  rw [e8, d9] at d8
  rw [e7, d8] at d7
  rw [e6, d7] at d6
  rw [e5, d6] at d5
  rw [e4, d5] at d4
  rw [e3, d4] at d3
  rw [e2, d3] at d2
  rw [e1, d2] at d1
  rw [List.drop_zero] at e0
  rw [e0, d1] at d0
  rw [d0]
  simp [factL]
/-- a slice of facts that came in -/
theorem open_facts {W : World} {oa : Option Addr} {len cap : Nat} {d : DataW H} {p : List MemPlace} (h : DataW.Trod enc Try.prog W 0 (fun _ => true) true 22 (.slice oa len cap) d p) :
    ∃ xs : List FactD, SlIn W (.slice oa len cap) 72 factL xs ∧ xs.length = len ∧ ∀ x ∈ xs, x.slots.len ≤ maxLen ∧ x.votes.len ≤ maxLen := by
  obtain ⟨hlc, hcap, hsh⟩ := slice_shape (k := 72) Try.underlying22 cells54 (by decide) h
  by_cases h0 : 0 < len
  · obtain ⟨b, off, rfl, hb, C, hC⟩ := hsh h0
    obtain ⟨X, hX⟩ := Go.Deep.choose_lt (α := FactD) (p := fun i x => C i = factL x ∧ (x.slots.len ≤ maxLen ∧ x.votes.len ≤ maxLen)) (fun i hi => by
      obtain ⟨_, _, fuel, y, hy⟩ := hC i hi
      exact fact_cells hy)
    have hl : ((List.range len).map X).length = len := by simp
    refine ⟨(List.range len).map X, ⟨_, cap, by rw [hl], by rw [hl]; exact hlc, hcap, fun _ => ⟨b, off, rfl, hb, fun j hj => ?_⟩⟩, hl, fun x hx => ?_⟩
    · rw [hl] at hj
      have := (hC j hj).2.1
      rw [(hX j hj).1] at this
      rw [show ((List.range len).map X)[j] = X j by simp]
      exact subOf_of_cells (factL_length _) (by decide) (fun i hi => this i hi)
    · simp only [List.mem_map, List.mem_range] at hx
      obtain ⟨i, hi, rfl⟩ := hx
      exact (hX i hi).2
  · have : len = 0 := by omega
    subst this
    exact ⟨[], ⟨oa, cap, rfl, Nat.zero_le _, hcap, fun h => absurd h (Nat.lt_irrefl _)⟩, rfl, by simp⟩
end
end Go.Proofs.Ytmenfbfekfljbaa
