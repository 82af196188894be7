import Derived.Test.YtiknonljdibfgaaWays
namespace Go.Proofs.Ytiknonljdibfgaa
open Go.RowKit

/-! ### acts -/
structure Ac where
  v : Int
  b : Bool
  t : Int
@[reducible] def acL (a : Ac) : List Value := [.int .u8 a.v, .bool a.b, .int .u16 a.t]
theorem acL_length (a : Ac) : (acL a).length = 3 := rfl
def AcOK (a : Ac) : Prop := 0 ≤ a.v ∧ a.v ≤ 255 ∧ 0 ≤ a.t ∧ a.t ≤ 65535
@[go_sem ↓] theorem hide_load36 (a : Addr) : loadVar 36 a = loadAgg 36 a := rfl
@[go_sem ↓] theorem hide_store36 (a : Addr) (v : Value) : storeVar 36 a v = storeAgg 36 a v := rfl
@[go_sem] theorem run_load36 (b off : Nat) (W : World) : (loadAgg 36 ⟨b, off, none⟩).run Try.prog W = loadRes Try.prog 36 ⟨b, off, none⟩ W (subOf (obj W b) off 3) := run_loadAgg Try.isAgg36 Try.sizeOf36 b off W
@[go_sem] theorem run_store36 (b off : Nat) (cs : Array Value) (W : World) : (storeAgg 36 ⟨b, off, none⟩ (.agg cs)).run Try.prog W = storeRes Try.prog 36 ⟨b, off, none⟩ (.agg cs) W (putOf (obj W b) off 3 cs) := run_storeAgg Try.sizeOf36 b off cs W
/-! ### a row of numbers -/
def rowC (R : List Int) : Array Value := (R.map fun x => Value.int .i64 x).toArray
theorem info3' : (Try.prog.info? 3).map (fun i => (i.zero, i.size, i.bytes)) = some (some (.int .i64 0), 1, 8) := by kernel_rfl
theorem makeRow (W : World) (n : Nat) (hn : n ≤ 4096) : ∃ W', (Instr.makeSlice 45 (.int .i64 (n : Int)) (.int .i64 (n : Int))).run Try.prog W = .ok (.slice (some ⟨W.heap.size, 0, none⟩) n n) W' ∧ obj W' W.heap.size = some (.cells (rowC (List.replicate n 0)) 3 (0, 0)) ∧ Below W.heap.size W W' := by
  obtain ⟨i0, hi, hz0, hz1, hz2⟩ := info_parts info3'
  obtain ⟨W', hm, hown, hg⟩ := run_makeSlice_full (P := Try.prog) W W.heap.size 45 3 i0 _ 1 Try.underlying45 hi hz0 hz1 .i64 .i64 n (by omega) (by rw [hz2]; omega) (by unfold maxLen; omega) (Nat.le_refl _)
  refine ⟨W', hm, ?_, (Below.refl _ W).grown hg (Nat.le_refl _) (fun k e => by cases e)⟩
  rcases hown.2 with ⟨h, _⟩ | ⟨g, cap, cur, h, _, ho, h1, _, h3, h4⟩
  · cases h
  · simp only [Value.slice.injEq, Option.some.injEq, Addr.mk.injEq, and_true] at h
    obtain ⟨rfl, _, rfl⟩ := h
    have e : cur = rowC (List.replicate n 0) := by
      apply Array.ext'
      rw [← List.take_of_length_le (l := cur.toList) (i := n * 1) (by simp; omega), h4]
      unfold rowC
      simp only [List.map_replicate]
      rw [List.eq_replicate_iff]
      refine ⟨by simp [madeCells], fun b hb => ?_⟩
      change b ∈ (madeCells #[.int .i64 0] (n * 1)).toList at hb
      unfold madeCells at hb
      rw [Array.toList_map, List.mem_map] at hb
      obtain ⟨i, _, rfl⟩ := hb
      have : i % 1 = 0 := by omega
      change (#[Value.int .i64 0] : Array Value)[i % 1]! = _
      rw [this]; rfl
    rw [← e]
    exact ho
theorem rowC_get (R : List Int) {i : Nat} (h : i < R.length) : (rowC R)[i]? = some (.int .i64 R[i]) := by simp [rowC, h]
theorem rowC_size (R : List Int) : (rowC R).size = R.length := by simp [rowC]
theorem rowC_set (R : List Int) (i : Nat) (x : Int) : (rowC R).setIfInBounds i (.int .i64 x) = rowC (R.set i x) := by
  unfold rowC
  simp [List.map_set]
theorem may0 {r : Rul} {l : List Vd} (hr : ruleE r = 0) (hc : chk l = 0) : mayE r l (List.replicate l.length ⟨0, 0, 0⟩) = 0 := by
  unfold mayE
  rw [if_pos]
  refine ⟨hr, hc, by simp, ?_⟩
  rw [List.all_eq_true]
  intro x hx
  rw [(List.mem_replicate.1 hx).2]
  decide
theorem OwnS.rebase {α : Type} {w : World} {base base' E k : Nat} {enc : α → List Value} {v : Value} {xs : List α} (h : OwnS w base' E k enc v xs) (hb : base ≤ base') : OwnS w base E k enc v xs :=
  ⟨⟨h.1.1, by
    rcases h.1.2 with h1 | ⟨g', c', cur, e, hb', h1⟩
    · exact .inl h1
    · exact .inr ⟨g', c', cur, e, Nat.le_trans hb hb', h1⟩⟩, h.2⟩
end Go.Proofs.Ytiknonljdibfgaa
