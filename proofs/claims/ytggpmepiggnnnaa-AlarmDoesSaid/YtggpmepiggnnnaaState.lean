import Derived.Test.YtggpmepiggnnnaaWide
import Derived.Test.YtggpmepiggnnnaaHeap
import Derived.LoopTactic
import Derived.Maps.AppendAt
namespace Go.Proofs.Ytggpmepiggnnnaa
open Go.RowKit

/-! ### alarms: two cells -/
@[go_sem ↓] theorem hide_load32 (a : Addr) : loadVar 32 a = loadAgg 32 a := rfl
@[go_sem ↓] theorem hide_store32 (a : Addr) (v : Value) : storeVar 32 a v = storeAgg 32 a v := rfl
@[go_sem] theorem run_load32 (b off : Nat) (W : World) : (loadAgg 32 ⟨b, off, none⟩).run Try.prog W = loadRes Try.prog 32 ⟨b, off, none⟩ W (subOf (obj W b) off 2) := run_loadAgg Try.isAgg32 Try.sizeOf32 b off W
@[go_sem] theorem run_store32 (b off : Nat) (cs : Array Value) (W : World) : (storeAgg 32 ⟨b, off, none⟩ (.agg cs)).run Try.prog W = storeRes Try.prog 32 ⟨b, off, none⟩ (.agg cs) W (putOf (obj W b) off 2 cs) := run_storeAgg Try.sizeOf32 b off cs W
@[reducible] def alL (a : Al) : List Value := [.int .i64 a.1, .int .i64 a.2]
@[reducible] def alV (a : Al) : Value := .agg #[.int .i64 a.1, .int .i64 a.2]
theorem alL_length (a : Al) : (alL a).length = 2 := rfl
theorem alL_one (a : Al) : allOne (alL a).toArray = true := rfl
theorem info32 : (Try.prog.info? 32).map (fun i => (i.zero, i.size, i.bytes)) = some (some (.agg #[.int .i64 0, .int .i64 0]), 2, 16) := by kernel_rfl

/-! ### rows: an element is read, and written -/
theorem row_sub {w : World} {base : Nat} {sv : Value} {L : List Al} (h : w.ownsRow base 32 2 sv L.length (L.flatMap alL)) : ∃ oa cap, sv = .slice oa L.length cap ∧ L.length ≤ cap ∧ cap ≤ maxLen ∧
    (0 < L.length → ∃ g cur, oa = some ⟨g, 0, none⟩ ∧ sv.ownBlock = some g ∧ base ≤ g ∧ obj w g = some (.cells cur 32 (0, 0)) ∧ cur.size = cap * 2 ∧ cur.toList.take (L.length * 2) = L.flatMap alL) := by
  rcases h.2 with ⟨rfl, h0⟩ | ⟨g, cap, cur, rfl, hb, hg, h1, h2, h3, h4⟩
  · exact ⟨none, 0, by rw [h0], by omega, Nat.zero_le _, fun h => by omega⟩
  · exact ⟨_, cap, rfl, h1, h2, fun _ => ⟨g, cur, rfl, rfl, hb, hg, h3, h4⟩⟩
theorem row_get {cur : Array Value} {L : List Al} {n : Nat} (h : cur.toList.take (L.length * 2) = L.flatMap alL) (hc : cur.size = n * 2) (hn : L.length ≤ n) {i : Nat} (hi : i < L.length) : subOf (some (.cells cur 32 (0, 0))) (i * 2) 2 = some #[.int .i64 L[i].1, .int .i64 L[i].2] := by
  rw [subOf_cells (by omega)]
  congr 1
  apply Array.ext'
  rw [subA, Array.toList_extract, List.extract_eq_take_drop]
  have := flatMap_sub alL_length L i hi
  rw [← h, List.drop_take, List.take_take, Nat.min_eq_left (by omega)] at this
  rw [Nat.add_sub_cancel_left, this]
theorem flatMap_set (L : List Al) (y : Al) : ∀ i, i < L.length → (L.set i y).flatMap alL = (L.flatMap alL).take (i * 2) ++ alL y ++ (L.flatMap alL).drop (i * 2 + 2) := by
  induction L with
  | nil => intro i hi; simp at hi
  | cons x L ih =>
    intro i hi
    cases i with
    | zero => simp [List.flatMap_cons]
    | succ i =>
      have := ih i (by simpa using hi)
      rw [List.set_cons_succ, List.flatMap_cons, this, List.flatMap_cons, show (i + 1) * 2 = i * 2 + 2 by omega]
      simp
theorem row_set {cur : Array Value} {L : List Al} {n : Nat} (h : cur.toList.take (L.length * 2) = L.flatMap alL) (hc : cur.size = n * 2) (hn : L.length ≤ n) {i : Nat} (hi : i < L.length) (y : Al) :
    (spliceA cur (i * 2) #[.int .i64 y.1, .int .i64 y.2]).size = n * 2 ∧ (spliceA cur (i * 2) #[.int .i64 y.1, .int .i64 y.2]).toList.take (L.length * 2) = (L.set i y).flatMap alL := by
  have hs : (spliceA cur (i * 2) #[.int .i64 y.1, .int .i64 y.2]).size = n * 2 := by rw [size_spliceA (by simp; omega), hc]
  refine ⟨hs, ?_⟩
  rw [flatMap_set L y i hi, ← h, List.take_take, Nat.min_eq_left (by omega), List.drop_take]
  unfold spliceA
  have hl : (cur.toList.take (i * 2)).length = i * 2 := by simp; omega
  simp only [List.append_assoc]
  rw [List.take_append, hl, List.take_of_length_le (by omega)]
  congr 1
  rw [List.take_append]
  simp only [List.length_cons, List.length_nil]
  rw [List.take_of_length_le (by simp; omega)]
  congr 2

/-! ### what lies behind a heap -/
def intV (n : Int) : Value := .int .i64 n
structure RawAt (w : World) (F : Nat → Prop) (hb m : Nat) (sv : Value) (L : List Al) (M : List (Int × Int)) : Prop where
  box : obj w hb = some (.cells #[sv, .map (some m), .bool true] 68 (0, 0))
  row : w.ownsRow 0 32 2 sv L.length (L.flatMap alL)
  map : MapI w m intV M
  fb : F hb
  fm : F m
  fr : ∀ g, sv.ownBlock = some g → F g
  old : ∀ n, F n → n < w.heap.size
theorem RawAt.lt {w : World} {F : Nat → Prop} {hb m : Nat} {sv : Value} {L : List Al} {M : List (Int × Int)} (h : RawAt w F hb m sv L M) : hb < w.heap.size ∧ m < w.heap.size := by
  obtain ⟨es, clk, h1, _⟩ := h.map
  exact ⟨lt_of_obj h.box, lt_of_obj h1⟩
/-- wherever these blocks lie as they lay -/
theorem RawAt.of_obj {w W : World} {F : Nat → Prop} {hb m : Nat} {sv : Value} {L : List Al} {M : List (Int × Int)} (h : RawAt w F hb m sv L M) (hz : w.heap.size ≤ W.heap.size) (hk : ∀ n, n < w.heap.size → F n → obj W n = obj w n) : RawAt W F hb m sv L M := by
  refine ⟨(hk _ h.lt.1 h.fb).trans h.box, ⟨h.row.1, ?_⟩, ?_, h.fb, h.fm, h.fr, fun n hn => Nat.lt_of_lt_of_le (h.old n hn) hz⟩
  · rcases h.row.2 with h1 | ⟨g, cap, cur, e, h2, h3, h4⟩
    · exact .inl h1
    · have e3 : obj w g = some (.cells cur 32 (0, 0)) := h3
      refine .inr ⟨g, cap, cur, e, h2, ?_, h4⟩
      exact (hk g (lt_of_obj e3) (h.fr g (by rw [e]; rfl))).trans e3
  · obtain ⟨es, clk, h1, h2⟩ := h.map
    exact ⟨es, clk, (hk _ h.lt.2 h.fm).trans h1, h2⟩
theorem RawAt.below {w W : World} {F : Nat → Prop} {hb m : Nat} {sv : Value} {L : List Al} {M : List (Int × Int)} (h : RawAt w F hb m sv L M) (hk : Below w.heap.size w W) : RawAt W F hb m sv L M :=
  h.of_obj hk.size fun _ hn _ => obj_below hk hn
/-- what another heap's call leaves -/
theorem RawAt.other {w W : World} {F G : Nat → Prop} {hb m : Nat} {sv : Value} {L : List Al} {M : List (Int × Int)} (h : RawAt w F hb m sv L M) (hk : Keeps G w W) (hd : ∀ n, n < w.heap.size → F n → ¬ G n) : RawAt W F hb m sv L M :=
  h.of_obj hk.size fun n hn hf => hk.block n hn (hd n hn hf)

/-! ### less -/
set_option maxRecDepth 100000 in
theorem less_any (w : World) (a b : Al) : Calls Try.prog 52 #[alV a, alV b] w fun e w' => e = .returned (.bool (alLt a b)) ∧ Below w.heap.size w w' := by
  have HB : Hid (alLt a b = (decide (a.1 < b.1) || ((a.1 == b.1) && decide (a.2 < b.2)))) := Lib.hid (by unfold alLt; congr 2)
  have hb : Below w.heap.size w ((w.alloc (.cells #[.int .i64 a.1, .int .i64 a.2] 32)).alloc (.cells #[.int .i64 b.1, .int .i64 b.2] 32)) := ((Below.refl _ w).alloc (Nat.le_refl _) _).alloc (by simp) _
  obtain ⟨a1, a2⟩ := a
  obtain ⟨b1, b2⟩ := b
  simp only at HB hb
  cases h1 : decide (a1 < b1)
  · cases h2 : a1 == b1
    · go_enter Try.func52, Try.ntmps52
      go_wp2
      go_ret
      exact ⟨ret_bool (by rw [HB.out, h1, h2]; rfl), hb⟩
    · go_enter Try.func52, Try.ntmps52
      go_wp2
      go_ret
      exact ⟨ret_bool (by rw [HB.out, h1, h2]; rfl), hb⟩
  · go_enter Try.func52, Try.ntmps52
    go_wp2
    go_ret
    exact ⟨ret_bool (by rw [HB.out, h1]; rfl), hb⟩
end Go.Proofs.Ytggpmepiggnnnaa
