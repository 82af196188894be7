import Derived.Test.YtmgpfmgmpmkkaaaGreatOwn
import Derived.Test.YtmgpfmgmpmkkaaaGreatSort
import Derived.Test.YtmgpfmgmpmkkaaaGreatShelfA
import Derived.Test.YtmgpfmgmpmkkaaaGreatShelfB
import Derived.Test.YtmgpfmgmpmkkaaaGreatShelfC
import Derived.Test.YtmgpfmgmpmkkaaaGreatShelfD
import Derived.Sort.OwnSortedInts
import Derived.Shelf.Slices.In.SortNone
namespace Go.Proofs.YtmgpfmgmpmkkaaaGreat
open Go.RowKit Go.Shelf Go.Sort

theorem intL_flat (zs : List Int) : zs.flatMap intL = zs.map (Value.int .i64) := by
  induction zs with
  | nil => rfl
  | cons z zs ih => rw [List.flatMap_cons, ih]; rfl
theorem OwnC.blockI {w : World} {base g cap : Nat} {xs : List Int} (h : OwnC w base 3 1 intL (.slice (some ⟨g, 0, none⟩) xs.length cap) xs) : ∃ cur, obj w g = some (.cells cur 3 (0, 0)) ∧ base ≤ g ∧ xs.length ≤ cap ∧ cap ≤ maxLen ∧ cur.size = cap ∧ cur.toList.take xs.length = xs.map (Value.int .i64) := by
  rcases h.2 with ⟨e, _⟩ | ⟨g', cap', cur, e, hb, hg, h1, h2, h3, h4⟩
  · cases e
  · simp only [Value.slice.injEq, Option.some.injEq, Addr.mk.injEq] at e
    obtain ⟨⟨rfl, -⟩, -, rfl⟩ := e
    rw [intL_flat, Nat.mul_one] at h4
    exact ⟨cur, hg, hb, h1, h2, by simpa using h3, h4⟩
/-- an own row of ints, laid anew, and cut -/
theorem ownC_rowI {w : World} {base g cap : Nat} {xs : List Int} (h : OwnC w base 3 1 intL (.slice (some ⟨g, 0, none⟩) xs.length cap) xs) (ts : List Int) (hl : ts.length = xs.length) (n : Nat) (os : Array Obj) (m : Nat) (hm : m ≤ xs.length) :
    OwnC (grow (putRow (Value.int .i64) (Sort.ahead w n) g 0 ts.toArray) os) base 3 1 intL (.slice (some ⟨g, 0, none⟩) m cap) (ts.take m) ∧ Keeps (fun k => k = g) w (grow (putRow (Value.int .i64) (Sort.ahead w n) g 0 ts.toArray) os) := by
  obtain ⟨cur, hg, hb, h1, h2, h3, h4⟩ := h.blockI
  have hgr := grownBy_sortedI (w := w) (g := g) (n := n) (os := os) ts.toArray
  have hb2 := heap_sortedI (n := n) (os := os) ts.toArray hg
  refine ⟨⟨by rw [intL_flat]; simp, .inr ⟨g, cap, _, by rw [List.length_take, Nat.min_eq_left (by omega)], hb, hb2, by rw [List.length_take]; omega, h2, by simp [putCells, h3], ?_⟩⟩, hgr.os, hgr.tape, hgr.output, hgr.size, fun k hk hne => hgr.block k hk (fun e => hne (by cases e; rfl))⟩
  have ht := take_putCellsI cur ts (by omega)
  have ht2 := congrArg (List.take m) ht
  rw [List.take_take, Nat.min_eq_left (by omega)] at ht2
  rw [intL_flat, Nat.mul_one, List.length_take, Nat.min_eq_left (by omega), List.map_take]
  exact ht2
theorem ownC_lt {α : Type} {w : World} {base E k : Nat} {enc : α → List Value} {g len cap : Nat} {xs : List α} (h : OwnC w base E k enc (.slice (some ⟨g, 0, none⟩) len cap) xs) : g < w.heap.size := (h.lt rfl).2
/-- slices.Sort, of ints -/
theorem sort_ints (w : World) (base : Nat) (v : Value) (zs : List Int) (h : OwnC w base 3 1 intL v zs) (hlen : zs.length ≤ 17592186043904) :
    Calls Tryz.prog 47 #[v] w fun e w' => e = .returned (.tuple #[]) ∧ OwnC w' base 3 1 intL v (zs.mergeSort fun x y => decide (x ≤ y)) ∧ Keeps (fun k => v.ownBlock = some k) w w' := by
  obtain ⟨oa, cap, rfl⟩ := h.slice
  rcases h.2 with ⟨e, h0⟩ | ⟨g, cap', cur, e, _⟩
  · obtain rfl : zs = [] := List.length_eq_zero_iff.1 h0
    simp only [Value.slice.injEq] at e
    obtain ⟨rfl, -, rfl⟩ := e
    refine (show Calls Tryz.prog 47 _ w _ from calls_of_every_depth fun D => AnyS.slices_Sort_int_none_alone Tryz.sortI D none 0 w).mono ?_
    rintro e w' ⟨rfl, rfl⟩
    exact ⟨rfl, by simpa using h, Keeps.refl _ _⟩
  · simp only [Value.slice.injEq] at e
    obtain ⟨rfl, -, rfl⟩ := e
    obtain ⟨cur, hg, _, h1, h2, h3, h4⟩ := h.blockI
    refine (show Calls Tryz.prog 47 _ w _ from Any.slices_Sort_int Tryz.sortI g 0 cap zs w (holds_of_blockI hg h4) (lt_of_obj hg) (by omega)).mono ?_
    rintro e w' ⟨rfl, n, os, rfl⟩
    have hl : (zs.mergeSort fun x y => decide (x ≤ y)).length = zs.length := List.length_mergeSort _
    obtain ⟨o1, k1⟩ := ownC_rowI h _ hl n os zs.length (Nat.le_refl _)
    rw [List.take_of_length_le (by omega)] at o1
    exact ⟨rfl, o1, k1.mono fun k hk => by rw [hk]; rfl⟩
theorem compact_len (zs : List Int) : (Lib.compact zs).length ≤ zs.length := by
  unfold Lib.compact Lib.compactUpTo
  rw [List.length_map]
  exact Nat.le_trans (List.length_filter_le _ _) (by simp)
/-- slices.Compact, of ints -/
theorem compact_ints (w : World) (base : Nat) (v : Value) (zs : List Int) (h : OwnC w base 3 1 intL v zs) (hlen : zs.length ≤ 17592186043904) :
    Calls Tryz.prog 48 #[v] w fun e w' => ∃ v', e = .returned v' ∧ OwnC w' base 3 1 intL v' (Lib.compact zs) ∧ Keeps (fun k => v.ownBlock = some k) w w' := by
  obtain ⟨oa, cap, rfl⟩ := h.slice
  rcases h.2 with ⟨e, h0⟩ | ⟨g, cap', cur, e, _⟩
  · obtain rfl : zs = [] := List.length_eq_zero_iff.1 h0
    simp only [Value.slice.injEq] at e
    obtain ⟨rfl, -, rfl⟩ := e
    refine (show Calls Tryz.prog 48 _ w _ from Any.slices_Compact_int_empty Tryz.compI none 0 w).mono ?_
    rintro e w' ⟨rfl, rfl⟩
    exact ⟨_, rfl, h, Keeps.refl _ _⟩
  · simp only [Value.slice.injEq] at e
    obtain ⟨rfl, -, rfl⟩ := e
    obtain ⟨cur, hg, _, h1, h2, h3, h4⟩ := h.blockI
    refine (show Calls Tryz.prog 48 _ w _ from Any.slices_Compact_int Tryz.compI g 0 cap zs w (holds_of_blockI hg h4) (by omega) h1).mono ?_
    rintro e w' ⟨rfl, n, rfl⟩
    have hle := compact_len zs
    obtain ⟨o1, k1⟩ := ownC_rowI h (Lib.compact zs ++ List.replicate (zs.length - (Lib.compact zs).length) (0 : Int)) (by simp; omega) n #[] (Lib.compact zs).length hle
    rw [List.take_left' rfl, grow_empty] at o1
    rw [grow_empty] at k1
    exact ⟨_, rfl, o1, k1.mono fun k hk => by rw [hk]; rfl⟩
/-! ### slices.DeleteFunc, of the ints that are one -/
theorem eg57 : ∀ args w, (callFunc 68 args).run Tryz.prog w = .ok (.enter 68 args) w := enters_of Tryz.func68 (by kernel_rfl) rfl
theorem gives57 (node x : Int) (B : Nat) (W : World) (hc : W.cell? ⟨B, 0, none⟩ = some (.int .i64 node)) :
    FnGives Tryz.prog 68 #[.pointer (some ⟨B, 0, none⟩)] #[.int .i64 x] (.bool (x == node)) W := by
  show Calls Tryz.prog 68 #[.int .i64 x, .pointer (some ⟨B, 0, none⟩)] W _
  go_enter Tryz.func68, Tryz.ntmps68
  go_wp2
  all_goals (go_ret; exact ⟨by simp_all, 0, rfl⟩)
/-- slices.DeleteFunc, of closed's closure -/
theorem delete_ints (w : World) (base nb : Nat) (v : Value) (zs : List Int) (node : Int) (h : OwnC w base 3 1 intL v zs) (h0 : zs ≠ []) (hn : obj w nb = some (.cells #[.int .i64 node] 3 (0, 0))) (hne : v.ownBlock ≠ some nb) (hlen : zs.length ≤ 1048576) :
    Calls Tryz.prog 67 #[v, .func (.func 68) #[] #[.pointer (some ⟨nb, 0, none⟩)]] w fun e w' => ∃ v', e = .returned v' ∧ OwnC w' base 3 1 intL v' (zs.filter fun x => !(x == node)) ∧ Keeps (fun k => v.ownBlock = some k) w w' := by
  obtain ⟨oa, cap, rfl⟩ := h.slice
  rcases h.2 with ⟨e, h0'⟩ | ⟨g, cap', cur, e, _⟩
  · exact absurd (List.length_eq_zero_iff.1 h0') h0
  · simp only [Value.slice.injEq] at e
    obtain ⟨rfl, -, rfl⟩ := e
    obtain ⟨cur, hg, _, h1, h2, h3, h4⟩ := h.blockI
    have hnz := lt_of_obj hn
    have hgn : nb ≠ g := fun e => hne (by rw [e]; rfl)
    have hcell : w.cell? ⟨nb, 0, none⟩ = some (.int .i64 node) := cell_at hn 0
    have hp : PredAt Tryz.prog 68 #[.pointer (some ⟨nb, 0, none⟩)] (Value.int .i64) (fun x => x == node) w :=
      fun W x hb => gives57 node x nb W ((hb.cell (p := ⟨nb, 0, none⟩) hnz).trans hcell)
    have hpo : PredOver Tryz.prog 68 #[.pointer (some ⟨nb, 0, none⟩)] (Value.int .i64) (fun x => x == node) g 0 zs.toArray.size w :=
      fun n os dk x _ => gives57 node x nb _ (by
        unfold sortWorld
        rw [cell?_grow _ _ _ (by show nb < (putRow _ _ _ _ _).heap.size; rw [size_putRow]; exact hnz), cell?_putRow_other _ _ g 0 _ _ (Or.inl hgn)]
        exact hcell)
    have hcon := AnyE.slices_DeleteFunc Tryz.delI (Value.int .i64) (fun _ => rfl) (fun x => x == node) 68 #[.pointer (some ⟨nb, 0, none⟩)] eg57 0 Tryz.zeroValue3 g 0 cap zs.toArray w hp hpo (holds_of_blockI hg h4) (by simp; omega) (by simpa using h1)
    have e1 : zs.toArray.size = zs.length := by simp
    rw [e1] at hcon
    refine Calls.mono (show Calls Tryz.prog 67 _ w _ from hcon) ?_
    rintro e w' ⟨rfl, q, rfl⟩
    have hle : (zs.filter fun x => !(x == node)).length ≤ zs.length := List.length_filter_le _ _
    obtain ⟨o1, k1⟩ := ownC_rowI h ((zs.filter fun x => !(x == node)) ++ List.replicate (zs.length - (zs.filter fun x => !(x == node)).length) (0 : Int)) (by simp; omega) q #[] (zs.filter fun x => !(x == node)).length hle
    rw [List.take_left' rfl, grow_empty] at o1
    rw [grow_empty] at k1
    exact ⟨_, rfl, o1, k1.mono fun k hk => by rw [hk]; rfl⟩
end Go.Proofs.YtmgpfmgmpmkkaaaGreat
