import Derived.Test.YtmenfbfekfljbaaShelf
import Derived.Test.YtmenfbfekfljbaaInts
import Derived.Test.YtmenfbfekfljbaaBlocks
import Derived.Sort.OwnSortedInts
import Derived.Shelf.Slices.In.SortNone
namespace Go.Proofs.Ytmenfbfekfljbaa
open Go.RowKit Go.Shelf Go.Sort

theorem iL_flat (zs : List Int) : zs.flatMap iL = zs.map (Value.int .i64) := by
  induction zs with
  | nil => rfl
  | cons z zs ih => rw [List.flatMap_cons, ih]; rfl
/-- the same slices in another order, or fewer of them -/
def KeepO (v : Value) (w w' : World) : Prop := ∀ k, k < w.heap.size → v.ownBlock ≠ some k → obj w' k = obj w k
theorem keepO_refl (v : Value) (w : World) : KeepO v w w := fun _ _ _ => rfl
theorem grown_keepO {w w' : World} {g cap len : Nat} (h : w.grownBy w' (some g)) : KeepO (.slice (some ⟨g, 0, none⟩) len cap) w w' := fun k hk hne => h.block k hk (fun e => hne e.symm)
theorem grown_below {w w' : World} {g base : Nat} (h : w.grownBy w' (some g)) (hb : base ≤ g) (hbs : base ≤ w.heap.size) : Below base w w' :=
  ⟨h.os, h.tape, h.output, h.size, fun k hk => h.block k (by omega) (fun e => by simp at e; omega)⟩
theorem sort_own (w : World) (base : Nat) (v : Value) (zs : List Int) (h : OwnS w base 3 1 iL v zs) (hbs : base ≤ w.heap.size) (hlen : zs.length ≤ 1000) :
    Calls Try.prog 68 #[v] w fun e w' => e = .returned (.tuple #[]) ∧ OwnS w' base 3 1 iL v (zs.mergeSort fun x y => decide (x ≤ y)) ∧ Below base w w' ∧ KeepO v w w' := by
  rcases h.1.2 with ⟨rfl, h0⟩ | ⟨g, cap, cur, rfl, hb, hg, h1, h2, h3, h4⟩
  · obtain rfl : zs = [] := List.length_eq_zero_iff.1 h0
    refine (show Calls Try.prog 68 _ w _ from calls_of_every_depth fun D => AnyS.slices_Sort_int_none_alone Try.sortI D none 0 w).mono ?_
    rintro e w' ⟨rfl, rfl⟩
    exact ⟨rfl, by simpa using h, ⟨rfl, rfl, rfl, Nat.le_refl _, fun _ _ => rfl⟩, keepO_refl _ _⟩
  · rw [iL_flat, Nat.mul_one] at h4
    refine (show Calls Try.prog 68 _ w _ from Any.slices_Sort_int Try.sortI g 0 cap zs w (holds_of_blockI hg h4) (Array.getElem?_eq_some_iff.1 hg).1 (by omega)).mono ?_
    rintro e w' ⟨rfl, n, os, rfl⟩
    have hl : (zs.mergeSort fun x y => decide (x ≤ y)).length = zs.length := List.length_mergeSort _
    have hr := ownsRow_sortedI (n := n) (os := os) hl hb hg h1 h2 h3
    have hgr := grownBy_sortedI (w := w) (g := g) (n := n) (os := os) (zs.mergeSort fun x y => decide (x ≤ y)).toArray
    refine ⟨rfl, ⟨by rw [iL_flat, hl]; exact hr, ?_⟩, grown_below hgr hb hbs, grown_keepO hgr⟩
    have hne : zs ≠ [] := fun e => by have := h.2.2 e; simp at this
    constructor
    · intro e; cases e
    · intro e
      rw [e] at hl
      exact absurd (List.length_eq_zero_iff.1 hl.symm) hne
theorem compact_len (zs : List Int) : (Lib.compact zs).length ≤ zs.length := by
  unfold Lib.compact Lib.compactUpTo
  rw [List.length_map]
  exact Nat.le_trans (List.length_filter_le _ _) (by simp)
theorem compact_ne (zs : List Int) (h : zs ≠ []) : Lib.compact zs ≠ [] := by
  unfold Lib.compact Lib.compactUpTo
  intro e
  rw [List.map_eq_nil_iff, List.filter_eq_nil_iff] at e
  exact e 0 (List.mem_range.2 (List.length_pos_iff.2 h)) (Lib.keeps_lt_one _ 0 (by decide))
theorem compact_own (w : World) (base : Nat) (v : Value) (zs : List Int) (h : OwnS w base 3 1 iL v zs) (hbs : base ≤ w.heap.size) (hlen : zs.length ≤ 1000) :
    Calls Try.prog 69 #[v] w fun e w' => ∃ v', e = .returned v' ∧ OwnS w' base 3 1 iL v' (Lib.compact zs) ∧ Below base w w' ∧ KeepO v w w' := by
  rcases h.1.2 with ⟨rfl, h0⟩ | ⟨g, cap, cur, rfl, hb, hg, h1, h2, h3, h4⟩
  · obtain rfl : zs = [] := List.length_eq_zero_iff.1 h0
    refine (show Calls Try.prog 69 _ w _ from Any.slices_Compact_int_empty Try.compI none 0 w).mono ?_
    rintro e w' ⟨rfl, rfl⟩
    exact ⟨_, rfl, h, ⟨rfl, rfl, rfl, Nat.le_refl _, fun _ _ => rfl⟩, keepO_refl _ _⟩
  · rw [iL_flat, Nat.mul_one] at h4
    refine (show Calls Try.prog 69 _ w _ from Any.slices_Compact_int Try.compI g 0 cap zs w (holds_of_blockI hg h4) (by omega) h1).mono ?_
    rintro e w' ⟨rfl, n, rfl⟩
    have hle := compact_len zs
    have hne : zs ≠ [] := fun e => by have := h.2.2 e; simp at this
    have hcn := compact_ne zs hne
    generalize Lib.compact zs = cs at *
    have hgr := grownBy_sortedI (w := w) (g := g) (n := n) (os := #[]) (cs ++ List.replicate (zs.length - cs.length) (0 : Int)).toArray
    have hb2 := heap_sortedI (n := n) (os := #[]) (cs ++ List.replicate (zs.length - cs.length) (0 : Int)).toArray hg
    rw [grow_empty] at hgr hb2
    refine ⟨_, rfl, ⟨⟨by rw [iL_flat]; simp, .inr ⟨g, cap, _, rfl, hb, hb2, by omega, h2, by simp [putCells, h3], ?_⟩⟩, ?_⟩, grown_below hgr hb hbs, grown_keepO hgr⟩
    · have ht := take_putCellsI cur (cs ++ List.replicate (zs.length - cs.length) (0 : Int)) (by simp; omega)
      have ht2 := congrArg (List.take cs.length) ht
      rw [List.take_take, Nat.min_eq_left (by simp), List.map_append, List.take_left' (by simp)] at ht2
      rw [iL_flat, Nat.mul_one]
      exact ht2
    · constructor
      · intro e; cases e
      · intro e; exact absurd e hcn
theorem mem_compact {zs : List Int} {x : Int} (h : x ∈ Lib.compact zs) : x ∈ zs := by
  unfold Lib.compact Lib.compactUpTo at h
  rw [List.mem_map] at h
  obtain ⟨j, hj, rfl⟩ := h
  have hj' := List.mem_range.1 (List.mem_filter.1 hj).1
  simp [hj']
theorem compactUpTo_rises (d : Array Int) (hs : ∀ i j, i ≤ j → j < d.size → d[i]! ≤ d[j]!) : ∀ m, m ≤ d.size → (Lib.compactUpTo d m).Pairwise (· < ·) ∧ ∀ x ∈ Lib.compactUpTo d m, ∃ j, j < m ∧ x = d[j]!
  | 0, _ => ⟨by simp [Lib.compactUpTo], by simp [Lib.compactUpTo]⟩
  | m + 1, hm => by
    obtain ⟨h1, h2⟩ := compactUpTo_rises d hs m (by omega)
    rw [Lib.compactUpTo_succ]
    by_cases hk : Lib.keeps d m = true
    · rw [if_pos hk]
      refine ⟨List.pairwise_append.2 ⟨h1, by simp, fun a ha b hb => ?_⟩, fun x hx => ?_⟩
      · simp at hb
        subst hb
        obtain ⟨j, hj, rfl⟩ := h2 a ha
        unfold Lib.keeps at hk
        simp only [decide_eq_true_eq] at hk
        have e1 := hs j (m - 1) (by omega) (by omega)
        have e2 := hs (m - 1) m (by omega) (by omega)
        omega
      · rw [List.mem_append, List.mem_singleton] at hx
        rcases hx with hx | rfl
        · obtain ⟨j, hj, e⟩ := h2 x hx
          exact ⟨j, by omega, e⟩
        · exact ⟨m, by omega, rfl⟩
    · rw [if_neg hk, List.append_nil]
      exact ⟨h1, fun x hx => by obtain ⟨j, hj, e⟩ := h2 x hx; exact ⟨j, by omega, e⟩⟩
/-- sorted, then each but once: rising -/
theorem compact_sorted (zs : List Int) : (Lib.compact (zs.mergeSort fun x y => decide (x ≤ y))).Pairwise (· < ·) := by
  refine (compactUpTo_rises _ (fun i j hij hj => ?_) _ (by simp)).1
  have hp := List.pairwise_mergeSort (le := fun x y : Int => decide (x ≤ y)) (fun a b c h1 h2 => by simp at *; omega) (fun a b => by simp; omega) zs
  generalize zs.mergeSort (fun x y => decide (x ≤ y)) = ys at *
  have hj' : j < ys.length := by simpa using hj
  by_cases e : i = j
  · subst e; exact Int.le_refl _
  · have := List.pairwise_iff_getElem.1 hp i j (by omega) hj' (by omega)
    simp at this
    have hi' : i < ys.length := by omega
    simpa [hi', hj'] using this
end Go.Proofs.Ytmenfbfekfljbaa
