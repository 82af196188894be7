import Derived.Test.YtggpmepiggnnnaaPop
namespace Go.Proofs.Ytggpmepiggnnnaa
open Go.RowKit

theorem Spec.place {L : List Al} {M : List (Int × Int)} (h : Spec L M) (k : Int) : (hasK L k = false ∧ aGet k M = none) ∨ ∃ j, j < L.length ∧ (at' L j).2 = k ∧ aGet k M = some (j : Int) ∧ hasK L k = true := by
  have hh := h.has k
  by_cases hk : ∃ j, j < L.length ∧ (at' L j).2 = k
  · obtain ⟨j, hj, e⟩ := hk
    have h1 := h.at_ j hj
    rw [e] at h1
    rw [h1] at hh
    exact .inr ⟨j, hj, e, h1, hh.symm⟩
  · have h1 := h.no k fun j hj e => hk ⟨j, hj, e⟩
    rw [h1] at hh
    exact .inl ⟨hh.symm, h1⟩
/-- a key's alarm -/
def getK (W : List Al) (k : Int) : Al := (W.find? (fun x => x.2 == k)).getD (0, 0)
theorem getK_of_mem {W : List Al} (hn : (keysL W).Nodup) {x : Al} (hx : x ∈ W) : getK W x.2 = x := by
  induction W with
  | nil => cases hx
  | cons a r ih =>
    unfold keysL at hn
    rw [List.map_cons, List.nodup_cons] at hn
    unfold getK
    rw [List.find?_cons]
    rcases List.mem_cons.1 hx with rfl | hx
    · simp
    · have hne : (a.2 == x.2) = false := by
        rw [beq_eq_false_iff_ne]
        intro e
        exact hn.1 (by rw [e]; exact List.mem_map_of_mem hx)
      rw [hne]
      exact ih hn.2 hx
theorem keys_perm {A B : List Al} (p : A.Perm B) (h : (keysL A).Nodup) : (keysL B).Nodup := by
  unfold keysL at *
  exact (List.Perm.nodup_iff (p.map (fun x : Al => x.2))).1 h
theorem getK_perm {A B : List Al} (p : A.Perm B) (h : (keysL A).Nodup) {j : Nat} (hj : j < A.length) : getK B (at' A j).2 = at' A j :=
  getK_of_mem (keys_perm p h) (p.mem_iff.1 (at'_mem hj))
theorem set_perm {a : Al} : ∀ {L : List Al} {i : Nat} (hi : i < L.length), (L[i] :: L.set i a).Perm (a :: L)
  | [], _, h => by simp at h
  | x :: L, 0, _ => List.Perm.swap _ _ _
  | x :: L, i + 1, h => by
    have := set_perm (a := a) (L := L) (i := i) (by simpa using h)
    simp only [List.getElem_cons_succ, List.set_cons_succ]
    exact (List.Perm.swap _ _ _).trans ((this.cons x).trans (List.Perm.swap _ _ _))
theorem Spec.set {L : List Al} {M : List (Int × Int)} (h : Spec L M) {i : Nat} (hi : i < L.length) (t : Int) : Spec (L.set i (t, (at' L i).2)) M := by
  have hat : ∀ j, j < L.length → (at' (L.set i (t, (at' L i).2)) j).2 = (at' L j).2 := fun j hj => by
    unfold at'
    rw [List.getElem?_set]
    by_cases e : i = j
    · subst e; rw [if_pos rfl, if_pos hi]; rfl
    · rw [if_neg e]
  refine ⟨fun j hj => ?_, fun k hk => ?_, h.once⟩
  · rw [List.length_set] at hj
    rw [hat j hj]
    exact h.at_ j hj
  · exact h.no k fun j hj e => hk j (by simpa using hj) (by rw [hat j hj]; exact e)
theorem butHeap_set {L : List Al} (h : IsHeap L) {i : Nat} (hi : i < L.length) (a : Al) : ButHeap (L.set i a) i := by
  have hat : ∀ j, j ≠ i → at' (L.set i a) j = at' L j := fun j hj => by
    unfold at'
    rw [List.getElem?_set_ne (Ne.symm hj)]
  refine ⟨fun j hj hl hne hp => ?_, fun h0 j hj hl hp => ?_⟩
  · rw [hat j hne, hat _ hp]
    exact h j hj (by simpa using hl)
  · rw [hat _ (by omega), hat _ (by omega)]
    have h1 := h i h0 hi
    have h2 := h j hj (by simpa using hl)
    rw [hp] at h2
    exact alLe_trans h1 h2
/-- one cell of the row turns -/
theorem rawAt_setAt {w : World} {F : Nat → Prop} {hb m g cap : Nat} {L : List Al} {M : List (Int × Int)} (h : RawAt w F hb m (.slice (some ⟨g, 0, none⟩) L.length cap) L M) {i : Nat} (hi : i < L.length) (t : Int) :
    RawAt (w.setCell ⟨g, i * 2, none⟩ (.int .i64 t)) F hb m (.slice (some ⟨g, 0, none⟩) L.length cap) (L.set i (t, (at' L i).2)) M := by
  obtain ⟨_, _, e', p1, p2, p3⟩ := row_sub h.row
  simp only [Value.slice.injEq] at e'
  obtain ⟨rfl, _, rfl⟩ := e'
  obtain ⟨g', cur, e2, _, _, hg, hcs, htk⟩ := p3 (by omega)
  simp only [Option.some.injEq, Addr.mk.injEq, and_true] at e2
  subst e2
  have hbox := h.box
  have n1 : hb ≠ g := fun e => by subst e; rw [hbox] at hg; cases hg
  obtain ⟨es, clk, hm, hr⟩ := h.map
  have n2 : m ≠ g := fun e => by subst e; rw [hg] at hm; cases hm
  have hr2 := row_set htk hcs p1 hi (t, (at' L i).2)
  have hs1 := row_get htk hcs p1 hi
  have hspl : spliceA cur (i * 2) #[.int .i64 t, .int .i64 (at' L i).2] = cur.setIfInBounds (i * 2) (.int .i64 t) := by
    apply Array.ext_getElem?
    intro j
    have hk : cur[i * 2 + 1]? = some (.int .i64 (at' L i).2) := by
      have := subOf_cell (w := w) (b := g) (o := i * 2) (n := 2) (by rw [hg]; exact hs1) (j := 1) (by decide)
      rw [cell_at hg] at this
      rw [this, at'_eq hi]
      rfl
    simp only [spliceA, List.getElem?_toArray]
    by_cases h1 : j < i * 2
    · rw [List.append_assoc, List.getElem?_append_left (by simp; omega), List.getElem?_take_of_lt h1, Array.getElem?_toList, Array.getElem?_setIfInBounds_ne (by omega)]
    · by_cases h2 : j = i * 2
      · subst h2
        rw [List.append_assoc, List.getElem?_append_right (by simp; omega)]
        rw [Array.getElem?_setIfInBounds_self_of_lt (by omega)]
        simp
        rw [Nat.min_eq_left (by omega), Nat.sub_self]
        rfl
      · by_cases h3 : j = i * 2 + 1
        · subst h3
          rw [List.append_assoc, List.getElem?_append_right (by simp; omega), Array.getElem?_setIfInBounds_ne (by omega), hk]
          simp
          rw [Nat.min_eq_left (by omega), Nat.add_sub_cancel_left]
          rfl
        · rw [List.append_assoc, List.getElem?_append_right (by simp; omega), List.getElem?_append_right (by simp; omega), List.getElem?_drop, Array.getElem?_setIfInBounds_ne (by omega), Array.getElem?_toList]
          congr 1
          simp
          omega
  rw [hspl] at hr2
  refine ⟨(obj_setCell_ne _ ⟨g, i * 2, none⟩ _ _ n1).trans hbox, ⟨by rw [flatMap_len alL_length], .inr ⟨g, cap, _, by rw [List.length_set], Nat.zero_le _, obj_setCell_at _ hg, by rw [List.length_set]; exact p1, p2, hr2.1, by rw [List.length_set]; exact hr2.2⟩⟩, ⟨es, clk, (obj_setCell_ne _ ⟨g, i * 2, none⟩ _ _ n2).trans hm, hr⟩, h.fb, h.fm, h.fr, fun n hn => by have := h.old n hn; simpa using this⟩
end Go.Proofs.Ytggpmepiggnnnaa
