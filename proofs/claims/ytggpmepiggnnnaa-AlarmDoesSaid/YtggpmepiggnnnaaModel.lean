import Derived.Test.YtggpmepiggnnnaaTakeW
namespace Go.Proofs.Ytggpmepiggnnnaa
open Go.RowKit

/-! ### what a heap is, told by the list of its alarms in order -/
def SortedL (W : List Al) : Prop := W.Pairwise (fun a b => alLt a b = true)
theorem sorted_unique {A B : List Al} (p : A.Perm B) (ha : SortedL A) (hb : SortedL B) : A = B :=
  p.eq_of_pairwise (le := fun a b => alLt a b) (fun a b _ _ h1 h2 => by rw [alLt_iff] at h1 h2; omega) ha hb
def insL (a : Al) : List Al → List Al
  | [] => [a]
  | b :: r => if alLt a b = true then a :: b :: r else b :: insL a r
theorem insL_perm (a : Al) : ∀ W : List Al, (insL a W).Perm (a :: W)
  | [] => List.Perm.refl _
  | b :: r => by
    unfold insL
    split
    · exact List.Perm.refl _
    · exact ((insL_perm a r).cons b).trans (List.Perm.swap a b r)
theorem insL_sorted {a : Al} : ∀ {W : List Al}, SortedL W → a ∉ W → SortedL (insL a W)
  | [], _, _ => List.pairwise_singleton _ _
  | b :: r, h, hn => by
    unfold SortedL at h
    rw [List.pairwise_cons] at h
    obtain ⟨h1, h2⟩ := h
    unfold insL
    split
    · rename_i hab
      refine List.pairwise_cons.2 ⟨fun x hx => ?_, List.pairwise_cons.2 ⟨h1, h2⟩⟩
      rcases List.mem_cons.1 hx with rfl | hx
      · exact hab
      · exact alLt_trans hab (h1 x hx)
    · rename_i hab
      refine List.pairwise_cons.2 ⟨fun x hx => ?_, insL_sorted h2 (fun hx => hn (List.mem_cons_of_mem _ hx))⟩
      rcases List.mem_cons.1 ((insL_perm a r).mem_iff.1 hx) with rfl | hx
      · have hne : b ≠ x := fun e => hn (by rw [e]; exact List.mem_cons_self)
        have hle : alLe b x := by simpa [alLe] using hab
        rw [alLe_iff] at hle
        rw [alLt_iff]
        by_cases e : b.1 = x.1 ∧ b.2 = x.2
        · exact absurd (Prod.ext e.1 e.2) hne
        · omega
      · exact h1 x hx
theorem insL_length (a : Al) (W : List Al) : (insL a W).length = W.length + 1 := (insL_perm a W).length_eq.trans (by simp)
theorem sorted_tail {W : List Al} (h : SortedL W) : SortedL W.tail := by
  cases W with
  | nil => exact h
  | cons a r => exact (List.pairwise_cons.1 h).2
theorem sorted_erase {W : List Al} (h : SortedL W) (a : Al) : SortedL (W.erase a) := h.sublist List.erase_sublist
theorem sorted_nodup {W : List Al} (h : SortedL W) : W.Nodup := by
  refine h.imp fun {a b} hab e => ?_
  subst e
  rw [alLt_irrefl] at hab
  cases hab
theorem at'_mem {L : List Al} {i : Nat} (h : i < L.length) : at' L i ∈ L := by rw [at'_eq h]; exact List.getElem_mem h
theorem head_root {L W : List Al} (h : IsHeap L) (p : L.Perm W) (hs : SortedL W) : at' L 0 = at' W 0 := by
  cases W with
  | nil => have := p.length_eq; simp at this; subst this; rfl
  | cons x r =>
    have hl : 0 < L.length := by rw [p.length_eq]; simp
    have h1 : at' L 0 ∈ x :: r := p.mem_iff.1 (at'_mem hl)
    have h2 : x ∈ L := p.mem_iff.2 List.mem_cons_self
    obtain ⟨j, hj, hx⟩ := List.mem_iff_getElem.1 h2
    have h3 := h.root j hj
    rw [at'_eq hj, hx] at h3
    have e : at' (x :: r) 0 = x := rfl
    rw [e]
    refine alLe_antisymm h3 ?_
    rcases List.mem_cons.1 h1 with e1 | e1
    · rw [e1]; exact alLe_refl _
    · exact alLe_of_lt ((List.pairwise_cons.1 hs).1 _ e1)
theorem erase_head {W : List Al} (h : 0 < W.length) : W.erase (at' W 0) = W.tail := by
  cases W with
  | nil => simp at h
  | cons x r => simp [at']
theorem takeOut_rep {L W : List Al} {i : Nat} (hi : i < L.length) (p : L.Perm W) : (takeOut L i).Perm (W.erase (at' L i)) := by
  have h1 := (takeOut_perm hi).trans p
  have h2 := h1.erase (at' L i)
  simpa using h2
theorem hasK_perm {A B : List Al} (p : A.Perm B) (k : Int) : hasK A k = hasK B k := by
  unfold hasK
  rw [Bool.eq_iff_iff, List.any_eq_true, List.any_eq_true]
  exact ⟨fun ⟨x, h1, h2⟩ => ⟨x, p.mem_iff.1 h1, h2⟩, fun ⟨x, h1, h2⟩ => ⟨x, p.mem_iff.2 h1, h2⟩⟩
theorem pushE_perm {A B : List Al} (p : A.Perm B) (t k : Int) : pushE A t k = pushE B t k := by
  unfold pushE
  rw [hasK_perm p, p.length_eq]
theorem hasK_false {W : List Al} {k : Int} (h : hasK W k = false) : ∀ t, (t, k) ∉ W := by
  intro t hm
  unfold hasK at h
  rw [List.any_eq_false] at h
  exact h _ hm (by simp)
def keysL (W : List Al) : List Int := W.map (·.2)
theorem Spec.keys {L : List Al} {M : List (Int × Int)} (h : Spec L M) : (keysL L).Nodup := by
  unfold keysL List.Nodup
  rw [List.pairwise_iff_getElem]
  intro i j hi hj hij e
  simp only [List.length_map] at hi hj
  rw [List.getElem_map, List.getElem_map, ← at'_eq hi, ← at'_eq hj] at e
  have := h.inj hi hj e
  omega
/-! ### a heap in the world -/
structure Hp (w : World) (F : Nat → Prop) (hb : Nat) (W : List Al) : Prop where
  ex : ∃ m sv L M, RawAt w F hb m sv L M ∧ Spec L M ∧ IsHeap L ∧ L.Perm W
  sorted : SortedL W
  len : W.length ≤ 4096
theorem Hp.keys {w : World} {F : Nat → Prop} {hb : Nat} {W : List Al} (h : Hp w F hb W) : (keysL W).Nodup := by
  obtain ⟨m, sv, L, M, h1, h2, h3, h4⟩ := h.ex
  have := h2.keys
  unfold keysL at *
  exact (List.Perm.nodup_iff (h4.map (fun x : Al => x.2))).1 this
theorem Hp.old {w : World} {F : Nat → Prop} {hb : Nat} {W : List Al} (h : Hp w F hb W) : ∀ n, F n → n < w.heap.size := by
  obtain ⟨m, sv, L, M, h1, _⟩ := h.ex
  exact h1.old
theorem Hp.fb {w : World} {F : Nat → Prop} {hb : Nat} {W : List Al} (h : Hp w F hb W) : F hb := by
  obtain ⟨m, sv, L, M, h1, _⟩ := h.ex
  exact h1.fb
theorem Hp.lt {w : World} {F : Nat → Prop} {hb : Nat} {W : List Al} (h : Hp w F hb W) : hb < w.heap.size := h.old _ h.fb
theorem Hp.of_obj {w w' : World} {F : Nat → Prop} {hb : Nat} {W : List Al} (h : Hp w F hb W) (hz : w.heap.size ≤ w'.heap.size) (hk : ∀ n, n < w.heap.size → F n → obj w' n = obj w n) : Hp w' F hb W := by
  obtain ⟨m, sv, L, M, h1, h2⟩ := h.ex
  exact ⟨⟨m, sv, L, M, h1.of_obj hz hk, h2⟩, h.sorted, h.len⟩
theorem Hp.below {w w' : World} {F : Nat → Prop} {hb : Nat} {W : List Al} (h : Hp w F hb W) (hk : Below w.heap.size w w') : Hp w' F hb W :=
  h.of_obj hk.size fun _ hn _ => obj_below hk hn
theorem Hp.other {w w' : World} {F G : Nat → Prop} {hb : Nat} {W : List Al} (h : Hp w F hb W) (hk : Keeps G w w') (hd : ∀ n, n < w.heap.size → F n → ¬ G n) : Hp w' F hb W :=
  h.of_obj hk.size fun n hn hf => hk.block n hn (hd n hn hf)
theorem Hp.putNew {w : World} {F : Nat → Prop} {hb : Nat} {W : List Al} (h : Hp w F hb W) {m : Nat} (hm : ¬ F m) (o : Obj) : Hp (putObj w m o) F hb W :=
  h.of_obj (by simp) fun n _ hf => obj_putObj_ne _ _ _ _ (fun e => hm (e ▸ hf))
theorem Hp.alloc {w : World} {F : Nat → Prop} {hb : Nat} {W : List Al} (h : Hp w F hb W) (o : Obj) : Hp (w.alloc o) F hb W := h.below ((Below.refl _ w).alloc (Nat.le_refl _) _)
theorem Hp.new {w : World} {F : Nat → Prop} {hb : Nat} {W : List Al} (h : Hp w F hb W) {m : Nat} (hm : w.heap.size ≤ m) : ¬ F m := fun hf => absurd (h.old _ hf) (by omega)
theorem keeps_putNew {F : Nat → Prop} {w w' : World} (h : Keeps F w w') {m : Nat} (hm : w.heap.size ≤ m) (o : Obj) : Keeps F w (putObj w' m o) :=
  ⟨h.os, h.tape, h.output, by rw [size_putObj]; exact h.size, fun k hk hf => by rw [obj_putObj_ne _ _ _ _ (by omega)]; exact h.block k hk hf⟩
def pushW (W : List Al) (t k : Int) : List Al := if pushE W t k = 0 then insL (t, k) W else W
/-- blocks of an act: those that the heap had, or new ones -/
def Grows (w : World) (F F' : Nat → Prop) : Prop := ∀ n, F' n → F n ∨ w.heap.size ≤ n
theorem Grows.refl (w : World) (F : Nat → Prop) : Grows w F F := fun _ h => .inl h
theorem Grows.trans {w w' : World} {F F' F'' : Nat → Prop} (h1 : Grows w F F') (h2 : Grows w' F' F'') (hz : w.heap.size ≤ w'.heap.size) : Grows w F F'' := fun n h => by
  rcases h2 n h with h | h
  · exact h1 n h
  · exact .inr (Nat.le_trans hz h)
theorem pushE_zero {L : List Al} {t k : Int} (h : pushE L t k = 0) : mayB t = true ∧ hasK L k = false ∧ L.length < 4096 := by
  unfold pushE at h
  split at h
  · cases h
  · split at h
    · cases h
    · split at h
      · cases h
      · rename_i h1 h2 h3
        exact ⟨by simpa using h1, by simpa using h2, by omega⟩
theorem push_hp (w : World) (F : Nat → Prop) (hb : Nat) (W : List Al) (t k : Int) (h : Hp w F hb W) :
    Calls Try.prog 11 #[.pointer (some ⟨hb, 0, none⟩), .int .i64 t, .int .i64 k] w fun e w' => e = .returned (.int .i64 (pushE W t k)) ∧
      (∃ F', Hp w' F' hb (pushW W t k) ∧ Grows w F F') ∧ Keeps F w w' := by
  obtain ⟨m, sv, L, M, h1, h2, h3, h4⟩ := h.ex
  have hE := pushE_perm h4 t k
  by_cases h0 : pushE L t k = 0
  · refine (push_yes w F hb m sv L M t k h1 h2 h0).mono ?_
    rintro e w' ⟨rfl, ⟨F', sv', M', r1, r2, r3⟩, hk⟩
    rw [← hE, h0]
    refine ⟨rfl, ⟨F', ?_, r3⟩, hk⟩
    obtain ⟨_, e2, e3⟩ := pushE_zero h0
    unfold pushW
    rw [← hE, if_pos h0]
    refine ⟨⟨m, sv', _, M', r1, r2, push_heap h3 _, ?_⟩, insL_sorted h.sorted (hasK_false (by rw [← hasK_perm h4]; exact e2) t), by rw [insL_length, ← h4.length_eq]; omega⟩
    refine (rise_perm (by simp)).trans (((List.perm_append_singleton _ _).trans (h4.cons _)).trans (insL_perm _ _).symm)
  · refine (push_no w F hb m sv L M t k h1 h2 h0).mono ?_
    rintro e w' ⟨rfl, rfl⟩
    rw [← hE]
    refine ⟨rfl, ⟨F, ?_, Grows.refl _ _⟩, Keeps.refl _ _⟩
    unfold pushW
    rw [← hE, if_neg h0]
    exact h
theorem len_hp (w : World) (F : Nat → Prop) (hb : Nat) (W : List Al) (h : Hp w F hb W) :
    Calls Try.prog 12 #[.pointer (some ⟨hb, 0, none⟩)] w fun e w' => e = .returned (.int .i64 W.length) ∧ w = w' := by
  obtain ⟨m, sv, L, M, h1, h2, h3, h4⟩ := h.ex
  refine (len_any w F hb m sv L M h1).mono ?_
  rintro e w' ⟨rfl, rfl⟩
  exact ⟨by rw [h4.length_eq], rfl⟩
theorem new_hp (w : World) : Calls Try.prog 9 #[] w fun e w' => e = .returned (.pointer (some ⟨w.heap.size + 1, 0, none⟩)) ∧
    Hp w' (fun n => n = w.heap.size ∨ n = w.heap.size + 1) (w.heap.size + 1) [] ∧ Below w.heap.size w w' := by
  refine (new_any w).mono ?_
  rintro e w' ⟨rfl, h1, h2⟩
  exact ⟨rfl, ⟨⟨_, _, [], [], h1, Spec.nil, fun j _ hj => by simp at hj, List.Perm.refl _⟩, List.Pairwise.nil, by simp⟩, h2⟩
theorem peek_hp (w : World) (F : Nat → Prop) (hb : Nat) (W : List Al) (h : Hp w F hb W) :
    Calls Try.prog 30 #[.pointer (some ⟨hb, 0, none⟩)] w fun e w' => e = .returned (.tuple #[alV (at' W 0), .int .i64 (peekE W)]) ∧ Below w.heap.size w w' := by
  obtain ⟨m, sv, L, M, h1, h2, h3, h4⟩ := h.ex
  refine (peek_any w F hb m sv L M h1).mono ?_
  rintro e w' ⟨rfl, hb⟩
  refine ⟨?_, hb⟩
  rw [head_root h3 h4 h.sorted]
  unfold peekE
  rw [h4.length_eq]
/-- the first is taken out -/
theorem take0_hp (w : World) (F : Nat → Prop) (hb : Nat) (W : List Al) (h : Hp w F hb W) (hl : 0 < W.length) :
    Calls Try.prog 36 #[.pointer (some ⟨hb, 0, none⟩), .int .i64 0] w fun e w' => e = .returned (alV (at' W 0)) ∧ Hp w' F hb W.tail ∧ Keeps F w w' := by
  obtain ⟨m, sv, L, M, h1, h2, h3, h4⟩ := h.ex
  have hl' : 0 < L.length := by rw [h4.length_eq]; exact hl
  refine (take_any w F hb m sv L M 0 h1 h2 hl' (by rw [h4.length_eq]; have := h.len; omega)).mono ?_
  rintro e w' ⟨rfl, ⟨sv', M', r1, r2⟩, hk⟩
  have he := head_root h3 h4 h.sorted
  refine ⟨by rw [he], ⟨⟨m, sv', _, M', r1, r2, takeOut_heap hl' h3, ?_⟩, sorted_tail h.sorted, by have := h.len; simp; omega⟩, hk⟩
  have := takeOut_rep hl' h4
  rw [he, erase_head hl] at this
  exact this
end Go.Proofs.Ytggpmepiggnnnaa
