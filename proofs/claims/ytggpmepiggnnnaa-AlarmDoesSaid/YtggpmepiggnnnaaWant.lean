import Derived.Test.YtggpmepiggnnnaaActsW
namespace Go.Proofs.Ytggpmepiggnnnaa
open Go.RowKit

/-! ### what a heap tells of a key, and a map that keeps it -/
def atO (W : List Al) (k : Int) : Option Int := if hasK W k = true then some (getK W k).1 else none
theorem atO_nil (k : Int) : atO [] k = none := rfl
theorem atO_cons (a : Al) (W : List Al) (k : Int) : atO (a :: W) k = if a.2 = k then some a.1 else atO W k := by
  unfold atO hasK getK
  rw [List.any_cons, List.find?_cons]
  by_cases h : a.2 = k
  · simp [h]
  · have hb : (a.2 == k) = false := by simpa using h
    rw [if_neg h, hb]
    rfl
theorem atO_mem {W : List Al} (hn : (keysL W).Nodup) {k t : Int} : atO W k = some t ↔ (t, k) ∈ W := by
  constructor
  · intro h
    unfold atO at h
    split at h
    · rename_i hk
      unfold hasK at hk
      rw [List.any_eq_true] at hk
      obtain ⟨x, hx, e⟩ := hk
      simp only [beq_iff_eq] at e
      have hg := getK_of_mem hn hx
      rw [e] at hg
      rw [hg] at h
      simp only [Option.some.injEq] at h
      subst h
      rw [← e]
      exact hx
    · cases h
  · intro h
    have hg := getK_of_mem hn h
    have hk : hasK W k = true := by
      unfold hasK
      rw [List.any_eq_true]
      exact ⟨(t, k), h, by simp⟩
    unfold atO
    rw [if_pos hk]
    simp only at hg
    rw [hg]
theorem atO_perm {A B : List Al} (p : A.Perm B) (hn : (keysL A).Nodup) (k : Int) : atO A k = atO B k := by
  cases h : atO B k with
  | none =>
    cases h2 : atO A k with
    | none => rfl
    | some t =>
      have := p.mem_iff.1 ((atO_mem hn).1 h2)
      rw [(atO_mem (keys_perm p hn)).2 this] at h
      cases h
  | some t => exact (atO_mem hn).2 (p.mem_iff.2 ((atO_mem (keys_perm p hn)).1 h))
theorem atO_ins {W : List Al} {t k : Int} (hn : (keysL (insL (t, k) W)).Nodup) (j : Int) : atO (insL (t, k) W) j = if k = j then some t else atO W j := by
  rw [atO_perm (insL_perm (t, k) W) hn, atO_cons]
theorem atO_erase {W : List Al} (hn : (keysL W).Nodup) {x : Al} (hx : x ∈ W) (j : Int) : atO (W.erase x) j = if x.2 = j then none else atO W j := by
  have p := List.perm_cons_erase hx
  have hn2 := keys_perm p hn
  have h1 := atO_perm p hn j
  rw [atO_cons] at h1
  by_cases h : x.2 = j
  · rw [if_pos h]
    cases h2 : atO (W.erase x) j with
    | none => rfl
    | some t =>
      have hn3 : (keysL (W.erase x)).Nodup := by
        unfold keysL at hn2 ⊢
        rw [List.map_cons, List.nodup_cons] at hn2
        exact hn2.2
      have hm := (atO_mem hn3).1 h2
      unfold keysL at hn2
      rw [List.map_cons, List.nodup_cons] at hn2
      exact absurd (by rw [h]; exact List.mem_map_of_mem (f := fun x : Al => x.2) hm) hn2.1
  · rw [if_neg h] at h1 ⊢
    exact h1.symm
structure Want (W : List Al) (M : List (Int × Int)) : Prop where
  get : ∀ k, aGet k M = atO W k
  once : KeysOnce M
theorem aGet_mem {M : List (Int × Int)} {k : Int} : (aGet k M).isSome = true ↔ k ∈ M.map (·.1) := by
  induction M with
  | nil => simp [aGet]
  | cons x r ih =>
    obtain ⟨i, u⟩ := x
    unfold aGet
    by_cases h : k = i
    · subst h; simp
    · rw [if_neg h, ih]
      simp [h]
theorem atO_some {W : List Al} {k : Int} : (atO W k).isSome = true ↔ k ∈ keysL W := by
  unfold atO
  cases h : hasK W k with
  | true =>
    simp
    unfold hasK at h
    rw [List.any_eq_true] at h
    obtain ⟨x, hx, e⟩ := h
    simp only [beq_iff_eq] at e
    unfold keysL
    rw [← e]
    exact List.mem_map_of_mem hx
  | false =>
    simp
    intro hm
    unfold keysL at hm
    obtain ⟨x, hx, e⟩ := List.mem_map.1 hm
    unfold hasK at h
    rw [List.any_eq_false] at h
    exact h x hx (by simpa using e)
theorem Want.len {W : List Al} {M : List (Int × Int)} (h : Want W M) (hn : (keysL W).Nodup) : M.length = W.length := by
  have p : (M.map (·.1)).Perm (keysL W) := by
    refine (List.perm_ext_iff_of_nodup h.once hn).2 fun k => ?_
    rw [← aGet_mem, ← atO_some, h.get]
  have := p.length_eq
  simpa [keysL] using this
theorem Want.nil : Want [] [] := ⟨fun _ => rfl, List.nodup_nil⟩
theorem Want.put {W W' : List Al} {M : List (Int × Int)} (h : Want W M) {t k : Int} (hW : ∀ j, atO W' j = if k = j then some t else atO W j) : Want W' (aPut k t M) := by
  refine ⟨fun j => ?_, h.once.put _ _⟩
  rw [aGet_aPut', hW, h.get]
  by_cases e : j = k
  · rw [if_pos e, if_pos e.symm]
  · rw [if_neg e, if_neg (fun h => e h.symm)]
theorem Want.del {W W' : List Al} {M : List (Int × Int)} (h : Want W M) {k : Int} (hW : ∀ j, atO W' j = if k = j then none else atO W j) : Want W' (aDel k M) := by
  refine ⟨fun j => ?_, h.once.del _⟩
  rw [aGet_aDel _ _ h.once, hW, h.get]
  by_cases e : j = k
  · rw [if_pos e, if_pos e.symm]
  · rw [if_neg e, if_neg (fun h => e h.symm)]
theorem Want.push {W : List Al} {M : List (Int × Int)} (h : Want W M) {t k : Int} (hn : (keysL (pushW W t k)).Nodup) (he : pushE W t k = 0) : aGet k M = none ∧ Want (pushW W t k) (aPut k t M) := by
  have h0 := (pushE_zero he).2.1
  refine ⟨by rw [h.get]; unfold atO; rw [h0]; rfl, h.put fun j => ?_⟩
  unfold pushW at hn ⊢
  rw [if_pos he] at hn ⊢
  exact atO_ins hn j
theorem getK_mem {W : List Al} {k : Int} (h : hasK W k = true) : getK W k ∈ W ∧ (getK W k).2 = k := by
  unfold hasK at h
  unfold getK
  cases hf : W.find? (fun x => x.2 == k) with
  | none =>
    rw [List.find?_eq_none] at hf
    rw [List.any_eq_true] at h
    obtain ⟨x, hx, e⟩ := h
    exact absurd e (hf x hx)
  | some x =>
    exact ⟨List.mem_of_find?_eq_some hf, by simpa using List.find?_some hf⟩
theorem Want.drop {W : List Al} {M : List (Int × Int)} (h : Want W M) (hn : (keysL W).Nodup) (k : Int) : Want (dropW W k) (aDel k M) := by
  refine h.del fun j => ?_
  unfold dropW
  split
  · rename_i hk
    obtain ⟨h1, h2⟩ := getK_mem hk
    rw [atO_erase hn h1, h2]
  · rename_i hk
    by_cases e : k = j
    · subst e
      rw [if_pos rfl]
      unfold atO
      rw [if_neg hk]
    · rw [if_neg e]
theorem Want.move {W : List Al} {M : List (Int × Int)} (h : Want W M) (hn : (keysL W).Nodup) {t k : Int} (hn2 : (keysL (moveW W t k)).Nodup) (he : moveE W t k = 0) : Want (moveW W t k) (aPut k t M) := by
  have hm : mayB t = true ∧ hasK W k = true := by
    unfold moveE at he
    split at he
    · cases he
    · rename_i h1
      split at he
      · rename_i h2; exact ⟨by simpa using h1, h2⟩
      · cases he
  refine h.put fun j => ?_
  unfold moveW at hn2 ⊢
  rw [if_pos hm] at hn2 ⊢
  obtain ⟨h1, h2⟩ := getK_mem hm.2
  rw [atO_ins hn2, atO_erase hn h1, h2]
  by_cases e : k = j
  · rw [if_pos e, if_pos e]
  · rw [if_neg e, if_neg e, if_neg e]
theorem moveW_no {W : List Al} {t k : Int} (he : moveE W t k ≠ 0) : moveW W t k = W := by
  unfold moveW
  rw [if_neg]
  rintro ⟨h1, h2⟩
  refine he ?_
  unfold moveE
  rw [if_neg (by rw [h1]; simp), if_pos h2]
theorem pushW_no {W : List Al} {t k : Int} (he : pushE W t k ≠ 0) : pushW W t k = W := if_neg he
theorem Want.pop {a : Al} {W : List Al} {M : List (Int × Int)} (h : Want (a :: W) M) (hn : (keysL (a :: W)).Nodup) : aGet a.2 M = some a.1 ∧ Want W (aDel a.2 M) := by
  refine ⟨by rw [h.get, atO_cons, if_pos rfl], h.del fun j => ?_⟩
  have := atO_erase hn (x := a) List.mem_cons_self j
  rwa [List.erase_cons_head] at this
theorem Want.at_ {W : List Al} {M : List (Int × Int)} (h : Want W M) (hn : (keysL W).Nodup) {x : Al} (hx : x ∈ W) : aGet x.2 M = some x.1 ∧ atT W x.2 = x.1 ∧ dropE W x.2 = 0 := by
  have h1 := (atO_mem hn (k := x.2) (t := x.1)).2 hx
  refine ⟨by rw [h.get]; exact h1, ?_⟩
  unfold atO at h1
  unfold atT dropE
  split at h1
  · rename_i hk
    rw [if_pos hk, if_pos hk]
    exact ⟨Option.some.inj h1, rfl⟩
  · cases h1
theorem Want.has {W : List Al} {M : List (Int × Int)} (h : Want W M) (k : Int) : (aGet k M).isSome = hasK W k := by
  rw [h.get]
  unfold atO
  cases hasK W k <;> simp
end Go.Proofs.Ytggpmepiggnnnaa
