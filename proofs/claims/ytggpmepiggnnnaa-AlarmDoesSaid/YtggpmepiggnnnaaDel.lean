import Derived.Test.YtggpmepiggnnnaaSwap
namespace Go.Proofs.Ytggpmepiggnnnaa
open Go.RowKit

/-! ### keys of a map, each once -/
def KeysOnce (M : List (Int × Int)) : Prop := (M.map (·.1)).Nodup
theorem keys_aPut (k v : Int) : ∀ M : List (Int × Int), (aPut k v M).map (·.1) = if k ∈ M.map (·.1) then M.map (·.1) else M.map (·.1) ++ [k]
  | [] => by simp [aPut]
  | (j, u) :: r => by
    unfold aPut
    by_cases h : k = j
    · subst h; simp
    · rw [if_neg h, List.map_cons, keys_aPut k v r]
      by_cases h2 : k ∈ r.map (·.1)
      · rw [if_pos h2, if_pos (by simp only [List.map_cons, List.mem_cons]; exact .inr h2)]; rfl
      · rw [if_neg h2, if_neg (by simp only [List.map_cons, List.mem_cons]; exact fun e => e.elim h h2)]; rfl
theorem KeysOnce.put {M : List (Int × Int)} (h : KeysOnce M) (k v : Int) : KeysOnce (aPut k v M) := by
  unfold KeysOnce at *
  rw [keys_aPut]
  split
  · exact h
  · rename_i hn
    rw [List.nodup_append]
    exact ⟨h, by simp, fun a ha b hb e => by simp at hb; subst hb; subst e; exact hn ha⟩
theorem aGet_none {k : Int} : ∀ {M : List (Int × Int)}, k ∉ M.map (·.1) → aGet k M = none
  | [], _ => rfl
  | (j, u) :: r, h => by
    simp only [List.map_cons, List.mem_cons, not_or] at h
    unfold aGet
    rw [if_neg h.1]
    exact aGet_none h.2
theorem aGet_aDel (k j : Int) : ∀ {M : List (Int × Int)}, KeysOnce M → aGet k (aDel j M) = if k = j then none else aGet k M
  | [], _ => by simp [aDel, aGet]
  | (i, u) :: r, h => by
    have h' : (i ∉ r.map (·.1)) ∧ KeysOnce r := by
      unfold KeysOnce at *
      rw [List.map_cons, List.nodup_cons] at h
      exact h
    unfold aDel
    by_cases hj : j = i
    · subst hj
      rw [if_pos rfl]
      by_cases hk : k = j
      · subst hk; rw [if_pos rfl]; exact aGet_none h'.1
      · rw [if_neg hk]
        conv => rhs; unfold aGet
        rw [if_neg hk]
    · rw [if_neg hj]
      unfold aGet
      rw [aGet_aDel k j h'.2]
      by_cases hki : k = i
      · rw [if_pos hki, if_pos hki, if_neg (fun e => hj (by rw [← e, hki]))]
      · rw [if_neg hki, if_neg hki]
theorem KeysOnce.del {M : List (Int × Int)} (h : KeysOnce M) (j : Int) : KeysOnce (aDel j M) := by
  have sub : ∀ M : List (Int × Int), ((aDel j M).map (·.1)).Sublist (M.map (·.1)) := by
    intro M
    induction M with
    | nil => exact List.Sublist.refl _
    | cons x r ih =>
      obtain ⟨i, u⟩ := x
      unfold aDel
      split
      · exact List.sublist_cons_self _ _
      · exact ih.cons_cons _
  exact List.Nodup.sublist (sub M) h
end Go.Proofs.Ytggpmepiggnnnaa
