import Derived.Test.YtggpmepiggnnnaaDel
namespace Go.Proofs.Ytggpmepiggnnnaa
open Go.RowKit

theorem aGet_aPut' {ν : Type} (k j : Int) (v : ν) : ∀ M : List (Int × ν), aGet k (aPut j v M) = if k = j then some v else aGet k M
  | [] => by simp [aPut, aGet]
  | (i, u) :: r => by
    unfold aPut
    by_cases h : j = i
    · subst h
      rw [if_pos rfl]
      unfold aGet
      split <;> rfl
    · rw [if_neg h]
      unfold aGet
      rw [aGet_aPut' k j v r]
      by_cases h2 : k = i
      · subst h2
        rw [if_pos rfl, if_pos rfl, if_neg (fun e => h e.symm)]
      · rw [if_neg h2, if_neg h2]
/-- the map tells where each key's alarm stands, and of no other key -/
structure Spec (L : List Al) (M : List (Int × Int)) : Prop where
  at_ : ∀ j, j < L.length → aGet (at' L j).2 M = some (j : Int)
  no : ∀ k, (∀ j, j < L.length → (at' L j).2 ≠ k) → aGet k M = none
  once : KeysOnce M
theorem Spec.inj {L : List Al} {M : List (Int × Int)} (h : Spec L M) {i j : Nat} (hi : i < L.length) (hj : j < L.length) (e : (at' L i).2 = (at' L j).2) : i = j := by
  have h1 := h.at_ i hi
  rw [e, h.at_ j hj] at h1
  have := Option.some.inj h1
  omega
theorem Spec.swap {L : List Al} {M : List (Int × Int)} (h : Spec L M) {i k : Nat} (hi : i < L.length) (hk : k < L.length) : Spec (swapL L i k) (aPut L[i].2 k (aPut L[k].2 i M)) := by
  rw [← at'_eq hi, ← at'_eq hk]
  refine ⟨fun j hj => ?_, fun q hq => ?_, (h.once.put _ _).put _ _⟩
  · rw [swapL_length] at hj
    rw [at'_swap hi hk, aGet_aPut', aGet_aPut']
    by_cases hji : j = i
    · subst hji
      rw [if_pos rfl]
      by_cases e : (at' L k).2 = (at' L j).2
      · rw [if_pos e, h.inj hk hj e]
      · rw [if_neg e, if_pos rfl]
    · rw [if_neg hji]
      by_cases hjk : j = k
      · subst hjk
        rw [if_pos rfl, if_pos rfl]
      · rw [if_neg hjk, if_neg (fun e => hji (h.inj hj hi e)), if_neg (fun e => hjk (h.inj hj hk e))]
        exact h.at_ j hj
  · have h1 : ∀ j, j < L.length → (at' L j).2 ≠ q := fun j hj e => by
      by_cases hji : j = i
      · refine hq k (by simpa using hk) ?_
        rw [at'_swap hi hk]
        by_cases hki : k = i
        · rw [if_pos hki, ← e, hji, hki]
        · rw [if_neg hki, if_pos rfl, ← e, hji]
      · by_cases hjk : j = k
        · refine hq i (by simpa using hi) ?_
          rw [at'_swap hi hk, if_pos rfl, ← e, hjk]
        · refine hq j (by simpa using hj) ?_
          rw [at'_swap hi hk, if_neg hji, if_neg hjk, e]
    rw [aGet_aPut', aGet_aPut', if_neg (fun e => h1 i hi e.symm), if_neg (fun e => h1 k hk e.symm)]
    exact h.no q h1
end Go.Proofs.Ytggpmepiggnnnaa
