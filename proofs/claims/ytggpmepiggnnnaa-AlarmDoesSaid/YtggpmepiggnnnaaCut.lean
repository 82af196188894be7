import Derived.Test.YtggpmepiggnnnaaNew
namespace Go.Proofs.Ytggpmepiggnnnaa
open Go.RowKit

theorem at'_take {L : List Al} {n j : Nat} (h : j < n) : at' (L.take n) j = at' L j := by
  unfold at'
  rw [List.getElem?_take_of_lt h]
/-- the last one is cut off, and its key deleted -/
theorem Spec.cut {L : List Al} {M : List (Int × Int)} (h : Spec L M) {n : Nat} (hn : L.length = n + 1) : Spec (L.take n) (aDel (at' L n).2 M) := by
  refine ⟨fun j hj => ?_, fun k hk => ?_, h.once.del _⟩
  · have hj' : j < n := by simp at hj; omega
    rw [at'_take hj', aGet_aDel _ _ h.once, if_neg (fun e => by have := h.inj (by omega) (by omega) e; omega)]
    exact h.at_ j (by omega)
  · rw [aGet_aDel _ _ h.once]
    by_cases e : k = (at' L n).2
    · rw [if_pos e]
    · rw [if_neg e]
      refine h.no k fun j hj e2 => ?_
      by_cases hjn : j = n
      · subst hjn; exact e e2.symm
      · have hj' : j < n := by omega
        exact hk j (by simp; omega) (by rw [at'_take hj']; exact e2)
end Go.Proofs.Ytggpmepiggnnnaa
