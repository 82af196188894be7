import Derived.Test.YtfejhekoijemdaaOnceM
import Derived.Test.YtfejhekoijemdaaBegunW
import Derived.Test.YtfejhekoijemdaaReads
namespace Go.Proofs.Ytfejhekoijemdaa
open Go.RowKit

theorem OnceI.voteR {slots : List Int} {V : List (Int × Bool)} {n : Int} {S : SetM} {o : OneM} (h : OnceI slots V n S o) (v : Int) (id : ID) :
    ∃ o', ((voteM S 1 v id).2 = 4 ∧ OnceI slots V n (voteM S 1 v id).1 o') ∨ ((voteM S 1 v id).2 = 0 ∧ votedB V v = false ∧ cntI v slots ≠ 0 ∧ OnceI slots (aPut v true V) (n + cntI v slots) (voteM S 1 v id).1 o') := by
  obtain ⟨h1, h2⟩ := h.find
  unfold voteM
  rw [h1]
  simp only [h2]
  by_cases hd : isDone S o = true
  · rw [if_pos hd]; exact ⟨o, .inl ⟨rfl, h⟩⟩
  · rw [if_neg hd]
    by_cases hw : waitsOf o v = 0
    · rw [if_pos hw]; exact ⟨_, .inl ⟨rfl, h.take0 v hw⟩⟩
    · rw [if_neg hw]
      obtain ⟨g1, g2, g3⟩ := h.fresh hw
      exact ⟨_, .inr ⟨rfl, g1, g2, g3 ▸ h.vote1 v id⟩⟩
theorem OnceI.dropR {slots : List Int} {V : List (Int × Bool)} {n : Int} {S : SetM} {o : OneM} (h : OnceI slots V n S o) (v : Int) :
    ∃ o', ((dropM S 1 v).2 = 4 ∧ OnceI slots V n (dropM S 1 v).1 o') ∨ ((dropM S 1 v).2 = 0 ∧ votedB V v = false ∧ cntI v slots ≠ 0 ∧ OnceI slots (aPut v true V) n (dropM S 1 v).1 o') := by
  obtain ⟨h1, h2⟩ := h.find
  unfold dropM
  rw [h1]
  simp only [h2]
  by_cases hd : isDone S o = true
  · rw [if_pos hd]; exact ⟨o, .inl ⟨rfl, h⟩⟩
  · rw [if_neg hd]
    by_cases hw : waitsOf o v = 0
    · rw [if_pos hw]; exact ⟨_, .inl ⟨rfl, h.take0 v hw⟩⟩
    · rw [if_neg hw]
      obtain ⟨g1, g2, g3⟩ := h.fresh hw
      exact ⟨_, .inr ⟨rfl, g1, g2, h.take1 v⟩⟩
theorem OnceI.leftR {slots : List Int} {V : List (Int × Bool)} {n : Int} {S : SetM} {o : OneM} (h : OnceI slots V n S o) : ∃ l : Int, leftM S 1 = (l, 0) ∧ 0 ≤ l ∧ n + l ≤ slots.length := by
  obtain ⟨h1, h2⟩ := h.find
  obtain ⟨g1, g2, g3⟩ := h.left
  unfold leftM
  rw [h1]
  simp only [h2]
  by_cases hd : isDone S o = true
  · rw [if_pos hd]; exact ⟨0, rfl, Int.le_refl _, by omega⟩
  · rw [if_neg hd]; exact ⟨o.left, rfl, g1, g3⟩
theorem OnceI.new {c : Int} {slots : List Int} (hs : SetOK ⟨c, c, 0, []⟩) (ho : openC ⟨c, c, 0, []⟩ slots = 0) : OnceI slots [] 0 (addS ⟨c, c, 0, []⟩ slots) (newO ⟨c, c, 0, []⟩ slots) where
  ok := hs.add ho
  l := rfl
  id := rfl
  sl := rfl
  w := fun v => by rw [waits_new]; rfl
  sum := rfl
theorem openC_1 {c : Int} {slots : List Int} (h : openC ⟨c, c, 0, []⟩ slots ≠ 0) : openC ⟨c, c, 0, []⟩ slots = 1 := by
  unfold openC at *
  split
  · rfl
  · rename_i h1
    rw [if_neg h1] at h
    exact absurd rfl h
/-- what comes out at the end: the one poll, or none -/
theorem OnceI.ends {slots : List Int} {V : List (Int × Bool)} {n : Int} {S : SetM} {o : OneM} (h : OnceI slots V n S o) {w : World} {V' : Nat → Prop} {es : List EndM} (he : EndsAt w V' es (S.l.take (doneN S))) : es.length ≤ 1 ∧ ∀ i (hi : i < es.length), IsEnd w V' es[i] o := by
  rw [h.l] at he
  have h1 := he.1
  have h2 : ([o].take (doneN S)).length ≤ 1 := by simp; omega
  refine ⟨by omega, fun i hi => he.2 i es[i] o (List.getElem?_eq_getElem hi) ?_⟩
  have : i = 0 := by omega
  subst this
  rw [List.getElem?_eq_getElem (by omega)]
  simp
def boolV (b : Bool) : Value := .bool b
theorem run_voted {w : World} {m : Nat} {V : List (Int × Bool)} (h : MapI w m boolV V) (v : Int) : (Instr.lookup 32 (.map (some m)) (.int .i64 v) false).run Try.prog w = .ok (.bool (votedB V v)) w := by
  rw [run_lookup1_int (enc := boolV) Try.underlying32 Try.underlying3 (z := .bool false) (fun w => by kernel_rfl) h v]
  unfold votedB boolV
  cases aGet v V <;> rfl
end Go.Proofs.Ytfejhekoijemdaa
