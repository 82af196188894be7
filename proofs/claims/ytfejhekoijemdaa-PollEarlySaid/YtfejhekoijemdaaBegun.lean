import Derived.Test.YtfejhekoijemdaaSameS
import Derived.Test.YtfejhekoijemdaaReads
namespace Go.Proofs.Ytfejhekoijemdaa
open Go.RowKit

theorem openC_0 {S : SetM} {slots : List Int} (h : openC S slots = 0) : 1 ≤ slots.length ∧ slots.length ≤ 64 ∧ S.l.length < 256 := by
  unfold openC at h
  by_cases d1 : slots.length < 1
  · rw [decide_eq_true d1] at h; simp at h
  by_cases d2 : 64 < slots.length
  · rw [decide_eq_true d2] at h; simp at h
  cases d3 : slots.any wrongB with
  | true => rw [d3] at h; simp at h
  | false =>
    refine ⟨by omega, by omega, ?_⟩
    rw [d3, decide_eq_false d1, decide_eq_false d2] at h
    by_cases d4 : 256 ≤ S.l.length
    · simp [d4] at h
    · omega
theorem SetOK.add {S : SetM} (h : SetOK S) {slots : List Int} (ho : openC S slots = 0) : SetOK (addS S slots) := by
  obtain ⟨h1, h2, _⟩ := openC_0 ho
  refine ⟨h.p0, h.pc, h.c1, by have := h.last; unfold addS; simp; omega, fun o hm => ?_⟩
  unfold addS at hm
  rcases List.mem_append.1 hm with hm | hm
  · exact h.one o hm
  · simp at hm; subst hm; exact newO_ok S h1 h2
theorem SetOK.dropS {S : SetM} (h : SetOK S) (k : Nat) : SetOK (dropS S k) := ⟨h.p0, h.pc, h.c1, h.last, fun o ho => h.one o (List.mem_of_mem_drop ho)⟩
theorem SetOK.dropM {S : SetM} (h : SetOK S) (n v : Int) : SetOK (dropM S n v).1 := by
  unfold Ytfejhekoijemdaa.dropM
  cases findI n S.l with
  | none => exact h
  | some i =>
    simp only
    cases S.l[i]? with
    | none => exact h
    | some o =>
      simp only
      split
      · exact h
      · exact h.mod i _ fun o ho => ho.take v
theorem SetOK.voteM {S : SetM} (h : SetOK S) (n v : Int) (id : ID) : SetOK (voteM S n v id).1 := by
  unfold Ytfejhekoijemdaa.voteM
  cases findI n S.l with
  | none => exact h
  | some i =>
    simp only
    cases S.l[i]? with
    | none => exact h
    | some o =>
      simp only
      split
      · exact h
      · split
        · exact h.mod i _ fun o ho => ho.take v
        · exact h.mod i _ fun o ho => ho.vote v id
theorem SetOK.new {pref conf : Int} (h1 : 1 ≤ pref) (h2 : pref ≤ conf) (h3 : conf ≤ 64) : SetOK ⟨pref, conf, 0, []⟩ := ⟨h1, h2, h3, Int.le_refl _, fun o ho => by cases ho⟩
/-! ### the run of begun, as plain data -/
def T0 : SetM := ⟨2, 3, 0, []⟩
def T1 : SetM := addS T0 [0, 1, 1, 2]
def T2 : SetM := (voteM T1 1 1 (nameP 1)).1
def T3 : SetM := (voteM (dropS T2 0) 1 0 (nameP 1)).1
def T4 : SetM := (dropM T3 1 2).1
theorem t_open : openC T0 [0, 1, 1, 2] = 0 := by decide +kernel
theorem t_vote1 : (voteM T1 1 1 (nameP 1)).2 = 0 := by decide +kernel
theorem t_done1 : doneN T2 = 0 := by decide +kernel
theorem t_vote2 : (voteM (dropS T2 0) 1 0 (nameP 1)).2 = 0 := by decide +kernel
theorem t_drop : (dropM T3 1 2).2 = 4 := by decide +kernel
theorem t_done2 : doneN T4 = 1 := by decide +kernel
theorem t_end : T4.l.take 1 = [⟨1, 4, [(2, 1)], 1, [⟨nameP 1, 3⟩]⟩] := by rfl
end Go.Proofs.Ytfejhekoijemdaa
