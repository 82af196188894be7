import Derived.Test.YtagpclgappcnbaaBeFailed
namespace Go.Proofs.Ytagpclgappcnbaa.Be
open Go.RowKit

/-! ### plain: a bench behind an act -/
theorem mayB_n {x : St} (h : mayB x = true) : 0 ≤ x.f ∧ x.f ≤ 1000 ∧ 0 ≤ x.s ∧ x.s ≤ 4611686018427387903 ∧ (x.f = 0 → x.s = 0) ∧ 0 ≤ x.u ∧ x.u ≤ 4611686018427387903 := by
  unfold mayB at h
  simp only [Bool.and_eq_true, decide_eq_true_eq, Bool.not_eq_true', Bool.and_eq_false_iff, decide_eq_false_iff_not, Bool.not_eq_false'] at h
  omega
theorem mayB_of {x : St} (h : 0 ≤ x.f ∧ x.f ≤ 1000 ∧ 0 ≤ x.s ∧ x.s ≤ 4611686018427387903 ∧ (x.f = 0 → x.s = 0) ∧ 0 ≤ x.u ∧ x.u ≤ 4611686018427387903) : mayB x = true := by
  unfold mayB
  simp only [Bool.and_eq_true, decide_eq_true_eq, Bool.not_eq_true', Bool.and_eq_false_iff, decide_eq_false_iff_not, Bool.not_eq_false']
  omega
theorem ruleE_n {r : Rul} (h : ruleE r = 0) : 1 ≤ r.f ∧ r.f ≤ 1000 ∧ 0 ≤ r.lo ∧ r.lo ≤ 1099511627776 ∧ 1 ≤ r.fo ∧ r.fo ≤ 1099511627776 ∧ 1 ≤ r.de ∧ 0 ≤ r.nu ∧ r.nu ≤ r.de := by
  unfold ruleE at h
  split at h
  · cases h
  · omega
theorem nSeat_may {r : Rul} {x : St} {now : Int} {room : Bool} (hr : ruleE r = 0) (hx : mayB x = true) (h0 : 0 ≤ now) (h1 : now ≤ 4611686018427387903) : mayB (nSeat r x now room) = true := by
  have h := mayB_n hx
  have hq := ruleE_n hr
  apply mayB_of
  have hf : 1 ≤ nF x ∧ nF x ≤ 1000 := by unfold nF; omega
  have hs : 0 ≤ nS x now ∧ nS x now ≤ 4611686018427387903 := by unfold nS; split <;> omega
  unfold nSeat
  generalize nF x = a at *
  generalize nS x now = b at *
  split
  · refine ⟨?_, ?_, ?_, ?_, ?_, ?_, ?_⟩ <;> simp only <;> omega
  · refine ⟨?_, ?_, ?_, ?_, ?_, ?_, ?_⟩ <;> simp only <;> first | omega | (intro _; omega) | (intro _; rfl)
theorem mayE_set {r : Rul} {l : List Vd} {s : List St} (h : mayE r l s = 0) (i : Nat) {y : St} (hy : mayB y = true) : mayE r l (s.set i y) = 0 := by
  obtain ⟨h1, h2, h3, h4⟩ := mayE_0 h
  unfold mayE
  rw [if_pos]
  refine ⟨h1, h2, by rw [List.length_set]; exact h3, ?_⟩
  rw [List.all_eq_true] at h4 ⊢
  intro x hx
  rcases List.mem_or_eq_of_mem_set hx with hx | rfl
  · exact h4 x hx
  · exact hy
theorem mayE_at {r : Rul} {l : List Vd} {s : List St} (h : mayE r l s = 0) {i : Nat} (hi : i < s.length) : mayB s[i] = true := by
  obtain ⟨_, _, _, h4⟩ := mayE_0 h
  exact List.all_eq_true.1 h4 _ (List.getElem_mem hi)
theorem nSeat_f {r : Rul} {x : St} {now : Int} {room : Bool} (hx : mayB x = true) : (stays r x now room = true → (nSeat r x now room).f ≤ x.f + 1) ∧ (stays r x now room = false → (nSeat r x now room).f = 0 ∧ r.f ≤ x.f + 1) := by
  have h := mayB_n hx
  constructor
  · intro hs
    unfold nSeat
    rw [if_pos hs]
    simp only [nF]
    omega
  · intro hs
    unfold nSeat
    rw [if_neg (by rw [hs]; decide)]
    refine ⟨rfl, ?_⟩
    unfold stays at hs
    simp only [Bool.or_eq_false_iff] at hs
    have h1 := of_decide_eq_false hs.1.1
    unfold nF at h1
    omega
/-- rows of failures told, of validators -/
def RowsI (s : List St) (R : List Int) : Prop := s.length = R.length ∧ ∀ i (h : i < s.length) (h' : i < R.length), s[i].f ≤ R[i]
theorem RowsI.set {s : List St} {R : List Int} (h : RowsI s R) (i : Nat) {y : St} {m : Int} (hm : y.f ≤ m) : RowsI (s.set i y) (R.set i m) := by
  refine ⟨by simp [h.1], fun j hj hj' => ?_⟩
  rw [List.getElem_set, List.getElem_set]
  by_cases e : i = j
  · rw [if_pos e, if_pos e]; exact hm
  · rw [if_neg e, if_neg e]; exact h.2 j (by simpa using hj) (by simpa using hj')
theorem RowsI.mono {s : List St} {R R' : List Int} (h : RowsI s R) (hl : R'.length = R.length) (hm : ∀ i (h : i < R.length) (h' : i < R'.length), R[i] ≤ R'[i]) : RowsI s R' :=
  ⟨h.1.trans hl.symm, fun i hi hi' => Int.le_trans (h.2 i hi (by omega)) (hm i (by omega) hi')⟩
end Go.Proofs.Ytagpclgappcnbaa.Be
