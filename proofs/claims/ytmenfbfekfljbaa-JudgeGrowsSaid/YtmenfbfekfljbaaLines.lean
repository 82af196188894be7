import Derived.Test.YtmenfbfekfljbaaBegun
namespace Go.Proofs.Ytmenfbfekfljbaa
open Go.RowKit

theorem few_zero (w : World) (v : Value) (xs : List FactD) (h : SlIn w v 72 factL xs) (hw1 : ∀ x ∈ xs, x.slots.len ≤ maxLen ∧ x.votes.len ≤ maxLen) :
    Calls Try.prog 11 #[v, .agg (planL PlanD.zero).toArray] w fun e w' => e = .returned (.bool (fewB xs PlanD.zero [])) ∧ Below w.heap.size w w' :=
  few_any w v xs PlanD.zero [] h ⟨none, 0, rfl, Nat.le_refl _, Nat.zero_le _, fun h => absurd h (Nat.lt_irrefl _)⟩ hw1 (Nat.zero_le _) (by simp)
theorem few_len {xs : List FactD} {p : PlanD} {vs : List VdrD} (h : fewB xs p vs = true) : xs.length ≤ 60 := by
  unfold fewB at h
  simp only [Bool.and_eq_true, decide_eq_true_eq] at h
  exact h.1.1.1.1
set_option maxRecDepth 100000 in
set_option maxHeartbeats 4000000 in
theorem lines_any (w : World) (v : Value) (xs : List FactD) (node : Int) (h : SlIn w v 72 factL xs) (hw1 : ∀ x ∈ xs, x.slots.len ≤ maxLen ∧ x.votes.len ≤ maxLen) :
    Calls Try.prog 3 #[v, .int .i64 node] w fun e w' => e = .returned (.bool true) ∧ Below w.heap.size w w' := by
  have HS := Lib.hid fun W (hW : Below w.heap.size w W) => h.below hW
  have HF := Lib.hid fun W (hW : Below w.heap.size w W) => few_zero W v xs (h.below hW) hw1
  have HL := Lib.hid fun (hh : fewB xs PlanD.zero [] = true) => few_len hh
  clear h hw1
  generalize fewB xs PlanD.zero [] = fw at *
  go_enter Try.func3, Try.ntmps3
  go_wp2_with fail
  refine (begun_any _).mono ?_
  rintro e w1 ⟨rfl, h1⟩
  go_wp2_with fail
  refine (HF.out _ h1).mono ?_
  rintro e w2 ⟨rfl, h2⟩
  replace h2 := h1.trans (h2.mono h1.size)
  clear h1
  cases fw
  · go_wp2_with fail
    refine (begun_any _).mono ?_
    rintro e w3 ⟨rfl, h3⟩
    replace h3 := h2.trans (h3.mono h2.size)
    go_wp2
    go_ret
    exact ⟨rfl, h3⟩
  · have hl : xs.length ≤ 1000 := by have := HL.out (by first | rfl | trivial); omega
    go_wp2_with fail
    refine (line_any _ _ xs node (HS.out _ h2) hl).mono ?_
    rintro e w3 ⟨v1, rfl, o1, h3⟩
    replace h3 := h2.trans (h3.mono h2.size)
    clear h2
    go_wp2_with fail
    refine (ref_line_any _ _ xs node (HS.out _ h3) hl).mono ?_
    rintro e w4 ⟨v2, rfl, o2, h4⟩
    have o1' := o1.below h4
    replace h4 := h3.trans (h4.mono h3.size)
    clear h3
    go_wp2_with fail
    refine (equal_any _ _ _ (lineM xs node) (lineM xs node) (o1'.slIn idL_length) (o2.slIn idL_length)).mono ?_
    rintro e w5 ⟨rfl, h5⟩
    replace h5 := h4.trans (h5.mono h4.size)
    clear h4
    rw [decide_eq_true rfl]
    go_wp2_with fail
    refine (agree_any _ _ xs (HS.out _ h5) hl).mono ?_
    rintro e w6 ⟨rfl, h6⟩
    replace h6 := h5.trans (h6.mono h5.size)
    clear h5
    go_wp2_with fail
    refine (ref_agree_any _ _ xs (HS.out _ h6) hl).mono ?_
    rintro e w7 ⟨rfl, h7⟩
    replace h7 := h6.trans (h7.mono h6.size)
    clear h6
    generalize agreeR xs = r
    go_wp2
    go_ret
    exact ⟨ret_bool (by simp), h7⟩
end Go.Proofs.Ytmenfbfekfljbaa
