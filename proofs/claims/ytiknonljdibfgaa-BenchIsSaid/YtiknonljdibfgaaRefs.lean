import Derived.Test.YtiknonljdibfgaaMay
import Derived.Test.YtiknonljdibfgaaChk
namespace Go.Proofs.Ytiknonljdibfgaa
open Go.RowKit

/-! ### the document's small answers -/
theorem in_any (a m : Int) (w : World) : Calls Try.prog 47 #[.int .i64 a, .int .i64 m] w fun e w' => e = .returned (.bool (decide (0 ≤ a) && decide (a ≤ m))) ∧ w = w' := by
  go_enter Try.func47, Try.ntmps47
  go_wp2
  all_goals (go_ret; refine ⟨ret_bool ?_, rfl⟩; rw [Bool.eq_iff_iff]; simp_all <;> omega)
theorem isR_any (w : World) (v : Value) (s : List St) (i now : Int) (h : SlIn w v 3 stL s) : Calls Try.prog 25 #[v, .int .i64 i, .int .i64 now] w fun e w' => e = .returned (.bool (isB s i now)) ∧ w = w' := by
  obtain ⟨oa, cap, rfl, g1, g2, g3⟩ := h
  unfold maxLen at g2
  by_cases h1 : 0 ≤ i
  · obtain ⟨k, rfl⟩ := Int.eq_ofNat_of_zero_le h1
    by_cases h2 : k < s.length
    · obtain ⟨b, off, hoa, hbb, hrow⟩ := g3 (by omega)
      subst hoa
      have hs1 := hrow k h2
      have hg : s.getD k ⟨0, 0, 0⟩ = s[k] := by simp [List.getD, h2]
      have HI := Lib.hid (show isB s (k : Int) now = (decide (0 ≤ now) && decide (now < s[k].u)) by unfold isB; simp only [Int.toNat_natCast, hg]; simp [h2])
      generalize s[k] = x at *
      obtain ⟨a, b', c⟩ := x
      have c2 : w.cell? ⟨b, off + k * 3 + 2, none⟩ = some (.int .i64 c) := by have := subOf_cell hs1 (j := 2) (by decide); simpa using this
      clear hs1 hrow g3 hg
      go_enter Try.func25, Try.ntmps25
      go_wp2
      all_goals (go_ret; refine ⟨ret_bool ?_, rfl⟩; rw [HI.out, Bool.eq_iff_iff]; simp_all <;> omega)
    · have HI := Lib.hid (show isB s (k : Int) now = false by unfold isB; simp; omega)
      have h2' : ¬ (k : Int) < (s.length : Int) := by omega
      clear g3
      go_enter Try.func25, Try.ntmps25
      go_wp2
      go_ret
      exact ⟨ret_bool HI.out.symm, rfl⟩
  · have HI := Lib.hid (show isB s i now = false by unfold isB; simp; omega)
    clear g3
    go_enter Try.func25, Try.ntmps25
    go_wp2
    go_ret
    exact ⟨ret_bool HI.out.symm, rfl⟩

set_option maxHeartbeats 2000000 in
theorem ruleR_any (r : Rul) (w : World) : Calls Try.prog 21 #[ruV r] w fun e w' => e = .returned (.int .i64 (ruleE r)) ∧ Below w.heap.size w w' := by
  obtain ⟨a, b, c, d, e⟩ := r
  have hb : Below w.heap.size w (w.alloc (.cells #[.int .i64 a, .int .i64 b, .int .i64 c, .int .i64 d, .int .i64 e] 23)) := (Below.refl _ _).alloc (Nat.le_refl _) _
  have HB := Lib.hid hb
  have HI1 := Lib.hid (fun W => in_any b 1099511627776 W)
  have HI2 := Lib.hid (fun W => in_any d e W)
  clear hb
  simp only [ruV]
  by_cases t0 : a < 1
  · have HR := Lib.hid (show ruleE ⟨a, b, c, d, e⟩ = 150 by unfold ruleE; rw [if_pos (by simp only; omega)])
    go_enter Try.func21, Try.ntmps21
    go_wp2
    go_ret
    exact ⟨ret_int HR.out.symm, HB.out⟩
  · skip
    by_cases t1 : 1000 < a
    · have HR := Lib.hid (show ruleE ⟨a, b, c, d, e⟩ = 150 by unfold ruleE; rw [if_pos (by simp only; omega)])
      go_enter Try.func21, Try.ntmps21
      go_wp2
      go_ret
      exact ⟨ret_int HR.out.symm, HB.out⟩
    · skip
      by_cases t2 : ¬ (0 ≤ b ∧ b ≤ 1099511627776)
      · have HR := Lib.hid (show ruleE ⟨a, b, c, d, e⟩ = 150 by unfold ruleE; rw [if_pos (by simp only; omega)])
        have tt : (decide (0 ≤ b) && decide (b ≤ 1099511627776)) = false := by simp; omega
        rw [tt] at HI1
        go_enter Try.func21, Try.ntmps21
        go_wp2_with fail
        refine (HI1.out _).mono ?_
        rintro e1 wa ⟨rfl, rfl⟩
        go_wp2
        go_ret
        exact ⟨ret_int HR.out.symm, HB.out⟩
      · have tt : (decide (0 ≤ b) && decide (b ≤ 1099511627776)) = true := by simp; omega
        rw [tt] at HI1
        by_cases t3 : c < 1
        · have HR := Lib.hid (show ruleE ⟨a, b, c, d, e⟩ = 150 by unfold ruleE; rw [if_pos (by simp only; omega)])
          go_enter Try.func21, Try.ntmps21
          go_wp2_with fail
          refine (HI1.out _).mono ?_
          rintro e1 wa ⟨rfl, rfl⟩
          go_wp2
          go_ret
          exact ⟨ret_int HR.out.symm, HB.out⟩
        · skip
          by_cases t4 : 1099511627776 < c
          · have HR := Lib.hid (show ruleE ⟨a, b, c, d, e⟩ = 150 by unfold ruleE; rw [if_pos (by simp only; omega)])
            go_enter Try.func21, Try.ntmps21
            go_wp2_with fail
            refine (HI1.out _).mono ?_
            rintro e1 wa ⟨rfl, rfl⟩
            go_wp2
            go_ret
            exact ⟨ret_int HR.out.symm, HB.out⟩
          · skip
            by_cases t5 : e < 1
            · have HR := Lib.hid (show ruleE ⟨a, b, c, d, e⟩ = 150 by unfold ruleE; rw [if_pos (by simp only; omega)])
              go_enter Try.func21, Try.ntmps21
              go_wp2_with fail
              refine (HI1.out _).mono ?_
              rintro e1 wa ⟨rfl, rfl⟩
              go_wp2
              go_ret
              exact ⟨ret_int HR.out.symm, HB.out⟩
            · skip
              by_cases t6 : ¬ (0 ≤ d ∧ d ≤ e)
              · have HR := Lib.hid (show ruleE ⟨a, b, c, d, e⟩ = 150 by unfold ruleE; rw [if_pos (by simp only; omega)])
                have tt : (decide (0 ≤ d) && decide (d ≤ e)) = false := by simp; omega
                rw [tt] at HI2
                go_enter Try.func21, Try.ntmps21
                go_wp2_with fail
                refine (HI1.out _).mono ?_
                rintro e1 wa ⟨rfl, rfl⟩
                go_wp2_with fail
                refine (HI2.out _).mono ?_
                rintro e1 wa ⟨rfl, rfl⟩
                go_wp2
                go_ret
                exact ⟨ret_int HR.out.symm, HB.out⟩
              · have tt : (decide (0 ≤ d) && decide (d ≤ e)) = true := by simp; omega
                rw [tt] at HI2
                have HR := Lib.hid (show ruleE ⟨a, b, c, d, e⟩ = 0 by unfold ruleE; rw [if_neg (by simp only; omega)])
                go_enter Try.func21, Try.ntmps21
                go_wp2_with fail
                refine (HI1.out _).mono ?_
                rintro e1 wa ⟨rfl, rfl⟩
                go_wp2_with fail
                refine (HI2.out _).mono ?_
                rintro e1 wa ⟨rfl, rfl⟩
                go_wp2
                go_ret
                exact ⟨ret_int HR.out.symm, HB.out⟩
theorem newA_bad (n : Int) (h : n < 1 ∨ 32 < n) (w : World) : Calls Try.prog 12 #[.int .i64 n] w fun e w' => e = .returned (.tuple #[.slice none 0 0, .int .i64 1]) ∧ w = w' := by
  rcases h with h | h
  · go_enter Try.func12, Try.ntmps12
    go_wp2
    go_ret2
    exact ⟨rfl, rfl⟩
  · have h' : ¬ n < 1 := by omega
    go_enter Try.func12, Try.ntmps12
    go_wp2
    go_ret2
    exact ⟨rfl, rfl⟩
theorem newR_bad (n : Int) (h : n < 1 ∨ 32 < n) (w : World) : Calls Try.prog 19 #[.int .i64 n] w fun e w' => e = .returned (.tuple #[.slice none 0 0, .int .i64 1]) ∧ w = w' := by
  rcases h with h | h
  · go_enter Try.func19, Try.ntmps19
    go_wp2
    go_ret2
    exact ⟨rfl, rfl⟩
  · have h' : ¬ n < 1 := by omega
    go_enter Try.func19, Try.ntmps19
    go_wp2
    go_ret2
    exact ⟨rfl, rfl⟩
end Go.Proofs.Ytiknonljdibfgaa
