import Derived.Test.YtagpclgappcnbaaGreatBeS
import Derived.Test.YtagpclgappcnbaaGreatBeN
import Derived.Test.YtagpclgappcnbaaGreatBeT
import Derived.Test.YtagpclgappcnbaaGreatBeF
namespace Go.Proofs.YtagpclgappcnbaaGreat.Be
open Go.RowKit

/-! ### the document's small answers -/
theorem in_any (a m : Int) (w : World) : Calls Tryz.prog 71 #[.int .i64 a, .int .i64 m] w fun e w' => e = .returned (.bool (decide (0 ≤ a) && decide (a ≤ m))) ∧ w = w' := by
  go_enter Tryz.func71, Tryz.ntmps71
  go_wp2
  all_goals (go_ret; refine ⟨ret_bool ?_, rfl⟩; rw [Bool.eq_iff_iff]; simp_all <;> omega)
theorem isR_any (w : World) (v : Value) (s : List St) (i now : Int) (h : SlIn w v 3 stL s) : Calls Tryz.prog 49 #[v, .int .i64 i, .int .i64 now] w fun e w' => e = .returned (.bool (isB s i now)) ∧ w = w' := by
  obtain ⟨oa, cap, rfl, g1, g2, g3⟩ := h
  unfold maxLen at g2
  by_cases h1 : 0 ≤ i
  · obtain ⟨k, rfl⟩ := Int.eq_ofNat_of_zero_le h1
    by_cases h2 : k < s.length
    · obtain ⟨b, off, hoa, hbb, hrow⟩ := g3 (by omega)
      subst hoa
      have hs1 := hrow k h2
      have hg : s.getD k ⟨0, 0, 0⟩ = s[k] := by simp [List.getD, h2]
      have HI := Lib.hid (show isB s (k : Int) now = (decide (0 ≤ now) && decide (now < s[k].u)) by unfold isB; simp only [Int.toNat_natCast, hg]; simp [h2])
      generalize s[k] = x at *
      obtain ⟨a, b', c⟩ := x
      have c2 : w.cell? ⟨b, off + k * 3 + 2, none⟩ = some (.int .i64 c) := by have := subOf_cell hs1 (j := 2) (by decide); simpa using this
      clear hs1 hrow g3 hg
      go_enter Tryz.func49, Tryz.ntmps49
      go_wp2
      all_goals (go_ret; refine ⟨ret_bool ?_, rfl⟩; rw [HI.out, Bool.eq_iff_iff]; simp_all <;> omega)
    · have HI := Lib.hid (show isB s (k : Int) now = false by unfold isB; simp; omega)
      have h2' : ¬ (k : Int) < (s.length : Int) := by omega
      clear g3
      go_enter Tryz.func49, Tryz.ntmps49
      go_wp2
      go_ret
      exact ⟨ret_bool HI.out.symm, rfl⟩
  · have HI := Lib.hid (show isB s i now = false by unfold isB; simp; omega)
    clear g3
    go_enter Tryz.func49, Tryz.ntmps49
    go_wp2
    go_ret
    exact ⟨ret_bool HI.out.symm, rfl⟩

set_option maxHeartbeats 2000000 in
theorem ruleR_any (r : Rul) (w : World) : Calls Tryz.prog 33 #[ruV r] w fun e w' => e = .returned (.int .i64 (ruleE r)) ∧ Below w.heap.size w w' := by
  obtain ⟨a, b, c, d, e⟩ := r
  have hb : Below w.heap.size w (w.alloc (.cells #[.int .i64 a, .int .i64 b, .int .i64 c, .int .i64 d, .int .i64 e] 25)) := (Below.refl _ _).alloc (Nat.le_refl _) _
  have HB := Lib.hid hb
  have HI1 := Lib.hid (fun W => in_any b 1099511627776 W)
  have HI2 := Lib.hid (fun W => in_any d e W)
  clear hb
  simp only [ruV]
  by_cases t0 : a < 1
  · have HR := Lib.hid (show ruleE ⟨a, b, c, d, e⟩ = 150 by unfold ruleE; rw [if_pos (by simp only; omega)])
    go_enter Tryz.func33, Tryz.ntmps33
    go_wp2
    go_ret
    exact ⟨ret_int HR.out.symm, HB.out⟩
  · skip
    by_cases t1 : 1000 < a
    · have HR := Lib.hid (show ruleE ⟨a, b, c, d, e⟩ = 150 by unfold ruleE; rw [if_pos (by simp only; omega)])
      go_enter Tryz.func33, Tryz.ntmps33
      go_wp2
      go_ret
      exact ⟨ret_int HR.out.symm, HB.out⟩
    · skip
      by_cases t2 : ¬ (0 ≤ b ∧ b ≤ 1099511627776)
      · have HR := Lib.hid (show ruleE ⟨a, b, c, d, e⟩ = 150 by unfold ruleE; rw [if_pos (by simp only; omega)])
        have tt : (decide (0 ≤ b) && decide (b ≤ 1099511627776)) = false := by simp; omega
        rw [tt] at HI1
        go_enter Tryz.func33, Tryz.ntmps33
        go_wp2_with fail
        refine (HI1.out _).mono ?_
        rintro e1 wa ⟨rfl, rfl⟩
        go_wp2
        go_ret
        exact ⟨ret_int HR.out.symm, HB.out⟩
      · have tt : (decide (0 ≤ b) && decide (b ≤ 1099511627776)) = true := by simp; omega
        rw [tt] at HI1
        by_cases t3 : c < 1
        · have HR := Lib.hid (show ruleE ⟨a, b, c, d, e⟩ = 150 by unfold ruleE; rw [if_pos (by simp only; omega)])
          go_enter Tryz.func33, Tryz.ntmps33
          go_wp2_with fail
          refine (HI1.out _).mono ?_
          rintro e1 wa ⟨rfl, rfl⟩
          go_wp2
          go_ret
          exact ⟨ret_int HR.out.symm, HB.out⟩
        · skip
          by_cases t4 : 1099511627776 < c
          · have HR := Lib.hid (show ruleE ⟨a, b, c, d, e⟩ = 150 by unfold ruleE; rw [if_pos (by simp only; omega)])
            go_enter Tryz.func33, Tryz.ntmps33
            go_wp2_with fail
            refine (HI1.out _).mono ?_
            rintro e1 wa ⟨rfl, rfl⟩
            go_wp2
            go_ret
            exact ⟨ret_int HR.out.symm, HB.out⟩
          · skip
            by_cases t5 : e < 1
            · have HR := Lib.hid (show ruleE ⟨a, b, c, d, e⟩ = 150 by unfold ruleE; rw [if_pos (by simp only; omega)])
              go_enter Tryz.func33, Tryz.ntmps33
              go_wp2_with fail
              refine (HI1.out _).mono ?_
              rintro e1 wa ⟨rfl, rfl⟩
              go_wp2
              go_ret
              exact ⟨ret_int HR.out.symm, HB.out⟩
            · skip
              by_cases t6 : ¬ (0 ≤ d ∧ d ≤ e)
              · have HR := Lib.hid (show ruleE ⟨a, b, c, d, e⟩ = 150 by unfold ruleE; rw [if_pos (by simp only; omega)])
                have tt : (decide (0 ≤ d) && decide (d ≤ e)) = false := by simp; omega
                rw [tt] at HI2
                go_enter Tryz.func33, Tryz.ntmps33
                go_wp2_with fail
                refine (HI1.out _).mono ?_
                rintro e1 wa ⟨rfl, rfl⟩
                go_wp2_with fail
                refine (HI2.out _).mono ?_
                rintro e1 wa ⟨rfl, rfl⟩
                go_wp2
                go_ret
                exact ⟨ret_int HR.out.symm, HB.out⟩
              · have tt : (decide (0 ≤ d) && decide (d ≤ e)) = true := by simp; omega
                rw [tt] at HI2
                have HR := Lib.hid (show ruleE ⟨a, b, c, d, e⟩ = 0 by unfold ruleE; rw [if_neg (by simp only; omega)])
                go_enter Tryz.func33, Tryz.ntmps33
                go_wp2_with fail
                refine (HI1.out _).mono ?_
                rintro e1 wa ⟨rfl, rfl⟩
                go_wp2_with fail
                refine (HI2.out _).mono ?_
                rintro e1 wa ⟨rfl, rfl⟩
                go_wp2
                go_ret
                exact ⟨ret_int HR.out.symm, HB.out⟩
theorem newA_bad (n : Int) (h : n < 1 ∨ 32 < n) (w : World) : Calls Tryz.prog 24 #[.int .i64 n] w fun e w' => e = .returned (.tuple #[.slice none 0 0, .int .i64 1]) ∧ w = w' := by
  rcases h with h | h
  · go_enter Tryz.func24, Tryz.ntmps24
    go_wp2
    go_ret2
    exact ⟨rfl, rfl⟩
  · have h' : ¬ n < 1 := by omega
    go_enter Tryz.func24, Tryz.ntmps24
    go_wp2
    go_ret2
    exact ⟨rfl, rfl⟩
theorem newR_bad (n : Int) (h : n < 1 ∨ 32 < n) (w : World) : Calls Tryz.prog 29 #[.int .i64 n] w fun e w' => e = .returned (.tuple #[.slice none 0 0, .int .i64 1]) ∧ w = w' := by
  rcases h with h | h
  · go_enter Tryz.func29, Tryz.ntmps29
    go_wp2
    go_ret2
    exact ⟨rfl, rfl⟩
  · have h' : ¬ n < 1 := by omega
    go_enter Tryz.func29, Tryz.ntmps29
    go_wp2
    go_ret2
    exact ⟨rfl, rfl⟩
end Go.Proofs.YtagpclgappcnbaaGreat.Be
namespace Go.Proofs.YtagpclgappcnbaaGreat.Be
open Go.RowKit

set_option maxRecDepth 100000 in
set_option maxHeartbeats 1000000 in
/-- flurryref15.May -/
theorem mayR_any (w : World) (r : Rul) (v1 v2 : Value) (l : List Vd) (s : List St) (h : SlIn w v1 2 vdL l) (h2 : SlIn w v2 3 stL s) (hN : ∀ x ∈ l, x.name.size ≤ 300) :
    Calls Tryz.prog 120 #[ruV r, v1, v2] w fun e w' => e = .returned (.int .i64 (mayE r l s)) ∧ Below w.heap.size w w' := by
  have b1 : Below w.heap.size w (w.alloc (.cells (ruC r) 25)) := (Below.refl _ _).alloc (Nat.le_refl _) _
  have HR := Lib.hid (ruleR_any r (w.alloc (.cells (ruC r) 25)))
  have HS := Lib.hid h
  have HS2 := Lib.hid h2
  have B1 := Lib.hid b1
  obtain ⟨oa, cap, rfl, g1, g2, g3⟩ := h
  obtain ⟨oa2, cap2, rfl, k1, k2, k3⟩ := h2
  unfold maxLen at g2 k2
  have H3 := Lib.hid g3
  have K3 := Lib.hid k3
  clear g3 k3 b1
  simp only [ruV, ruC] at *
  rcases ruleE_cases r with hr | hr
  · rw [hr] at HR
    go_enter Tryz.func120, Tryz.ntmps120
    go_wp2_with fail
    generalize w.alloc (.cells #[.int .i64 r.f, .int .i64 r.lo, .int .i64 r.fo, .int .i64 r.nu, .int .i64 r.de] 25) = w1 at *
    refine HR.out.mono ?_
    rintro e w2 ⟨rfl, b2⟩
    have B2 := Lib.hid (B1.out.trans (b2.mono B1.out.size))
    have HC := Lib.hid (checkB w2 _ l (HS.out.below B2.out) hN)
    clear b2 HR
    rcases chk_cases l with hc | hc
    · rw [hc] at HC
      go_wp2_with fail
      refine HC.out.mono ?_
      rintro e w3 ⟨rfl, b3⟩
      have B3 := Lib.hid (B2.out.trans (b3.mono B2.out.size))
      clear b3 HC
      by_cases hl : s.length = l.length
      · have hl' : (l.length : Int) = (s.length : Int) := by omega
        have HE := Lib.hid (show mayE r l s = if s.all mayB = true then 0 else 150 by unfold mayE; by_cases ha : s.all mayB = true <;> simp [hr, hc, hl, ha])
        have HL := Lib.hid hl
        clear hl hr hc
        go_wp2
        go_loopw [7] (fun v18 wr => ∃ k : Nat, k ≤ s.length ∧ v18 = .int .i64 k ∧ Hid (Below w.heap.size w wr) ∧ Hid ((s.drop k).all mayB = s.all mayB)) (fun i _ => s.length - (intOf i).toNat)
        case atStart => exact ⟨0, Nat.zero_le _, rfl, B3, Lib.hid rfl⟩
        case round =>
          obtain ⟨k, hk, rfl, HB, HF⟩ := hrel
          clear hl'
          by_cases hlt : k < s.length
          · have hlt2 : k < l.length := by have := HL.out; omega
            obtain ⟨b, off, hoa, hbb, hrow⟩ := K3.out (by omega)
            subst hoa
            have hs1 := hrow k hlt
            rw [← obj_below HB.out hbb] at hs1
            have hbl : b < wr.heap.size := Nat.lt_of_lt_of_le hbb HB.out.size
            have hF := HF.out
            rw [List.drop_eq_getElem_cons hlt] at hF
            generalize s[k] = x at *
            obtain ⟨xf, xs, xu⟩ := x
            simp only [stL] at hs1
            clear hrow
            rw [List.all_cons] at hF
            have oz : obj (wr.alloc (.cells #[.int .i64 xf, .int .i64 xs, .int .i64 xu] 138)) wr.heap.size = some (.cells #[.int .i64 xf, .int .i64 xs, .int .i64 xu] 138 (0, 0)) := obj_alloc_at _ _ _ rfl
            have HBA := Lib.hid (HB.out.alloc HB.out.size (.cells #[.int .i64 xf, .int .i64 xs, .int .i64 xu] 138))
            have HI1 := Lib.hid (fun W => in_any xs 4611686018427387903 W)
            have HI2 := Lib.hid (fun W => in_any xu 4611686018427387903 W)
            have HBAD : Hid (mayB ⟨xf, xs, xu⟩ = false → mayE r l s = 150) := Lib.hid (fun hb => by rw [HE.out, if_neg (by rw [← hF, hb]; simp)])
            have HOKK : Hid (mayB ⟨xf, xs, xu⟩ = true → (s.drop (k + 1)).all mayB = s.all mayB) := Lib.hid (fun hb => by rw [hb, Bool.true_and] at hF; exact hF)
            have hmb : mayB ⟨xf, xs, xu⟩ = decide ((0 ≤ xf ∧ xf ≤ 1000) ∧ (0 ≤ xs ∧ xs ≤ 4611686018427387903) ∧ (xf = 0 → xs = 0) ∧ (0 ≤ xu ∧ xu ≤ 4611686018427387903)) := by
              unfold mayB; rw [Bool.eq_iff_iff]; simp only [Bool.and_eq_true, decide_eq_true_eq, Bool.not_eq_true', Bool.and_eq_false_iff, decide_eq_false_iff_not, Bool.not_eq_false']; omega
            rw [hmb] at HBAD HOKK
            clear hF HF hmb
            by_cases t0 : xf < 0
            · have HG := Lib.hid (HBAD.out (by rw [decide_eq_false_iff_not]; omega))
              go_wp2
              go_ret
              exact ⟨ret_int HG.out.symm, HBA.out⟩
            · skip
              by_cases t1 : 1000 < xf
              · have HG := Lib.hid (HBAD.out (by rw [decide_eq_false_iff_not]; omega))
                go_wp2
                go_ret
                exact ⟨ret_int HG.out.symm, HBA.out⟩
              · skip
                by_cases t2 : ¬ (0 ≤ xs ∧ xs ≤ 4611686018427387903)
                · have HG := Lib.hid (HBAD.out (by rw [decide_eq_false_iff_not]; omega))
                  have tt : (decide (0 ≤ xs) && decide (xs ≤ 4611686018427387903)) = false := by simp; omega
                  rw [tt] at HI1
                  go_wp2_with fail
                  refine (HI1.out _).mono ?_
                  rintro e1 wa ⟨rfl, rfl⟩
                  go_wp2
                  go_ret
                  exact ⟨ret_int HG.out.symm, HBA.out⟩
                · have tt : (decide (0 ≤ xs) && decide (xs ≤ 4611686018427387903)) = true := by simp; omega
                  rw [tt] at HI1
                  by_cases t3 : xf = 0 ∧ ¬ xs = 0
                  · have HG := Lib.hid (HBAD.out (by rw [decide_eq_false_iff_not]; omega))
                    obtain ⟨rfl, t3b⟩ := t3
                    have e1 : (xs == 0) = false := by simpa using t3b
                    go_wp2_with fail
                    refine (HI1.out _).mono ?_
                    rintro e1 wa ⟨rfl, rfl⟩
                    go_wp2
                    go_ret
                    exact ⟨ret_int HG.out.symm, HBA.out⟩
                  · skip
                    by_cases t4 : ¬ (0 ≤ xu ∧ xu ≤ 4611686018427387903)
                    · have HG := Lib.hid (HBAD.out (by rw [decide_eq_false_iff_not]; omega))
                      have tt : (decide (0 ≤ xu) && decide (xu ≤ 4611686018427387903)) = false := by simp; omega
                      rw [tt] at HI2
                      by_cases e0 : xf = 0
                      · have e1 : xs = 0 := by omega
                        subst e0 e1
                        go_wp2_with fail
                        refine (HI1.out _).mono ?_
                        rintro e1 wa ⟨rfl, rfl⟩
                        go_wp2_with fail
                        refine (HI2.out _).mono ?_
                        rintro e1 wa ⟨rfl, rfl⟩
                        go_wp2
                        go_ret
                        exact ⟨ret_int HG.out.symm, HBA.out⟩
                      · have e0' : (xf == 0) = false := by simpa using e0
                        go_wp2_with fail
                        refine (HI1.out _).mono ?_
                        rintro e1 wa ⟨rfl, rfl⟩
                        go_wp2_with fail
                        refine (HI2.out _).mono ?_
                        rintro e1 wa ⟨rfl, rfl⟩
                        go_wp2
                        go_ret
                        exact ⟨ret_int HG.out.symm, HBA.out⟩
                    · have tt : (decide (0 ≤ xu) && decide (xu ≤ 4611686018427387903)) = true := by simp; omega
                      rw [tt] at HI2
                      have HG := Lib.hid (HOKK.out (by rw [decide_eq_true_eq]; omega))
                      by_cases e0 : xf = 0
                      · have e1 : xs = 0 := by omega
                        subst e0 e1
                        go_wp2_with fail
                        refine (HI1.out _).mono ?_
                        rintro e1 wa ⟨rfl, rfl⟩
                        go_wp2_with fail
                        refine (HI2.out _).mono ?_
                        rintro e1 wa ⟨rfl, rfl⟩
                        go_wp2
                        go_roundw
                        case rel => exact ⟨k + 1, by omega, by go_num, HBA, HG⟩
                        case measure => simp [intOf]; omega
                      · have e0' : (xf == 0) = false := by simpa using e0
                        go_wp2_with fail
                        refine (HI1.out _).mono ?_
                        rintro e1 wa ⟨rfl, rfl⟩
                        go_wp2_with fail
                        refine (HI2.out _).mono ?_
                        rintro e1 wa ⟨rfl, rfl⟩
                        go_wp2
                        go_roundw
                        case rel => exact ⟨k + 1, by omega, by go_num, HBA, HG⟩
                        case measure => simp [intOf]; omega
          · have hlt2 : ¬ k < l.length := by have := HL.out; omega
            have hF := HF.out
            rw [List.drop_eq_nil_of_le (by omega)] at hF
            have HG := Lib.hid (show mayE r l s = 0 by rw [HE.out, if_pos (by rw [← hF]; rfl)])
            clear hF HF
            go_wp2
            go_ret
            exact ⟨ret_int HG.out.symm, HB.out⟩
      · have HG := Lib.hid (show mayE r l s = 150 by unfold mayE; rw [if_neg]; rintro ⟨_, _, h, _⟩; exact hl h)
        have hl' : ¬ (l.length : Int) = (s.length : Int) := by omega
        clear hl hr hc
        go_wp2
        go_ret
        exact ⟨ret_int HG.out.symm, B3.out⟩
    · have HG := Lib.hid (show mayE r l s = 150 by unfold mayE; rw [if_neg]; rintro ⟨_, h, _⟩; rw [h] at hc; cases hc)
      generalize chk l = c at *
      clear hr
      go_wp2_with fail
      refine HC.out.mono ?_
      rintro e w3 ⟨rfl, b3⟩
      have B3 := Lib.hid (B2.out.trans (b3.mono B2.out.size))
      clear b3 HC
      go_wp2
      go_ret
      exact ⟨ret_int HG.out.symm, B3.out⟩
  · have HG := Lib.hid (show mayE r l s = 150 by unfold mayE; rw [if_neg]; rintro ⟨h, _⟩; rw [hr] at h; cases h)
    rw [hr] at HR
    clear hr
    go_enter Tryz.func120, Tryz.ntmps120
    go_wp2_with fail
    refine HR.out.mono ?_
    rintro e w2 ⟨rfl, b2⟩
    have B2 := Lib.hid (B1.out.trans (b2.mono B1.out.size))
    clear b2
    go_wp2
    go_ret
    exact ⟨ret_int HG.out.symm, B2.out⟩
theorem makeSeatsR (n : Nat) (h1 : 1 ≤ n) (h2 : n ≤ 32) (w : World) : Calls Tryz.prog 29 #[.int .i64 n] w fun e w' => ∃ v, e = .returned (.tuple #[v, .int .i64 0]) ∧ OwnS w' w.heap.size 138 3 stL v (List.replicate n ⟨0, 0, 0⟩) ∧ Below w.heap.size w w' := by
  have h3 : ¬ (n : Int) < 1 := by omega
  have h4 : ¬ (32 : Int) < n := by omega
  obtain ⟨i0, hi, hz0, hz1, hz2⟩ := info_parts info50
  obtain ⟨w', hm, hown, hg⟩ := run_makeSlice_full (P := Tryz.prog) w w.heap.size 55 138 i0 _ 3 Tryz.underlying55 hi hz0 hz1 .i64 .i64 n (by omega) (by rw [hz2]; omega) (by unfold maxLen; omega) (Nat.le_refl _)
  have hz : (madeCells (Value.agg #[.int .i64 0, .int .i64 0, .int .i64 0]).cells (n * 3)).toList = (List.replicate n (⟨0, 0, 0⟩ : St)).flatMap stL := by
    rw [zeros_flat, List.eq_replicate_iff]
    refine ⟨by simp [madeCells], fun b hb => ?_⟩
    change b ∈ (madeCells #[.int .i64 0, .int .i64 0, .int .i64 0] (n * 3)).toList at hb
    unfold madeCells at hb
    rw [Array.toList_map, List.mem_map] at hb
    obtain ⟨i, _, rfl⟩ := hb
    have : i % 3 = 0 ∨ i % 3 = 1 ∨ i % 3 = 2 := by omega
    change (#[Value.int .i64 0, .int .i64 0, .int .i64 0] : Array Value)[i % 3]! = _
    rcases this with e | e | e <;> rw [e] <;> rfl
  rw [hz] at hown
  have HO := Lib.hid hown
  have HG := Lib.hid hg
  clear hown hz hi hz0 hz1 hz2 hg
  go_enter Tryz.func29, Tryz.ntmps29
  go_wp2
  go_ret2
  refine ⟨_, rfl, ⟨by simpa using HO.out, ?_⟩, ?_⟩
  · constructor
    · intro e; cases e
    · intro e; have := congrArg List.length e; simp at this; omega
  · exact ((Below.refl _ w).grown HG.out (Nat.le_refl _) (fun k e => by cases e))
end Go.Proofs.YtagpclgappcnbaaGreat.Be
namespace Go.Proofs.YtagpclgappcnbaaGreat.Be
open Go.RowKit

theorem ownsRow_pos {w : World} {base e k n : Nat} {v : Value} {xs : List Value} (h : w.ownsRow base e k v n xs) (hn : 0 < n) : ∃ g cap cur, v = .slice (some ⟨g, 0, none⟩) n cap ∧ base ≤ g ∧ obj w g = some (.cells cur e (0, 0)) ∧ n ≤ cap ∧ cap ≤ maxLen ∧ cur.size = cap * k ∧ cur.toList.take (n * k) = xs := by
  rcases h.2 with ⟨_, hq⟩ | ⟨g, cap', cur, h1, h2, h3, h4⟩
  · omega
  · exact ⟨g, cap', cur, h1, h2, h3, h4⟩
theorem withPost {w1 w' : World} {base bx : Nat} {v' : Value} {s : List St} {x : St} {i : Nat} (q1 : w'.ownsRow base 138 3 v' (0 + s.length) ([] ++ s.flatMap stL)) (q2 : w1.grownBy w' (Value.slice none 0 0).ownBlock) (o1 : obj w1 bx = some (.cells #[.int .i64 x.f, .int .i64 x.s, .int .i64 x.u] 138 (0, 0))) (hz1 : bx < w1.heap.size) (hi : i < s.length) :
    ∃ g cap' cur, v' = .slice (some ⟨g, 0, none⟩) s.length cap' ∧ base ≤ g ∧ g < w'.heap.size ∧ s.length ≤ cap' ∧ cap' ≤ maxLen ∧ cur.size = cap' * 3 ∧ cur.toList.take (s.length * 3) = s.flatMap stL ∧ w'.cell? ⟨bx, 0, none⟩ = some (.int .i64 x.f) ∧ w'.cell? ⟨bx, 1, none⟩ = some (.int .i64 x.s) ∧ w'.cell? ⟨bx, 2, none⟩ = some (.int .i64 x.u) ∧
      subOf (obj w' bx) 0 3 = some #[.int .i64 x.f, .int .i64 x.s, .int .i64 x.u] ∧ putOf (obj w' g) (i * 3) 3 #[.int .i64 x.f, .int .i64 x.s, .int .i64 x.u] = some (.cells (spliceA cur (i * 3) #[.int .i64 x.f, .int .i64 x.s, .int .i64 x.u]) 138 (0, 0)) := by
  obtain ⟨g, cap', cur, rfl, hg, hob, hc1, hc2, hc3, hc4⟩ := ownsRow_pos q1 (by omega)
  have hbx : obj w' bx = some (.cells #[.int .i64 x.f, .int .i64 x.s, .int .i64 x.u] 138 (0, 0)) := (q2.block bx hz1 (by simp [Value.ownBlock])).trans o1
  rw [Nat.zero_add] at hc1 hc4
  rw [List.nil_append] at hc4
  refine ⟨g, cap', cur, by rw [Nat.zero_add], hg, lt_of_obj hob, hc1, hc2, hc3, hc4, cell_at hbx 0, cell_at hbx 1, cell_at hbx 2, ?_, ?_⟩
  · rw [hbx, subOf_cells (by simp), subA_all (by simp)]
  · rw [hob, putOf_cells (by rw [hc3]; omega) (by simp) rfl]
set_option maxRecDepth 100000 in
set_option maxHeartbeats 1000000 in
/-- flurryref15.with -/
theorem with_any (w : World) (v : Value) (s : List St) (i : Nat) (x : St) (h : SlIn w v 3 stL s) (hi : i < s.length) (hlen : s.length ≤ 4096) : Calls Tryz.prog 121 #[v, .int .i64 i, stV x] w (RetOwn w 138 3 stL (s.set i x)) := by
  obtain ⟨oa, cap, rfl, g1, g2, g3⟩ := h
  obtain ⟨b, off, rfl, hbb, hrow⟩ := g3 (by omega)
  have b1 : Below w.heap.size w (w.alloc (.cells #[.int .i64 x.f, .int .i64 x.s, .int .i64 x.u] 138)) := (Below.refl _ _).alloc (Nat.le_refl _) _
  have o1 : obj (w.alloc (.cells #[.int .i64 x.f, .int .i64 x.s, .int .i64 x.u] 138)) w.heap.size = some (.cells #[.int .i64 x.f, .int .i64 x.s, .int .i64 x.u] 138 (0, 0)) := obj_alloc_at _ _ _ rfl
  have HC : Hid (∀ j u, (s.flatMap stL)[j]? = some u → (w.alloc (.cells #[.int .i64 x.f, .int .i64 x.s, .int .i64 x.u] 138)).cell? ⟨b, off + j, none⟩ = some u) := Lib.hid (fun j u hj => by
    rw [← row_cells stL_length (by decide) hrow hj]
    exact World.cell?_of_block (w := w) (a := ⟨b, off + j, none⟩) (obj_alloc_past _ _ _ hbb))
  have hsz : w.heap.size ≤ (w.alloc (.cells #[.int .i64 x.f, .int .i64 x.s, .int .i64 x.u] 138)).heap.size := b1.size
  have hz1 : w.heap.size < (w.alloc (.cells #[.int .i64 x.f, .int .i64 x.s, .int .i64 x.u] 138)).heap.size := lt_of_obj o1
  have B1 := Lib.hid b1
  have O1 := Lib.hid o1
  clear g3 hrow b1 o1
  simp only [stV]
  go_enter Tryz.func121, Tryz.ntmps121
  go_wp2_with (at_builtin; refine pushAll50 rfl _ _ rfl (w.heap.size + 1) (.slice none 0 0) 0 [] rfl (World.ownsRow_nil _ _ _ _) b off cap s rfl HC.out (by omega) (by simp) ?_; intro v' w' q1 q2 q3; obtain ⟨g, cap', cur, rfl, hg, hgz, hc1, hc2, hc3, hc4, x0, x1, x2, sx, hput⟩ := withPost q1 q2 O1.out hz1 hi; have Q2 := Lib.hid q2; clear q1 q2 q3)
  go_ret
  refine ⟨_, rfl, ?_⟩
  have hb' : Below w.heap.size w w' := B1.out.grown Q2.out (by simp) (fun k e => by simp [Value.ownBlock] at e)
  have hss : (spliceA cur (i * 3) #[.int .i64 x.f, .int .i64 x.s, .int .i64 x.u]).size = cur.size := size_spliceA (by simp; omega)
  have hrw := row_upd (y := x) hc4 hi (by rw [hc3]; omega) hss (fun j j0 j1 j2 => by rw [splice_get _ _ _ _ (by simp; omega), if_neg (by simp; omega)]) (by rw [splice_get _ _ _ _ (by simp; omega), if_pos (by simp)]; simp) (by rw [splice_get _ _ _ _ (by simp; omega), if_pos (by simp)]; simp) (by rw [splice_get _ _ _ _ (by simp; omega), if_pos (by simp)]; simp)
  have ht := turnPost_of (w := w) (W' := putObj w' g (.cells (spliceA cur (i * 3) #[.int .i64 x.f, .int .i64 x.s, .int .i64 x.u]) 138)) hi (by omega) (obj_putObj_eq _ _ _ hgz) (hss.trans hc3) hc1 hc2 hrw (below_putObj hb' (by omega) _)
  exact ht
end Go.Proofs.YtagpclgappcnbaaGreat.Be
namespace Go.Proofs.YtagpclgappcnbaaGreat.Be
open Go.RowKit

/-! ### Failed and Replied, of what may not be -/
theorem out_of {i a b : Int} (h : i < 0 ∨ a ≤ i) (e : a = b) : i < 0 ∨ ¬ i < 0 ∧ a ≤ i ∧ b ≤ i := by omega
set_option maxRecDepth 100000 in
set_option maxHeartbeats 1000000 in
theorem failedA_150 (w : World) (r : Rul) (v1 v2 : Value) (l : List Vd) (s : List St) (i now : Int) (h : SlIn w v1 2 vdL l) (h2 : SlIn w v2 3 stL s) (hm : mayE r l s = 150) :
    Calls Tryz.prog 61 #[ruV r, v1, v2, .int .i64 i, .int .i64 now] w fun e w' => e = .returned (.tuple #[.slice none 0 0, .bool false, .int .i64 150]) ∧ Below w.heap.size w w' := by
  have b1 : Below w.heap.size w ((w.alloc (.cells (ruC r) 25)).alloc (.cells #[.int .i64 now] 2)) := (((Below.refl _ _).alloc (Nat.le_refl _) _).alloc (by simp) _)
  have o2 : obj ((w.alloc (.cells (ruC r) 25)).alloc (.cells #[.int .i64 now] 2)) (w.heap.size + 1) = some (.cells #[.int .i64 now] 2 (0, 0)) := obj_alloc_at _ _ _ (by simp)
  have HM := Lib.hid (mayL_any _ r v1 v2 l s (h.below b1) (h2.below b1))
  rw [hm] at HM
  have HS2 := Lib.hid h2
  obtain ⟨oa, cap, rfl, g1, g2, g3⟩ := h
  unfold maxLen at g2
  obtain ⟨oa2, cap2, rfl, k1, k2, k3⟩ := h2
  unfold maxLen at k2
  have B1 := Lib.hid b1
  clear g3 k3 b1 hm o2
  simp only [ruV, ruC] at *
  go_enter Tryz.func61, Tryz.ntmps61
  go_wp2_with fail
  generalize ((w.alloc (.cells #[.int .i64 r.f, .int .i64 r.lo, .int .i64 r.fo, .int .i64 r.nu, .int .i64 r.de] 25)).alloc (.cells #[.int .i64 now] 2)) = w1 at *
  refine HM.out.mono ?_
  rintro e w2 ⟨rfl, b2⟩
  go_wp2
  refine bodyPost_ret (v := .tuple #[.slice none 0 0, .bool false, .int .i64 150]) (by simp [results, Tryz.results61, go_sem]) rfl ⟨rfl, B1.out.trans (b2.mono B1.out.size)⟩
set_option maxRecDepth 100000 in
set_option maxHeartbeats 1000000 in
theorem failedA_4 (w : World) (r : Rul) (v1 v2 : Value) (l : List Vd) (s : List St) (i now : Int) (h : SlIn w v1 2 vdL l) (h2 : SlIn w v2 3 stL s) (hm : mayE r l s = 0) (hi : i < 0 ∨ (s.length : Int) ≤ i) :
    Calls Tryz.prog 61 #[ruV r, v1, v2, .int .i64 i, .int .i64 now] w fun e w' => e = .returned (.tuple #[.slice none 0 0, .bool false, .int .i64 4]) ∧ Below w.heap.size w w' := by
  have b1 : Below w.heap.size w ((w.alloc (.cells (ruC r) 25)).alloc (.cells #[.int .i64 now] 2)) := (((Below.refl _ _).alloc (Nat.le_refl _) _).alloc (by simp) _)
  have o2 : obj ((w.alloc (.cells (ruC r) 25)).alloc (.cells #[.int .i64 now] 2)) (w.heap.size + 1) = some (.cells #[.int .i64 now] 2 (0, 0)) := obj_alloc_at _ _ _ (by simp)
  have HM := Lib.hid (mayL_any _ r v1 v2 l s (h.below b1) (h2.below b1))
  rw [hm] at HM
  have hl := (mayE_0 hm).2.2.1
  have HS2 := Lib.hid h2
  obtain ⟨oa, cap, rfl, g1, g2, g3⟩ := h
  unfold maxLen at g2
  obtain ⟨oa2, cap2, rfl, k1, k2, k3⟩ := h2
  unfold maxLen at k2
  have B1 := Lib.hid b1
  have hi' : i < 0 ∨ ¬ i < 0 ∧ (s.length : Int) ≤ i ∧ (l.length : Int) ≤ i := out_of hi (by rw [hl])
  clear g3 k3 b1 hm hi hl o2
  simp only [ruV, ruC] at *
  rcases hi' with hi | ⟨hi0, hi1, hi2⟩
  · go_enter Tryz.func61, Tryz.ntmps61
    go_wp2_with fail
    generalize ((w.alloc (.cells #[.int .i64 r.f, .int .i64 r.lo, .int .i64 r.fo, .int .i64 r.nu, .int .i64 r.de] 25)).alloc (.cells #[.int .i64 now] 2)) = w1 at *
    refine HM.out.mono ?_
    rintro e w2 ⟨rfl, b2⟩
    go_wp2
    refine bodyPost_ret (v := .tuple #[.slice none 0 0, .bool false, .int .i64 4]) (by simp [results, Tryz.results61, go_sem]) rfl ⟨rfl, B1.out.trans (b2.mono B1.out.size)⟩
  · go_enter Tryz.func61, Tryz.ntmps61
    go_wp2_with fail
    generalize ((w.alloc (.cells #[.int .i64 r.f, .int .i64 r.lo, .int .i64 r.fo, .int .i64 r.nu, .int .i64 r.de] 25)).alloc (.cells #[.int .i64 now] 2)) = w1 at *
    refine HM.out.mono ?_
    rintro e w2 ⟨rfl, b2⟩
    go_wp2
    refine bodyPost_ret (v := .tuple #[.slice none 0 0, .bool false, .int .i64 4]) (by simp [results, Tryz.results61, go_sem]) rfl ⟨rfl, B1.out.trans (b2.mono B1.out.size)⟩
set_option maxRecDepth 100000 in
set_option maxHeartbeats 1000000 in
theorem failedA_131 (w : World) (r : Rul) (v1 v2 : Value) (l : List Vd) (s : List St) (i now : Int) (h : SlIn w v1 2 vdL l) (h2 : SlIn w v2 3 stL s) (hm : mayE r l s = 0) (hi : 0 ≤ i ∧ i < s.length) (hn : now < 0 ∨ 4611686018427387903 < now) :
    Calls Tryz.prog 61 #[ruV r, v1, v2, .int .i64 i, .int .i64 now] w fun e w' => e = .returned (.tuple #[.slice none 0 0, .bool false, .int .i64 131]) ∧ Below w.heap.size w w' := by
  have b1 : Below w.heap.size w ((w.alloc (.cells (ruC r) 25)).alloc (.cells #[.int .i64 now] 2)) := (((Below.refl _ _).alloc (Nat.le_refl _) _).alloc (by simp) _)
  have o2 : obj ((w.alloc (.cells (ruC r) 25)).alloc (.cells #[.int .i64 now] 2)) (w.heap.size + 1) = some (.cells #[.int .i64 now] 2 (0, 0)) := obj_alloc_at _ _ _ (by simp)
  have HM := Lib.hid (mayL_any _ r v1 v2 l s (h.below b1) (h2.below b1))
  rw [hm] at HM
  have hl := (mayE_0 hm).2.2.1
  have HS2 := Lib.hid h2
  obtain ⟨oa, cap, rfl, g1, g2, g3⟩ := h
  unfold maxLen at g2
  obtain ⟨oa2, cap2, rfl, k1, k2, k3⟩ := h2
  unfold maxLen at k2
  have B1 := Lib.hid b1
  have hi1 : ¬ i < 0 := by omega
  have hi2 : ¬ (s.length : Int) ≤ i := by omega
  have hi3 : ¬ (l.length : Int) ≤ i := by omega
  have hn' : now < 0 ∨ ¬ now < 0 ∧ 4611686018427387903 < now := by omega
  clear g3 k3 b1 hm hi hl hn
  simp only [ruV, ruC] at *
  rcases hn' with hn | ⟨hn0, hn1⟩
  · go_enter Tryz.func61, Tryz.ntmps61
    go_wp2_with fail
    generalize ((w.alloc (.cells #[.int .i64 r.f, .int .i64 r.lo, .int .i64 r.fo, .int .i64 r.nu, .int .i64 r.de] 25)).alloc (.cells #[.int .i64 now] 2)) = w1 at *
    refine HM.out.mono ?_
    rintro e w2 ⟨rfl, b2⟩
    have p2 := (obj_below b2 (lt_of_obj o2)).trans o2
    have z2 := lt_of_obj p2
    have q0 : w2.cell? ⟨w.heap.size + 1, 0, none⟩ = some (.int .i64 now) := cell_at p2 0
    go_wp2
    refine bodyPost_ret (v := .tuple #[.slice none 0 0, .bool false, .int .i64 131]) (by simp [results, Tryz.results61, go_sem]) rfl ⟨rfl, B1.out.trans (b2.mono B1.out.size)⟩
  · go_enter Tryz.func61, Tryz.ntmps61
    go_wp2_with fail
    generalize ((w.alloc (.cells #[.int .i64 r.f, .int .i64 r.lo, .int .i64 r.fo, .int .i64 r.nu, .int .i64 r.de] 25)).alloc (.cells #[.int .i64 now] 2)) = w1 at *
    refine HM.out.mono ?_
    rintro e w2 ⟨rfl, b2⟩
    have p2 := (obj_below b2 (lt_of_obj o2)).trans o2
    have z2 := lt_of_obj p2
    have q0 : w2.cell? ⟨w.heap.size + 1, 0, none⟩ = some (.int .i64 now) := cell_at p2 0
    go_wp2
    refine bodyPost_ret (v := .tuple #[.slice none 0 0, .bool false, .int .i64 131]) (by simp [results, Tryz.results61, go_sem]) rfl ⟨rfl, B1.out.trans (b2.mono B1.out.size)⟩
set_option maxRecDepth 100000 in
set_option maxHeartbeats 1000000 in
theorem failedR_150 (w : World) (r : Rul) (v1 v2 : Value) (l : List Vd) (s : List St) (i now : Int) (h : SlIn w v1 2 vdL l) (h2 : SlIn w v2 3 stL s) (hN : ∀ x ∈ l, x.name.size ≤ 300) (hm : mayE r l s = 150) :
    Calls Tryz.prog 82 #[ruV r, v1, v2, .int .i64 i, .int .i64 now] w fun e w' => e = .returned (.tuple #[.slice none 0 0, .bool false, .int .i64 150]) ∧ Below w.heap.size w w' := by
  have b1 : Below w.heap.size w (w.alloc (.cells (ruC r) 25)) := ((Below.refl _ _).alloc (Nat.le_refl _) _)
  have HM := Lib.hid (mayR_any _ r v1 v2 l s (h.below b1) (h2.below b1) hN)
  rw [hm] at HM
  have HS2 := Lib.hid h2
  obtain ⟨oa, cap, rfl, g1, g2, g3⟩ := h
  unfold maxLen at g2
  obtain ⟨oa2, cap2, rfl, k1, k2, k3⟩ := h2
  unfold maxLen at k2
  have B1 := Lib.hid b1
  clear g3 k3 b1 hm
  simp only [ruV, ruC] at *
  go_enter Tryz.func82, Tryz.ntmps82
  go_wp2_with fail
  generalize (w.alloc (.cells #[.int .i64 r.f, .int .i64 r.lo, .int .i64 r.fo, .int .i64 r.nu, .int .i64 r.de] 25)) = w1 at *
  refine HM.out.mono ?_
  rintro e w2 ⟨rfl, b2⟩
  go_wp2
  refine bodyPost_ret (v := .tuple #[.slice none 0 0, .bool false, .int .i64 150]) (by simp [results, Tryz.results82, go_sem]) rfl ⟨rfl, B1.out.trans (b2.mono B1.out.size)⟩
set_option maxRecDepth 100000 in
set_option maxHeartbeats 1000000 in
theorem failedR_4 (w : World) (r : Rul) (v1 v2 : Value) (l : List Vd) (s : List St) (i now : Int) (h : SlIn w v1 2 vdL l) (h2 : SlIn w v2 3 stL s) (hN : ∀ x ∈ l, x.name.size ≤ 300) (hm : mayE r l s = 0) (hi : i < 0 ∨ (s.length : Int) ≤ i) :
    Calls Tryz.prog 82 #[ruV r, v1, v2, .int .i64 i, .int .i64 now] w fun e w' => e = .returned (.tuple #[.slice none 0 0, .bool false, .int .i64 4]) ∧ Below w.heap.size w w' := by
  have b1 : Below w.heap.size w (w.alloc (.cells (ruC r) 25)) := ((Below.refl _ _).alloc (Nat.le_refl _) _)
  have HM := Lib.hid (mayR_any _ r v1 v2 l s (h.below b1) (h2.below b1) hN)
  rw [hm] at HM
  have hl := (mayE_0 hm).2.2.1
  have HS2 := Lib.hid h2
  obtain ⟨oa, cap, rfl, g1, g2, g3⟩ := h
  unfold maxLen at g2
  obtain ⟨oa2, cap2, rfl, k1, k2, k3⟩ := h2
  unfold maxLen at k2
  have B1 := Lib.hid b1
  have hi' : i < 0 ∨ ¬ i < 0 ∧ (s.length : Int) ≤ i ∧ (l.length : Int) ≤ i := out_of hi (by rw [hl])
  clear g3 k3 b1 hm hi hl
  simp only [ruV, ruC] at *
  rcases hi' with hi | ⟨hi0, hi1, hi2⟩
  · go_enter Tryz.func82, Tryz.ntmps82
    go_wp2_with fail
    generalize (w.alloc (.cells #[.int .i64 r.f, .int .i64 r.lo, .int .i64 r.fo, .int .i64 r.nu, .int .i64 r.de] 25)) = w1 at *
    refine HM.out.mono ?_
    rintro e w2 ⟨rfl, b2⟩
    go_wp2
    refine bodyPost_ret (v := .tuple #[.slice none 0 0, .bool false, .int .i64 4]) (by simp [results, Tryz.results82, go_sem]) rfl ⟨rfl, B1.out.trans (b2.mono B1.out.size)⟩
  · go_enter Tryz.func82, Tryz.ntmps82
    go_wp2_with fail
    generalize (w.alloc (.cells #[.int .i64 r.f, .int .i64 r.lo, .int .i64 r.fo, .int .i64 r.nu, .int .i64 r.de] 25)) = w1 at *
    refine HM.out.mono ?_
    rintro e w2 ⟨rfl, b2⟩
    go_wp2
    refine bodyPost_ret (v := .tuple #[.slice none 0 0, .bool false, .int .i64 4]) (by simp [results, Tryz.results82, go_sem]) rfl ⟨rfl, B1.out.trans (b2.mono B1.out.size)⟩
set_option maxRecDepth 100000 in
set_option maxHeartbeats 1000000 in
theorem failedR_131 (w : World) (r : Rul) (v1 v2 : Value) (l : List Vd) (s : List St) (i now : Int) (h : SlIn w v1 2 vdL l) (h2 : SlIn w v2 3 stL s) (hN : ∀ x ∈ l, x.name.size ≤ 300) (hm : mayE r l s = 0) (hi : 0 ≤ i ∧ i < s.length) (hn : now < 0 ∨ 4611686018427387903 < now) :
    Calls Tryz.prog 82 #[ruV r, v1, v2, .int .i64 i, .int .i64 now] w fun e w' => e = .returned (.tuple #[.slice none 0 0, .bool false, .int .i64 131]) ∧ Below w.heap.size w w' := by
  have b1 : Below w.heap.size w (w.alloc (.cells (ruC r) 25)) := ((Below.refl _ _).alloc (Nat.le_refl _) _)
  have HM := Lib.hid (mayR_any _ r v1 v2 l s (h.below b1) (h2.below b1) hN)
  rw [hm] at HM
  have hl := (mayE_0 hm).2.2.1
  have HIN := Lib.hid (fun W => in_any now 4611686018427387903 W)
  rw [show (decide (0 ≤ now) && decide (now ≤ 4611686018427387903)) = false by simp; omega] at HIN
  have HS2 := Lib.hid h2
  obtain ⟨oa, cap, rfl, g1, g2, g3⟩ := h
  unfold maxLen at g2
  obtain ⟨oa2, cap2, rfl, k1, k2, k3⟩ := h2
  unfold maxLen at k2
  have B1 := Lib.hid b1
  have hi1 : ¬ i < 0 := by omega
  have hi2 : ¬ (s.length : Int) ≤ i := by omega
  have hi3 : ¬ (l.length : Int) ≤ i := by omega
  have hn' : now < 0 ∨ ¬ now < 0 ∧ 4611686018427387903 < now := by omega
  clear g3 k3 b1 hm hi hl hn
  simp only [ruV, ruC] at *
  rcases hn' with hn | ⟨hn0, hn1⟩
  · go_enter Tryz.func82, Tryz.ntmps82
    go_wp2_with fail
    generalize (w.alloc (.cells #[.int .i64 r.f, .int .i64 r.lo, .int .i64 r.fo, .int .i64 r.nu, .int .i64 r.de] 25)) = w1 at *
    refine HM.out.mono ?_
    rintro e w2 ⟨rfl, b2⟩
    go_wp2_with fail
    refine (HIN.out _).mono ?_
    rintro e w3 ⟨rfl, rfl⟩
    go_wp2
    refine bodyPost_ret (v := .tuple #[.slice none 0 0, .bool false, .int .i64 131]) (by simp [results, Tryz.results82, go_sem]) rfl ⟨rfl, B1.out.trans (b2.mono B1.out.size)⟩
  · go_enter Tryz.func82, Tryz.ntmps82
    go_wp2_with fail
    generalize (w.alloc (.cells #[.int .i64 r.f, .int .i64 r.lo, .int .i64 r.fo, .int .i64 r.nu, .int .i64 r.de] 25)) = w1 at *
    refine HM.out.mono ?_
    rintro e w2 ⟨rfl, b2⟩
    go_wp2_with fail
    refine (HIN.out _).mono ?_
    rintro e w3 ⟨rfl, rfl⟩
    go_wp2
    refine bodyPost_ret (v := .tuple #[.slice none 0 0, .bool false, .int .i64 131]) (by simp [results, Tryz.results82, go_sem]) rfl ⟨rfl, B1.out.trans (b2.mono B1.out.size)⟩
set_option maxRecDepth 100000 in
set_option maxHeartbeats 1000000 in
theorem repliedA_150 (w : World) (r : Rul) (v1 v2 : Value) (l : List Vd) (s : List St) (i : Int) (h : SlIn w v1 2 vdL l) (h2 : SlIn w v2 3 stL s) (hm : mayE r l s = 150) :
    Calls Tryz.prog 64 #[ruV r, v1, v2, .int .i64 i] w fun e w' => e = .returned (.tuple #[.slice none 0 0, .int .i64 150]) ∧ Below w.heap.size w w' := by
  have b1 : Below w.heap.size w (w.alloc (.cells (ruC r) 25)) := (Below.refl _ _).alloc (Nat.le_refl _) _
  have HM := Lib.hid (mayL_any _ r v1 v2 l s (h.below b1) (h2.below b1))
  rw [hm] at HM
  obtain ⟨oa, cap, rfl, g1, g2, g3⟩ := h
  unfold maxLen at g2
  obtain ⟨oa2, cap2, rfl, k1, k2, k3⟩ := h2
  unfold maxLen at k2
  have B1 := Lib.hid b1
  clear g3 k3 b1 hm
  simp only [ruV, ruC] at *
  go_enter Tryz.func64, Tryz.ntmps64
  go_wp2_with fail
  generalize (w.alloc (.cells #[.int .i64 r.f, .int .i64 r.lo, .int .i64 r.fo, .int .i64 r.nu, .int .i64 r.de] 25)) = w1 at *
  refine HM.out.mono ?_
  rintro e w2 ⟨rfl, b2⟩
  go_wp2
  go_ret2
  exact ⟨rfl, B1.out.trans (b2.mono B1.out.size)⟩
set_option maxRecDepth 100000 in
set_option maxHeartbeats 1000000 in
theorem repliedA_4 (w : World) (r : Rul) (v1 v2 : Value) (l : List Vd) (s : List St) (i : Int) (h : SlIn w v1 2 vdL l) (h2 : SlIn w v2 3 stL s) (hm : mayE r l s = 0) (hi : i < 0 ∨ (s.length : Int) ≤ i) :
    Calls Tryz.prog 64 #[ruV r, v1, v2, .int .i64 i] w fun e w' => e = .returned (.tuple #[.slice none 0 0, .int .i64 4]) ∧ Below w.heap.size w w' := by
  have b1 : Below w.heap.size w (w.alloc (.cells (ruC r) 25)) := (Below.refl _ _).alloc (Nat.le_refl _) _
  have HM := Lib.hid (mayL_any _ r v1 v2 l s (h.below b1) (h2.below b1))
  rw [hm] at HM
  have hl := (mayE_0 hm).2.2.1
  obtain ⟨oa, cap, rfl, g1, g2, g3⟩ := h
  unfold maxLen at g2
  obtain ⟨oa2, cap2, rfl, k1, k2, k3⟩ := h2
  unfold maxLen at k2
  have B1 := Lib.hid b1
  have hi' : i < 0 ∨ ¬ i < 0 ∧ (s.length : Int) ≤ i ∧ (l.length : Int) ≤ i := out_of hi (by rw [hl])
  clear g3 k3 b1 hm hi hl
  simp only [ruV, ruC] at *
  rcases hi' with hi | ⟨hi0, hi1, hi2⟩
  · go_enter Tryz.func64, Tryz.ntmps64
    go_wp2_with fail
    generalize (w.alloc (.cells #[.int .i64 r.f, .int .i64 r.lo, .int .i64 r.fo, .int .i64 r.nu, .int .i64 r.de] 25)) = w1 at *
    refine HM.out.mono ?_
    rintro e w2 ⟨rfl, b2⟩
    go_wp2
    go_ret2
    exact ⟨rfl, B1.out.trans (b2.mono B1.out.size)⟩
  · go_enter Tryz.func64, Tryz.ntmps64
    go_wp2_with fail
    generalize (w.alloc (.cells #[.int .i64 r.f, .int .i64 r.lo, .int .i64 r.fo, .int .i64 r.nu, .int .i64 r.de] 25)) = w1 at *
    refine HM.out.mono ?_
    rintro e w2 ⟨rfl, b2⟩
    go_wp2
    go_ret2
    exact ⟨rfl, B1.out.trans (b2.mono B1.out.size)⟩
set_option maxRecDepth 100000 in
set_option maxHeartbeats 1000000 in
theorem repliedR_150 (w : World) (r : Rul) (v1 v2 : Value) (l : List Vd) (s : List St) (i : Int) (h : SlIn w v1 2 vdL l) (h2 : SlIn w v2 3 stL s) (hN : ∀ x ∈ l, x.name.size ≤ 300) (hm : mayE r l s = 150) :
    Calls Tryz.prog 80 #[ruV r, v1, v2, .int .i64 i] w fun e w' => e = .returned (.tuple #[.slice none 0 0, .int .i64 150]) ∧ Below w.heap.size w w' := by
  have b1 : Below w.heap.size w (w.alloc (.cells (ruC r) 25)) := (Below.refl _ _).alloc (Nat.le_refl _) _
  have HM := Lib.hid (mayR_any _ r v1 v2 l s (h.below b1) (h2.below b1) hN)
  rw [hm] at HM
  obtain ⟨oa, cap, rfl, g1, g2, g3⟩ := h
  unfold maxLen at g2
  obtain ⟨oa2, cap2, rfl, k1, k2, k3⟩ := h2
  unfold maxLen at k2
  have B1 := Lib.hid b1
  clear g3 k3 b1 hm
  simp only [ruV, ruC] at *
  go_enter Tryz.func80, Tryz.ntmps80
  go_wp2_with fail
  generalize (w.alloc (.cells #[.int .i64 r.f, .int .i64 r.lo, .int .i64 r.fo, .int .i64 r.nu, .int .i64 r.de] 25)) = w1 at *
  refine HM.out.mono ?_
  rintro e w2 ⟨rfl, b2⟩
  go_wp2
  go_ret2
  exact ⟨rfl, B1.out.trans (b2.mono B1.out.size)⟩
set_option maxRecDepth 100000 in
set_option maxHeartbeats 1000000 in
theorem repliedR_4 (w : World) (r : Rul) (v1 v2 : Value) (l : List Vd) (s : List St) (i : Int) (h : SlIn w v1 2 vdL l) (h2 : SlIn w v2 3 stL s) (hN : ∀ x ∈ l, x.name.size ≤ 300) (hm : mayE r l s = 0) (hi : i < 0 ∨ (s.length : Int) ≤ i) :
    Calls Tryz.prog 80 #[ruV r, v1, v2, .int .i64 i] w fun e w' => e = .returned (.tuple #[.slice none 0 0, .int .i64 4]) ∧ Below w.heap.size w w' := by
  have b1 : Below w.heap.size w (w.alloc (.cells (ruC r) 25)) := (Below.refl _ _).alloc (Nat.le_refl _) _
  have HM := Lib.hid (mayR_any _ r v1 v2 l s (h.below b1) (h2.below b1) hN)
  rw [hm] at HM
  have hl := (mayE_0 hm).2.2.1
  obtain ⟨oa, cap, rfl, g1, g2, g3⟩ := h
  unfold maxLen at g2
  obtain ⟨oa2, cap2, rfl, k1, k2, k3⟩ := h2
  unfold maxLen at k2
  have B1 := Lib.hid b1
  have hi' : i < 0 ∨ ¬ i < 0 ∧ (s.length : Int) ≤ i ∧ (l.length : Int) ≤ i := out_of hi (by rw [hl])
  clear g3 k3 b1 hm hi hl
  simp only [ruV, ruC] at *
  rcases hi' with hi | ⟨hi0, hi1, hi2⟩
  · go_enter Tryz.func80, Tryz.ntmps80
    go_wp2_with fail
    generalize (w.alloc (.cells #[.int .i64 r.f, .int .i64 r.lo, .int .i64 r.fo, .int .i64 r.nu, .int .i64 r.de] 25)) = w1 at *
    refine HM.out.mono ?_
    rintro e w2 ⟨rfl, b2⟩
    go_wp2
    go_ret2
    exact ⟨rfl, B1.out.trans (b2.mono B1.out.size)⟩
  · go_enter Tryz.func80, Tryz.ntmps80
    go_wp2_with fail
    generalize (w.alloc (.cells #[.int .i64 r.f, .int .i64 r.lo, .int .i64 r.fo, .int .i64 r.nu, .int .i64 r.de] 25)) = w1 at *
    refine HM.out.mono ?_
    rintro e w2 ⟨rfl, b2⟩
    go_wp2
    go_ret2
    exact ⟨rfl, B1.out.trans (b2.mono B1.out.size)⟩
set_option maxRecDepth 100000 in
set_option maxHeartbeats 1000000 in
/-- flurryref15.Replied, of what may be -/
theorem repliedR_any (w : World) (r : Rul) (v1 v2 : Value) (l : List Vd) (s : List St) (i : Nat) (h : SlIn w v1 2 vdL l) (h2 : SlIn w v2 3 stL s) (hN : ∀ x ∈ l, x.name.size ≤ 300) (hm : mayE r l s = 0) (hi : i < s.length) :
    Calls Tryz.prog 80 #[ruV r, v1, v2, .int .i64 i] w fun e w' => ∃ v, e = .returned (.tuple #[v, .int .i64 0]) ∧ OwnS w' w.heap.size 138 3 stL v (s.set i ⟨0, 0, s[i].u⟩) ∧ Below w.heap.size w w' := by
  have b1 : Below w.heap.size w (w.alloc (.cells (ruC r) 25)) := (Below.refl _ _).alloc (Nat.le_refl _) _
  have HM := Lib.hid (mayR_any _ r v1 v2 l s (h.below b1) (h2.below b1) hN)
  obtain ⟨_, hc, hl, _⟩ := mayE_0 hm
  obtain ⟨_, hl32, _, _⟩ := chk_32 hc
  have HS2 := Lib.hid h2
  rw [hm] at HM
  obtain ⟨oa, cap, rfl, g1, g2, g3⟩ := h
  unfold maxLen at g2
  obtain ⟨oa2, cap2, rfl, k1, k2, k3⟩ := h2
  unfold maxLen at k2
  have HL := Lib.hid hl
  have hi1 : ¬ (i : Int) < 0 := by omega
  have hi2 : ¬ (s.length : Int) ≤ (i : Int) := by omega
  have hs32 : s.length ≤ 4096 := by omega
  have B1 := Lib.hid b1
  obtain ⟨b, off, rfl, hbb, hrow⟩ := k3 (by omega)
  have HR := Lib.hid (hrow i hi)
  have hb0 : ∀ u W, (Instr.build 138 #[(2, .int .i64 u)]).run Tryz.prog W = .ok (.agg #[.int .i64 0, .int .i64 0, .int .i64 u]) W := fun u W => by kernel_rfl
  clear g3 k3 hm hc hl b1 hrow
  simp only [ruV, ruC] at *
  go_enter Tryz.func80, Tryz.ntmps80
  go_wp2_with fail
  generalize w.alloc (.cells #[.int .i64 r.f, .int .i64 r.lo, .int .i64 r.fo, .int .i64 r.nu, .int .i64 r.de] 25) = w1 at *
  refine HM.out.mono ?_
  rintro e w2 ⟨rfl, b2⟩
  have B2 := Lib.hid (B1.out.trans (b2.mono B1.out.size))
  have hs2 := HR.out
  rw [← obj_below B2.out hbb] at hs2
  have c2 : w2.cell? ⟨b, off + i * 3 + 2, none⟩ = some (.int .i64 s[i].u) := by have := subOf_cell hs2 (j := 2) (by decide); simpa using this
  have HWI := Lib.hid (with_any w2 _ s i ⟨0, 0, s[i].u⟩ (HS2.out.below B2.out) hi hs32)
  simp only [stV] at HWI
  clear b2 HM hs2 HR
  go_wp2_with fail
  refine HWI.out.mono ?_
  rintro e w3 ⟨v3, rfl, q3, b3⟩
  go_wp2
  go_ret2
  exact ⟨v3, rfl, q3.rebase B2.out.size, B2.out.trans (b3.mono B2.out.size)⟩
end Go.Proofs.YtagpclgappcnbaaGreat.Be
namespace Go.Proofs.YtagpclgappcnbaaGreat.Be
open Go.RowKit

set_option maxRecDepth 100000 in
set_option maxHeartbeats 2000000 in
/-- flurryref15.Failed, of one that is benched already -/
theorem failedR_is (w : World) (r : Rul) (v1 v2 : Value) (l : List Vd) (s : List St) (i : Nat) (now : Int) (h : SlIn w v1 2 vdL l) (h2 : SlIn w v2 3 stL s) (hN : ∀ x ∈ l, x.name.size ≤ 300) (hm : mayE r l s = 0) (hi : i < s.length) (hn0 : 0 ≤ now) (hn1 : now ≤ 4611686018427387903) (hnot : isB s (i : Int) now = true) :
    Calls Tryz.prog 82 #[ruV r, v1, v2, .int .i64 i, .int .i64 now] w fun e w' => ∃ v : Value, e = .returned (.tuple #[v, .bool false, .int .i64 0]) ∧ OwnS w' w.heap.size 138 3 stL v s ∧ Below w.heap.size w w' := by
  have b1 : Below w.heap.size w (w.alloc (.cells (ruC r) 25)) := (Below.refl _ _).alloc (Nat.le_refl _) _
  have o1 : obj (w.alloc (.cells (ruC r) 25)) w.heap.size = some (.cells (ruC r) 25 (0, 0)) := obj_alloc_at _ _ _ rfl
  have HM := Lib.hid (mayR_any _ r v1 v2 l s (h.below b1) (h2.below b1) hN)
  obtain ⟨hre, hc, hl, hall⟩ := mayE_0 hm
  obtain ⟨_, hl32, _, _⟩ := chk_32 hc
  have HS := Lib.hid h
  have HS2 := Lib.hid h2
  have HNN := Lib.hid hN
  have HMM := Lib.hid hm
  have hq := ruleE_n hre
  have hx := mayB_n (mayE_at hm hi)
  rw [hm] at HM
  obtain ⟨oa, cap, rfl, g1, g2, g3⟩ := h
  unfold maxLen at g2
  obtain ⟨oa2, cap2, rfl, k1, k2, k3⟩ := h2
  unfold maxLen at k2
  have HL := Lib.hid hl
  have hi1 : ¬ (i : Int) < 0 := by omega
  have hi2 : ¬ (s.length : Int) ≤ (i : Int) := by omega
  have hi3 : i < l.length := by omega
  have hil : (i : Int) < (l.length : Int) := by omega
  obtain ⟨b, off, rfl, hbb, hrow⟩ := g3 (by omega)
  obtain ⟨b2, off2, rfl, hbb2, hrow2⟩ := k3 (by omega)
  have HR1 := Lib.hid (hrow i hi3)
  have HR2 := Lib.hid (hrow2 i hi)
  have HWA : Hid (wtA l (i : Int) = l[i].wt) := Lib.hid (by unfold wtA; simp [List.getD, hi3])
  have B1 := Lib.hid b1
  have O1 := Lib.hid o1
  have HNOT := Lib.hid hnot
  have HIN := Lib.hid (fun W => in_any now 4611686018427387903 W)
  rw [show (decide (0 ≤ now) && decide (now ≤ 4611686018427387903)) = true by simp; omega] at HIN
  clear g3 k3 hm hc hl b1 o1 hall hrow hrow2 hnot hre
  simp only [ruV, ruC] at *
  go_enter Tryz.func82, Tryz.ntmps82
  go_wp2_with fail
  generalize (w.alloc (.cells #[.int .i64 r.f, .int .i64 r.lo, .int .i64 r.fo, .int .i64 r.nu, .int .i64 r.de] 25)) = w1 at *
  refine HM.out.mono ?_
  rintro e w2 ⟨rfl, b2'⟩
  have B2 := Lib.hid (B1.out.trans (b2'.mono B1.out.size))
  have O2 := Lib.hid ((obj_below b2' (lt_of_obj O1.out)).trans O1.out)
  have HIS := Lib.hid (isR_any w2 _ s (i : Int) now (HS2.out.below B2.out))
  rw [HNOT.out] at HIS
  clear b2' HM B1 O1
  go_wp2_with fail
  refine (HIN.out _).mono ?_
  rintro e w3 ⟨rfl, rfl⟩
  go_wp2_with fail
  refine HIS.out.mono ?_
  rintro e w3 ⟨rfl, rfl⟩
  have hs2 := HR2.out
  rw [← obj_below B2.out hbb2] at hs2
  have hbl2 : b2 < w2.heap.size := Nat.lt_of_lt_of_le hbb2 B2.out.size
  have HWI := Lib.hid (with_any w2 _ s i s[i] (HS2.out.below B2.out) hi (by have := HL.out; omega))
  rw [List.set_getElem_self] at HWI
  generalize s[i] = x at hs2 hx HWI
  obtain ⟨xf, xs, xu⟩ := x
  simp only [stL, stV] at hs2 HWI
  clear HIS HNOT HIN HR2
  go_wp2_with fail
  refine HWI.out.mono ?_
  rintro e w9 ⟨v9, rfl, q9, b9⟩
  go_wp2
  refine bodyPost_ret (v := .tuple #[v9, .bool false, .int .i64 0]) (by simp [results, Tryz.results82, go_sem]) rfl ⟨v9, rfl, q9.rebase B2.out.size, B2.out.trans (b9.mono B2.out.size)⟩
end Go.Proofs.YtagpclgappcnbaaGreat.Be
namespace Go.Proofs.YtagpclgappcnbaaGreat.Be
open Go.RowKit

set_option maxRecDepth 100000 in
set_option maxHeartbeats 1000000 in
/-- flurryref15.Stake -/
theorem stakeR_any (w : World) (v1 v2 : Value) (l : List Vd) (s : List St) (now : Int) (h : SlIn w v1 2 vdL l) (h2 : SlIn w v2 3 stL s) (hN : ∀ x ∈ l, x.name.size ≤ 300) :
    Calls Tryz.prog 122 #[v1, v2, .int .i64 now] w fun e w' => e = .returned (.int .i64 (stkI l s now)) ∧ Below w.heap.size w w' := by
  have HK := Lib.hid (fun W (hb : Below w.heap.size w W) => checkB W v1 l (h.below hb) hN)
  have HS := Lib.hid h
  have HS2 := Lib.hid h2
  obtain ⟨oa, cap, rfl, g1, g2, g3⟩ := h
  obtain ⟨oa2, cap2, rfl, k1, k2, k3⟩ := h2
  unfold maxLen at g2 k2
  have H3 := Lib.hid g3
  clear g3 k3
  rcases chk_cases l with hc | hc
  · rw [hc] at HK
    by_cases hl : s.length = l.length
    · obtain ⟨_, _, _, hw⟩ := chk_32 hc
      obtain ⟨s0, s1, s2⟩ := wtsF_sum _ _ hw (by decide)
      have HT := Lib.hid (show stkI l s now = stkF l (blL s now) from if_pos ⟨hc, hl⟩)
      have HP := Lib.hid (stkF_pos s2)
      have HT2 := Lib.hid (stkF_le s2 hl (List.prefix_refl (blL s now)))
      have HW := Lib.hid s2
      have HL := Lib.hid hl
      have hl' : (l.length : Int) = (s.length : Int) := by omega
      have HLs : Hid ((l.length : Int) = (s.length : Int)) := Lib.hid hl'
      clear hc hw s2 s0 hl hl'
      go_enter Tryz.func122, Tryz.ntmps122
      go_wp2
      go_loopw [7, 8] (fun v7 v8 wr => ∃ (k : Nat) (n : Int), k ≤ s.length ∧ v8 = .int .i64 k ∧ v7 = .int .i64 n ∧ 0 ≤ n ∧ Hid (Below w.heap.size w wr) ∧ Hid (n + stkF l (blF now (s.drop k) k) = stkF l (blL s now))) (fun _ i _ => s.length - (intOf i).toNat)
      case atStart => exact ⟨0, 0, Nat.zero_le _, rfl, rfl, by decide, Lib.hid (Below.refl _ _), Lib.hid (by simp [blL])⟩
      case round =>
        obtain ⟨k, n, hk, rfl, rfl, hn0, HB, HF⟩ := hrel
        by_cases hlt : k < s.length
        · have hkl : k < l.length := by have := HL.out; omega
          obtain ⟨b, off, hoa, hbb, hrow⟩ := H3.out (by omega)
          subst hoa
          have hs1 := hrow k hkl
          have hF := HF.out
          rw [List.drop_eq_getElem_cons hlt, blF_cons] at hF
          have HC := Lib.hid (HK.out wr HB.out)
          have HI := Lib.hid (fun W (hb : Below w.heap.size w W) => isR_any W _ s (k : Int) now (HS2.out.below hb))
          rw [isB_at s k hlt] at HI
          have hrest := HP.out (blF now (s.drop (k + 1)) (k + 1))
          have htot := HT2.out
          have hwk := HW.out _ (List.getElem_mem hkl)
          have hgw : wtA l (k : Int) = l[k].wt := by unfold wtA; simp [List.getD, hkl]
          have hl' := HLs.out
          have hk' : (k : Int) < (l.length : Int) := by omega
          generalize s[k] = x at *
          generalize l[k] = y at *
          obtain ⟨yn, yw⟩ := y
          simp only [vdL] at hs1
          simp only at hwk hgw
          clear hrow HF
          by_cases hc : 0 ≤ now ∧ now < x.u
          · rw [if_pos hc] at hF
            rw [decide_eq_true hc] at HI
            simp only [stkF, hgw] at hF
            have HG : Hid (n + yw + stkF l (blF now (s.drop (k + 1)) (k + 1)) = stkF l (blL s now)) := Lib.hid (by omega)
            have hx1 : n + yw ≤ 4611686018427387903 := by omega
            clear hF hc hgw hrest htot
            go_wp2_with fail
            refine HC.out.mono ?_
            rintro e w1 ⟨rfl, b1⟩
            have HB1 := Lib.hid (HB.out.trans (b1.mono HB.out.size))
            rw [← obj_below HB1.out hbb] at hs1
            have c1 : w1.cell? ⟨b, off + k * 2 + 1, none⟩ = some (.int .i64 yw) := by have := subOf_cell hs1 (j := 1) (by decide); simpa using this
            clear b1 HC hs1
            go_wp2_with fail
            refine (HI.out _ HB1.out).mono ?_
            rintro e w2 ⟨rfl, rfl⟩
            go_wp2
            go_roundw
            case rel => exact ⟨k + 1, n + yw, by omega, by go_num, by go_num, by omega, HB1, HG⟩
            case measure => simp [intOf]; omega
          · rw [if_neg hc] at hF
            rw [decide_eq_false hc] at HI
            have HG := Lib.hid hF
            clear hF hc hgw hrest htot
            go_wp2_with fail
            refine HC.out.mono ?_
            rintro e w1 ⟨rfl, b1⟩
            have HB1 := Lib.hid (HB.out.trans (b1.mono HB.out.size))
            clear b1 HC hs1
            go_wp2_with fail
            refine (HI.out _ HB1.out).mono ?_
            rintro e w2 ⟨rfl, rfl⟩
            go_wp2
            go_roundw
            case rel => exact ⟨k + 1, n, by omega, by go_num, rfl, hn0, HB1, HG⟩
            case measure => simp [intOf]; omega
        · have hF := HF.out
          rw [List.drop_eq_nil_of_le (by omega)] at hF
          simp only [blF, stkF, Int.add_zero] at hF
          have HG := Lib.hid (hF.trans HT.out.symm)
          clear hF HF
          go_wp2
          go_ret
          exact ⟨ret_int HG.out, HB.out⟩
    · have HT := Lib.hid (show stkI l s now = 0 from if_neg (fun h => hl h.2))
      have hl' : ¬ (l.length : Int) = (s.length : Int) := by omega
      have HK2 := Lib.hid (HK.out w (Below.refl _ _))
      clear hc
      by_cases h0 : 0 < s.length
      · have h0' : (0 : Int) < s.length := by omega
        go_enter Tryz.func122, Tryz.ntmps122
        go_wp2
        go_loopw [7, 8] (fun v3 v4 wr => v3 = .int .i64 0 ∧ v4 = .int .i64 0 ∧ w = wr) (fun _ _ _ => 0)
        case atStart => exact ⟨rfl, rfl, rfl⟩
        case round =>
          obtain ⟨rfl, rfl, rfl⟩ := hrel
          go_wp2_with fail
          refine HK2.out.mono ?_
          rintro e w1 ⟨rfl, b1⟩
          go_wp2
          go_ret
          exact ⟨ret_int HT.out.symm, b1⟩
      · have h0' : ¬ (0 : Int) < s.length := by omega
        go_enter Tryz.func122, Tryz.ntmps122
        go_wp2
        go_loopw [7, 8] (fun v3 v4 wr => v3 = .int .i64 0 ∧ v4 = .int .i64 0 ∧ w = wr) (fun _ _ _ => 0)
        case atStart => exact ⟨rfl, rfl, rfl⟩
        case round =>
          obtain ⟨rfl, rfl, rfl⟩ := hrel
          go_wp2
          go_ret
          exact ⟨ret_int HT.out.symm, Below.refl _ _⟩
  · have HT := Lib.hid (show stkI l s now = 0 from if_neg (fun h => by rw [h.1] at hc; cases hc))
    have hc2 : ¬ chk l = 0 := by simpa using hc
    generalize chk l = c at *
    have HK2 := Lib.hid (HK.out w (Below.refl _ _))
    by_cases h0 : 0 < s.length
    · have h0' : (0 : Int) < s.length := by omega
      go_enter Tryz.func122, Tryz.ntmps122
      go_wp2
      go_loopw [7, 8] (fun v3 v4 wr => v3 = .int .i64 0 ∧ v4 = .int .i64 0 ∧ w = wr) (fun _ _ _ => 0)
      case atStart => exact ⟨rfl, rfl, rfl⟩
      case round =>
        obtain ⟨rfl, rfl, rfl⟩ := hrel
        go_wp2_with fail
        refine HK2.out.mono ?_
        rintro e w1 ⟨rfl, b1⟩
        go_wp2
        go_ret
        exact ⟨ret_int HT.out.symm, b1⟩
    · have h0' : ¬ (0 : Int) < s.length := by omega
      go_enter Tryz.func122, Tryz.ntmps122
      go_wp2
      go_loopw [7, 8] (fun v3 v4 wr => v3 = .int .i64 0 ∧ v4 = .int .i64 0 ∧ w = wr) (fun _ _ _ => 0)
      case atStart => exact ⟨rfl, rfl, rfl⟩
      case round =>
        obtain ⟨rfl, rfl, rfl⟩ := hrel
        go_wp2
        go_ret
        exact ⟨ret_int HT.out.symm, Below.refl _ _⟩
end Go.Proofs.YtagpclgappcnbaaGreat.Be
