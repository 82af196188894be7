import Derived.Test.YtiknonljdibfgaaRefs
import Derived.Test.YtiknonljdibfgaaAct
namespace Go.Proofs.Ytiknonljdibfgaa
open Go.RowKit

set_option maxRecDepth 100000 in
set_option maxHeartbeats 1000000 in
/-- flurryref15.May -/
theorem mayR_any (w : World) (r : Rul) (v1 v2 : Value) (l : List Vd) (s : List St) (h : SlIn w v1 2 vdL l) (h2 : SlIn w v2 3 stL s) (hN : ∀ x ∈ l, x.name.size ≤ 300) :
    Calls Try.prog 23 #[ruV r, v1, v2] w fun e w' => e = .returned (.int .i64 (mayE r l s)) ∧ Below w.heap.size w w' := by
  have b1 : Below w.heap.size w (w.alloc (.cells (ruC r) 23)) := (Below.refl _ _).alloc (Nat.le_refl _) _
  have HR := Lib.hid (ruleR_any r (w.alloc (.cells (ruC r) 23)))
  have HS := Lib.hid h
  have HS2 := Lib.hid h2
  have B1 := Lib.hid b1
  obtain ⟨oa, cap, rfl, g1, g2, g3⟩ := h
  obtain ⟨oa2, cap2, rfl, k1, k2, k3⟩ := h2
  unfold maxLen at g2 k2
  have H3 := Lib.hid g3
  have K3 := Lib.hid k3
  clear g3 k3 b1
  simp only [ruV, ruC] at *
  rcases ruleE_cases r with hr | hr
  · rw [hr] at HR
    go_enter Try.func23, Try.ntmps23
    go_wp2_with fail
    generalize w.alloc (.cells #[.int .i64 r.f, .int .i64 r.lo, .int .i64 r.fo, .int .i64 r.nu, .int .i64 r.de] 23) = w1 at *
    refine HR.out.mono ?_
    rintro e w2 ⟨rfl, b2⟩
    have B2 := Lib.hid (B1.out.trans (b2.mono B1.out.size))
    have HC := Lib.hid (checkB w2 _ l (HS.out.below B2.out) hN)
    clear b2 HR
    rcases chk_cases l with hc | hc
    · rw [hc] at HC
      go_wp2_with fail
      refine HC.out.mono ?_
      rintro e w3 ⟨rfl, b3⟩
      have B3 := Lib.hid (B2.out.trans (b3.mono B2.out.size))
      clear b3 HC
      by_cases hl : s.length = l.length
      · have hl' : (l.length : Int) = (s.length : Int) := by omega
        have HE := Lib.hid (show mayE r l s = if s.all mayB = true then 0 else 150 by unfold mayE; by_cases ha : s.all mayB = true <;> simp [hr, hc, hl, ha])
        have HL := Lib.hid hl
        clear hl hr hc
        go_wp2
        go_loopw [7] (fun v18 wr => ∃ k : Nat, k ≤ s.length ∧ v18 = .int .i64 k ∧ Hid (Below w.heap.size w wr) ∧ Hid ((s.drop k).all mayB = s.all mayB)) (fun i _ => s.length - (intOf i).toNat)
        case atStart => exact ⟨0, Nat.zero_le _, rfl, B3, Lib.hid rfl⟩
        case round =>
          obtain ⟨k, hk, rfl, HB, HF⟩ := hrel
          clear hl'
          by_cases hlt : k < s.length
          · have hlt2 : k < l.length := by have := HL.out; omega
            obtain ⟨b, off, hoa, hbb, hrow⟩ := K3.out (by omega)
            subst hoa
            have hs1 := hrow k hlt
            rw [← obj_below HB.out hbb] at hs1
            have hbl : b < wr.heap.size := Nat.lt_of_lt_of_le hbb HB.out.size
            have hF := HF.out
            rw [List.drop_eq_getElem_cons hlt] at hF
            generalize s[k] = x at *
            obtain ⟨xf, xs, xu⟩ := x
            simp only [stL] at hs1
            clear hrow
            rw [List.all_cons] at hF
            have oz : obj (wr.alloc (.cells #[.int .i64 xf, .int .i64 xs, .int .i64 xu] 50)) wr.heap.size = some (.cells #[.int .i64 xf, .int .i64 xs, .int .i64 xu] 50 (0, 0)) := obj_alloc_at _ _ _ rfl
            have HBA := Lib.hid (HB.out.alloc HB.out.size (.cells #[.int .i64 xf, .int .i64 xs, .int .i64 xu] 50))
            have HI1 := Lib.hid (fun W => in_any xs 4611686018427387903 W)
            have HI2 := Lib.hid (fun W => in_any xu 4611686018427387903 W)
            have HBAD : Hid (mayB ⟨xf, xs, xu⟩ = false → mayE r l s = 150) := Lib.hid (fun hb => by rw [HE.out, if_neg (by rw [← hF, hb]; simp)])
            have HOKK : Hid (mayB ⟨xf, xs, xu⟩ = true → (s.drop (k + 1)).all mayB = s.all mayB) := Lib.hid (fun hb => by rw [hb, Bool.true_and] at hF; exact hF)
            have hmb : mayB ⟨xf, xs, xu⟩ = decide ((0 ≤ xf ∧ xf ≤ 1000) ∧ (0 ≤ xs ∧ xs ≤ 4611686018427387903) ∧ (xf = 0 → xs = 0) ∧ (0 ≤ xu ∧ xu ≤ 4611686018427387903)) := by
              unfold mayB; rw [Bool.eq_iff_iff]; simp only [Bool.and_eq_true, decide_eq_true_eq, Bool.not_eq_true', Bool.and_eq_false_iff, decide_eq_false_iff_not, Bool.not_eq_false']; omega
            rw [hmb] at HBAD HOKK
            clear hF HF hmb
            by_cases t0 : xf < 0
            · have HG := Lib.hid (HBAD.out (by rw [decide_eq_false_iff_not]; omega))
              go_wp2
              go_ret
              exact ⟨ret_int HG.out.symm, HBA.out⟩
            · skip
              by_cases t1 : 1000 < xf
              · have HG := Lib.hid (HBAD.out (by rw [decide_eq_false_iff_not]; omega))
                go_wp2
                go_ret
                exact ⟨ret_int HG.out.symm, HBA.out⟩
              · skip
                by_cases t2 : ¬ (0 ≤ xs ∧ xs ≤ 4611686018427387903)
                · have HG := Lib.hid (HBAD.out (by rw [decide_eq_false_iff_not]; omega))
                  have tt : (decide (0 ≤ xs) && decide (xs ≤ 4611686018427387903)) = false := by simp; omega
                  rw [tt] at HI1
                  go_wp2_with fail
                  refine (HI1.out _).mono ?_
                  rintro e1 wa ⟨rfl, rfl⟩
                  go_wp2
                  go_ret
                  exact ⟨ret_int HG.out.symm, HBA.out⟩
                · have tt : (decide (0 ≤ xs) && decide (xs ≤ 4611686018427387903)) = true := by simp; omega
                  rw [tt] at HI1
                  by_cases t3 : xf = 0 ∧ ¬ xs = 0
                  · have HG := Lib.hid (HBAD.out (by rw [decide_eq_false_iff_not]; omega))
                    obtain ⟨rfl, t3b⟩ := t3
                    have e1 : (xs == 0) = false := by simpa using t3b
                    go_wp2_with fail
                    refine (HI1.out _).mono ?_
                    rintro e1 wa ⟨rfl, rfl⟩
                    go_wp2
                    go_ret
                    exact ⟨ret_int HG.out.symm, HBA.out⟩
                  · skip
                    by_cases t4 : ¬ (0 ≤ xu ∧ xu ≤ 4611686018427387903)
                    · have HG := Lib.hid (HBAD.out (by rw [decide_eq_false_iff_not]; omega))
                      have tt : (decide (0 ≤ xu) && decide (xu ≤ 4611686018427387903)) = false := by simp; omega
                      rw [tt] at HI2
                      by_cases e0 : xf = 0
                      · have e1 : xs = 0 := by omega
                        subst e0 e1
                        go_wp2_with fail
                        refine (HI1.out _).mono ?_
                        rintro e1 wa ⟨rfl, rfl⟩
                        go_wp2_with fail
                        refine (HI2.out _).mono ?_
                        rintro e1 wa ⟨rfl, rfl⟩
                        go_wp2
                        go_ret
                        exact ⟨ret_int HG.out.symm, HBA.out⟩
                      · have e0' : (xf == 0) = false := by simpa using e0
                        go_wp2_with fail
                        refine (HI1.out _).mono ?_
                        rintro e1 wa ⟨rfl, rfl⟩
                        go_wp2_with fail
                        refine (HI2.out _).mono ?_
                        rintro e1 wa ⟨rfl, rfl⟩
                        go_wp2
                        go_ret
                        exact ⟨ret_int HG.out.symm, HBA.out⟩
                    · have tt : (decide (0 ≤ xu) && decide (xu ≤ 4611686018427387903)) = true := by simp; omega
                      rw [tt] at HI2
                      have HG := Lib.hid (HOKK.out (by rw [decide_eq_true_eq]; omega))
                      by_cases e0 : xf = 0
                      · have e1 : xs = 0 := by omega
                        subst e0 e1
                        go_wp2_with fail
                        refine (HI1.out _).mono ?_
                        rintro e1 wa ⟨rfl, rfl⟩
                        go_wp2_with fail
                        refine (HI2.out _).mono ?_
                        rintro e1 wa ⟨rfl, rfl⟩
                        go_wp2
                        go_roundw
                        case rel => exact ⟨k + 1, by omega, by go_num, HBA, HG⟩
                        case measure => simp [intOf]; omega
                      · have e0' : (xf == 0) = false := by simpa using e0
                        go_wp2_with fail
                        refine (HI1.out _).mono ?_
                        rintro e1 wa ⟨rfl, rfl⟩
                        go_wp2_with fail
                        refine (HI2.out _).mono ?_
                        rintro e1 wa ⟨rfl, rfl⟩
                        go_wp2
                        go_roundw
                        case rel => exact ⟨k + 1, by omega, by go_num, HBA, HG⟩
                        case measure => simp [intOf]; omega
          · have hlt2 : ¬ k < l.length := by have := HL.out; omega
            have hF := HF.out
            rw [List.drop_eq_nil_of_le (by omega)] at hF
            have HG := Lib.hid (show mayE r l s = 0 by rw [HE.out, if_pos (by rw [← hF]; rfl)])
            clear hF HF
            go_wp2
            go_ret
            exact ⟨ret_int HG.out.symm, HB.out⟩
      · have HG := Lib.hid (show mayE r l s = 150 by unfold mayE; rw [if_neg]; rintro ⟨_, _, h, _⟩; exact hl h)
        have hl' : ¬ (l.length : Int) = (s.length : Int) := by omega
        clear hl hr hc
        go_wp2
        go_ret
        exact ⟨ret_int HG.out.symm, B3.out⟩
    · have HG := Lib.hid (show mayE r l s = 150 by unfold mayE; rw [if_neg]; rintro ⟨_, h, _⟩; rw [h] at hc; cases hc)
      generalize chk l = c at *
      clear hr
      go_wp2_with fail
      refine HC.out.mono ?_
      rintro e w3 ⟨rfl, b3⟩
      have B3 := Lib.hid (B2.out.trans (b3.mono B2.out.size))
      clear b3 HC
      go_wp2
      go_ret
      exact ⟨ret_int HG.out.symm, B3.out⟩
  · have HG := Lib.hid (show mayE r l s = 150 by unfold mayE; rw [if_neg]; rintro ⟨h, _⟩; rw [hr] at h; cases h)
    rw [hr] at HR
    clear hr
    go_enter Try.func23, Try.ntmps23
    go_wp2_with fail
    refine HR.out.mono ?_
    rintro e w2 ⟨rfl, b2⟩
    have B2 := Lib.hid (B1.out.trans (b2.mono B1.out.size))
    clear b2
    go_wp2
    go_ret
    exact ⟨ret_int HG.out.symm, B2.out⟩
theorem makeSeatsR (n : Nat) (h1 : 1 ≤ n) (h2 : n ≤ 32) (w : World) : Calls Try.prog 19 #[.int .i64 n] w fun e w' => ∃ v, e = .returned (.tuple #[v, .int .i64 0]) ∧ OwnS w' w.heap.size 50 3 stL v (List.replicate n ⟨0, 0, 0⟩) ∧ Below w.heap.size w w' := by
  have h3 : ¬ (n : Int) < 1 := by omega
  have h4 : ¬ (32 : Int) < n := by omega
  obtain ⟨i0, hi, hz0, hz1, hz2⟩ := info_parts info50
  obtain ⟨w', hm, hown, hg⟩ := run_makeSlice_full (P := Try.prog) w w.heap.size 31 50 i0 _ 3 Try.underlying31 hi hz0 hz1 .i64 .i64 n (by omega) (by rw [hz2]; omega) (by unfold maxLen; omega) (Nat.le_refl _)
  have hz : (madeCells (Value.agg #[.int .i64 0, .int .i64 0, .int .i64 0]).cells (n * 3)).toList = (List.replicate n (⟨0, 0, 0⟩ : St)).flatMap stL := by
    rw [zeros_flat, List.eq_replicate_iff]
    refine ⟨by simp [madeCells], fun b hb => ?_⟩
    change b ∈ (madeCells #[.int .i64 0, .int .i64 0, .int .i64 0] (n * 3)).toList at hb
    unfold madeCells at hb
    rw [Array.toList_map, List.mem_map] at hb
    obtain ⟨i, _, rfl⟩ := hb
    have : i % 3 = 0 ∨ i % 3 = 1 ∨ i % 3 = 2 := by omega
    change (#[Value.int .i64 0, .int .i64 0, .int .i64 0] : Array Value)[i % 3]! = _
    rcases this with e | e | e <;> rw [e] <;> rfl
  rw [hz] at hown
  have HO := Lib.hid hown
  have HG := Lib.hid hg
  clear hown hz hi hz0 hz1 hz2 hg
  go_enter Try.func19, Try.ntmps19
  go_wp2
  go_ret2
  refine ⟨_, rfl, ⟨by simpa using HO.out, ?_⟩, ?_⟩
  · constructor
    · intro e; cases e
    · intro e; have := congrArg List.length e; simp at this; omega
  · exact ((Below.refl _ w).grown HG.out (Nat.le_refl _) (fun k e => by cases e))
end Go.Proofs.Ytiknonljdibfgaa
