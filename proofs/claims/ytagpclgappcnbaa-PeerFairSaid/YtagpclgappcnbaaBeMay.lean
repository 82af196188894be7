import Derived.Test.YtagpclgappcnbaaBeSeat
namespace Go.Proofs.Ytagpclgappcnbaa.Be
open Go.RowKit

theorem mayE_cases (r : Rul) (l : List Vd) (s : List St) : mayE r l s = 0 ∨ mayE r l s = 150 := by unfold mayE; split <;> simp
theorem mayE_0 {r : Rul} {l : List Vd} {s : List St} (h : mayE r l s = 0) : ruleE r = 0 ∧ chk l = 0 ∧ s.length = l.length ∧ s.all mayB = true := by
  unfold mayE at h
  split at h
  · assumption
  · cases h
theorem ruleE_cases (r : Rul) : ruleE r = 0 ∨ ruleE r = 150 := by unfold ruleE; split <;> simp
set_option maxRecDepth 100000 in
set_option maxHeartbeats 1000000 in
/-- bench.May -/
theorem mayL_any (w : World) (r : Rul) (v1 v2 : Value) (l : List Vd) (s : List St) (h : SlIn w v1 2 vdL l) (h2 : SlIn w v2 3 stL s) :
    Calls Try.prog 71 #[ruV r, v1, v2] w fun e w' => e = .returned (.int .i64 (mayE r l s)) ∧ Below w.heap.size w w' := by
  have b1 : Below w.heap.size w (w.alloc (.cells (ruC r) 25)) := (Below.refl _ _).alloc (Nat.le_refl _) _
  have HR := Lib.hid (rule_any r (w.alloc (.cells (ruC r) 25)))
  have HS := Lib.hid h
  have HS2 := Lib.hid h2
  have B1 := Lib.hid b1
  obtain ⟨oa, cap, rfl, g1, g2, g3⟩ := h
  obtain ⟨oa2, cap2, rfl, k1, k2, k3⟩ := h2
  unfold maxLen at g2 k2
  have H3 := Lib.hid g3
  have K3 := Lib.hid k3
  clear g3 k3 b1
  simp only [ruV, ruC] at *
  rcases ruleE_cases r with hr | hr
  · rw [hr] at HR
    go_enter Try.func71, Try.ntmps71
    go_wp2_with fail
    generalize w.alloc (.cells #[.int .i64 r.f, .int .i64 r.lo, .int .i64 r.fo, .int .i64 r.nu, .int .i64 r.de] 25) = w1 at *
    refine HR.out.mono ?_
    rintro e w2 ⟨rfl, b2⟩
    have B2 := Lib.hid (B1.out.trans (b2.mono B1.out.size))
    have HC := Lib.hid (checkA w2 _ l (HS.out.below B2.out))
    clear b2 HR
    rcases chk_cases l with hc | hc
    · rw [hc] at HC
      go_wp2_with fail
      refine HC.out.mono ?_
      rintro e w3 ⟨rfl, b3⟩
      have B3 := Lib.hid (B2.out.trans (b3.mono B2.out.size))
      clear b3 HC
      by_cases hl : s.length = l.length
      · have hl' : (s.length : Int) = (l.length : Int) := by omega
        have HE := Lib.hid (show mayE r l s = if s.all mayB = true then 0 else 150 by unfold mayE; by_cases ha : s.all mayB = true <;> simp [hr, hc, hl, ha])
        have HL := Lib.hid hl
        clear hl hr hc
        go_wp2
        go_loopw [26] (fun v18 wr => ∃ k : Nat, k ≤ s.length ∧ v18 = .int .i64 k ∧ Hid (Below w.heap.size w wr) ∧ Hid ((s.drop k).all mayB = s.all mayB)) (fun i _ => s.length - (intOf i).toNat)
        case atStart => exact ⟨0, Nat.zero_le _, rfl, B3, Lib.hid rfl⟩
        case round =>
          obtain ⟨k, hk, rfl, HB, HF⟩ := hrel
          clear hl'
          by_cases hlt : k < s.length
          · have hlt2 : k < l.length := by have := HL.out; omega
            obtain ⟨b, off, hoa, hbb, hrow⟩ := K3.out (by omega)
            subst hoa
            have hs1 := hrow k hlt
            rw [← obj_below HB.out hbb] at hs1
            have hbl : b < wr.heap.size := Nat.lt_of_lt_of_le hbb HB.out.size
            have hF := HF.out
            rw [List.drop_eq_getElem_cons hlt] at hF
            generalize s[k] = x at *
            obtain ⟨xf, xs, xu⟩ := x
            simp only [stL] at hs1
            clear hrow
            rw [List.all_cons] at hF
            have oz : obj (wr.alloc (.cells #[.int .i64 xf, .int .i64 xs, .int .i64 xu] 123)) wr.heap.size = some (.cells #[.int .i64 xf, .int .i64 xs, .int .i64 xu] 123 (0, 0)) := obj_alloc_at _ _ _ rfl
            have HBA := Lib.hid (HB.out.alloc HB.out.size (.cells #[.int .i64 xf, .int .i64 xs, .int .i64 xu] 123))
            have HM := Lib.hid (may_any ⟨xf, xs, xu⟩ (wr.alloc (.cells #[.int .i64 xf, .int .i64 xs, .int .i64 xu] 123)))
            simp only [stV] at HM
            cases hm : mayB ⟨xf, xs, xu⟩
            · rw [hm] at HM hF
              have HG := Lib.hid (show mayE r l s = 150 by rw [HE.out, if_neg (by rw [← hF]; simp)])
              clear hF HF hm
              go_wp2_with fail
              refine HM.out.mono ?_
              rintro e w4 ⟨rfl, b4⟩
              have B4 := Lib.hid (HBA.out.trans (b4.mono HBA.out.size))
              clear b4
              go_wp2
              go_ret
              exact ⟨ret_int HG.out.symm, B4.out⟩
            · rw [hm] at HM hF
              rw [Bool.true_and] at hF
              have HG := Lib.hid hF
              clear hF HF hm
              go_wp2_with fail
              refine HM.out.mono ?_
              rintro e w4 ⟨rfl, b4⟩
              have B4 := Lib.hid (HBA.out.trans (b4.mono HBA.out.size))
              clear b4
              go_wp2
              go_roundw
              case rel => exact ⟨k + 1, by omega, by go_num, B4, HG⟩
              case measure => simp [intOf]; omega
          · have hlt2 : ¬ k < l.length := by have := HL.out; omega
            have hF := HF.out
            rw [List.drop_eq_nil_of_le (by omega)] at hF
            have HG := Lib.hid (show mayE r l s = 0 by rw [HE.out, if_pos (by rw [← hF]; rfl)])
            clear hF HF
            go_wp2
            go_ret
            exact ⟨ret_int HG.out.symm, HB.out⟩
      · have HG := Lib.hid (show mayE r l s = 150 by unfold mayE; rw [if_neg]; rintro ⟨_, _, h, _⟩; exact hl h)
        have hl' : ¬ (s.length : Int) = (l.length : Int) := by omega
        clear hl hr hc
        go_wp2
        go_ret
        exact ⟨ret_int HG.out.symm, B3.out⟩
    · have HG := Lib.hid (show mayE r l s = 150 by unfold mayE; rw [if_neg]; rintro ⟨_, h, _⟩; rw [h] at hc; cases hc)
      generalize chk l = c at *
      clear hr
      go_wp2_with fail
      refine HC.out.mono ?_
      rintro e w3 ⟨rfl, b3⟩
      have B3 := Lib.hid (B2.out.trans (b3.mono B2.out.size))
      clear b3 HC
      go_wp2
      go_ret
      exact ⟨ret_int HG.out.symm, B3.out⟩
  · have HG := Lib.hid (show mayE r l s = 150 by unfold mayE; rw [if_neg]; rintro ⟨h, _⟩; rw [hr] at h; cases h)
    rw [hr] at HR
    clear hr
    go_enter Try.func71, Try.ntmps71
    go_wp2_with fail
    refine HR.out.mono ?_
    rintro e w2 ⟨rfl, b2⟩
    have B2 := Lib.hid (B1.out.trans (b2.mono B1.out.size))
    clear b2
    go_wp2
    go_ret
    exact ⟨ret_int HG.out.symm, B2.out⟩
end Go.Proofs.Ytagpclgappcnbaa.Be
