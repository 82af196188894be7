import Derived.Test.YtiknonljdibfgaaWith
namespace Go.Proofs.Ytiknonljdibfgaa
open Go.RowKit

set_option maxRecDepth 100000 in
set_option maxHeartbeats 1000000 in
/-- flurryref15.Stake -/
theorem stakeR_any (w : World) (v1 v2 : Value) (l : List Vd) (s : List St) (now : Int) (h : SlIn w v1 2 vdL l) (h2 : SlIn w v2 3 stL s) (hN : ∀ x ∈ l, x.name.size ≤ 300) :
    Calls Try.prog 26 #[v1, v2, .int .i64 now] w fun e w' => e = .returned (.int .i64 (stkI l s now)) ∧ Below w.heap.size w w' := by
  have HK := Lib.hid (fun W (hb : Below w.heap.size w W) => checkB W v1 l (h.below hb) hN)
  have HS := Lib.hid h
  have HS2 := Lib.hid h2
  obtain ⟨oa, cap, rfl, g1, g2, g3⟩ := h
  obtain ⟨oa2, cap2, rfl, k1, k2, k3⟩ := h2
  unfold maxLen at g2 k2
  have H3 := Lib.hid g3
  clear g3 k3
  rcases chk_cases l with hc | hc
  · rw [hc] at HK
    by_cases hl : s.length = l.length
    · obtain ⟨_, _, _, hw⟩ := chk_32 hc
      obtain ⟨s0, s1, s2⟩ := wtsF_sum _ _ hw (by decide)
      have HT := Lib.hid (show stkI l s now = stkF l (blL s now) from if_pos ⟨hc, hl⟩)
      have HP := Lib.hid (stkF_pos s2)
      have HT2 := Lib.hid (stkF_le s2 hl (List.prefix_refl (blL s now)))
      have HW := Lib.hid s2
      have HL := Lib.hid hl
      have hl' : (l.length : Int) = (s.length : Int) := by omega
      have HLs : Hid ((l.length : Int) = (s.length : Int)) := Lib.hid hl'
      clear hc hw s2 s0 hl hl'
      go_enter Try.func26, Try.ntmps26
      go_wp2
      go_loopw [7, 8] (fun v7 v8 wr => ∃ (k : Nat) (n : Int), k ≤ s.length ∧ v8 = .int .i64 k ∧ v7 = .int .i64 n ∧ 0 ≤ n ∧ Hid (Below w.heap.size w wr) ∧ Hid (n + stkF l (blF now (s.drop k) k) = stkF l (blL s now))) (fun _ i _ => s.length - (intOf i).toNat)
      case atStart => exact ⟨0, 0, Nat.zero_le _, rfl, rfl, by decide, Lib.hid (Below.refl _ _), Lib.hid (by simp [blL])⟩
      case round =>
        obtain ⟨k, n, hk, rfl, rfl, hn0, HB, HF⟩ := hrel
        by_cases hlt : k < s.length
        · have hkl : k < l.length := by have := HL.out; omega
          obtain ⟨b, off, hoa, hbb, hrow⟩ := H3.out (by omega)
          subst hoa
          have hs1 := hrow k hkl
          have hF := HF.out
          rw [List.drop_eq_getElem_cons hlt, blF_cons] at hF
          have HC := Lib.hid (HK.out wr HB.out)
          have HI := Lib.hid (fun W (hb : Below w.heap.size w W) => isR_any W _ s (k : Int) now (HS2.out.below hb))
          rw [isB_at s k hlt] at HI
          have hrest := HP.out (blF now (s.drop (k + 1)) (k + 1))
          have htot := HT2.out
          have hwk := HW.out _ (List.getElem_mem hkl)
          have hgw : wtA l (k : Int) = l[k].wt := by unfold wtA; simp [List.getD, hkl]
          have hl' := HLs.out
          have hk' : (k : Int) < (l.length : Int) := by omega
          generalize s[k] = x at *
          generalize l[k] = y at *
          obtain ⟨yn, yw⟩ := y
          simp only [vdL] at hs1
          simp only at hwk hgw
          clear hrow HF
          by_cases hc : 0 ≤ now ∧ now < x.u
          · rw [if_pos hc] at hF
            rw [decide_eq_true hc] at HI
            simp only [stkF, hgw] at hF
            have HG : Hid (n + yw + stkF l (blF now (s.drop (k + 1)) (k + 1)) = stkF l (blL s now)) := Lib.hid (by omega)
            have hx1 : n + yw ≤ 4611686018427387903 := by omega
            clear hF hc hgw hrest htot
            go_wp2_with fail
            refine HC.out.mono ?_
            rintro e w1 ⟨rfl, b1⟩
            have HB1 := Lib.hid (HB.out.trans (b1.mono HB.out.size))
            rw [← obj_below HB1.out hbb] at hs1
            have c1 : w1.cell? ⟨b, off + k * 2 + 1, none⟩ = some (.int .i64 yw) := by have := subOf_cell hs1 (j := 1) (by decide); simpa using this
            clear b1 HC hs1
            go_wp2_with fail
            refine (HI.out _ HB1.out).mono ?_
            rintro e w2 ⟨rfl, rfl⟩
            go_wp2
            go_roundw
            case rel => exact ⟨k + 1, n + yw, by omega, by go_num, by go_num, by omega, HB1, HG⟩
            case measure => simp [intOf]; omega
          · rw [if_neg hc] at hF
            rw [decide_eq_false hc] at HI
            have HG := Lib.hid hF
            clear hF hc hgw hrest htot
            go_wp2_with fail
            refine HC.out.mono ?_
            rintro e w1 ⟨rfl, b1⟩
            have HB1 := Lib.hid (HB.out.trans (b1.mono HB.out.size))
            clear b1 HC hs1
            go_wp2_with fail
            refine (HI.out _ HB1.out).mono ?_
            rintro e w2 ⟨rfl, rfl⟩
            go_wp2
            go_roundw
            case rel => exact ⟨k + 1, n, by omega, by go_num, rfl, hn0, HB1, HG⟩
            case measure => simp [intOf]; omega
        · have hF := HF.out
          rw [List.drop_eq_nil_of_le (by omega)] at hF
          simp only [blF, stkF, Int.add_zero] at hF
          have HG := Lib.hid (hF.trans HT.out.symm)
          clear hF HF
          go_wp2
          go_ret
          exact ⟨ret_int HG.out, HB.out⟩
    · have HT := Lib.hid (show stkI l s now = 0 from if_neg (fun h => hl h.2))
      have hl' : ¬ (l.length : Int) = (s.length : Int) := by omega
      have HK2 := Lib.hid (HK.out w (Below.refl _ _))
      clear hc
      by_cases h0 : 0 < s.length
      · have h0' : (0 : Int) < s.length := by omega
        go_enter Try.func26, Try.ntmps26
        go_wp2
        go_loopw [7, 8] (fun v3 v4 wr => v3 = .int .i64 0 ∧ v4 = .int .i64 0 ∧ w = wr) (fun _ _ _ => 0)
        case atStart => exact ⟨rfl, rfl, rfl⟩
        case round =>
          obtain ⟨rfl, rfl, rfl⟩ := hrel
          go_wp2_with fail
          refine HK2.out.mono ?_
          rintro e w1 ⟨rfl, b1⟩
          go_wp2
          go_ret
          exact ⟨ret_int HT.out.symm, b1⟩
      · have h0' : ¬ (0 : Int) < s.length := by omega
        go_enter Try.func26, Try.ntmps26
        go_wp2
        go_loopw [7, 8] (fun v3 v4 wr => v3 = .int .i64 0 ∧ v4 = .int .i64 0 ∧ w = wr) (fun _ _ _ => 0)
        case atStart => exact ⟨rfl, rfl, rfl⟩
        case round =>
          obtain ⟨rfl, rfl, rfl⟩ := hrel
          go_wp2
          go_ret
          exact ⟨ret_int HT.out.symm, Below.refl _ _⟩
  · have HT := Lib.hid (show stkI l s now = 0 from if_neg (fun h => by rw [h.1] at hc; cases hc))
    have hc2 : ¬ chk l = 0 := by simpa using hc
    generalize chk l = c at *
    have HK2 := Lib.hid (HK.out w (Below.refl _ _))
    by_cases h0 : 0 < s.length
    · have h0' : (0 : Int) < s.length := by omega
      go_enter Try.func26, Try.ntmps26
      go_wp2
      go_loopw [7, 8] (fun v3 v4 wr => v3 = .int .i64 0 ∧ v4 = .int .i64 0 ∧ w = wr) (fun _ _ _ => 0)
      case atStart => exact ⟨rfl, rfl, rfl⟩
      case round =>
        obtain ⟨rfl, rfl, rfl⟩ := hrel
        go_wp2_with fail
        refine HK2.out.mono ?_
        rintro e w1 ⟨rfl, b1⟩
        go_wp2
        go_ret
        exact ⟨ret_int HT.out.symm, b1⟩
    · have h0' : ¬ (0 : Int) < s.length := by omega
      go_enter Try.func26, Try.ntmps26
      go_wp2
      go_loopw [7, 8] (fun v3 v4 wr => v3 = .int .i64 0 ∧ v4 = .int .i64 0 ∧ w = wr) (fun _ _ _ => 0)
      case atStart => exact ⟨rfl, rfl, rfl⟩
      case round =>
        obtain ⟨rfl, rfl, rfl⟩ := hrel
        go_wp2
        go_ret
        exact ⟨ret_int HT.out.symm, Below.refl _ _⟩
end Go.Proofs.Ytiknonljdibfgaa
