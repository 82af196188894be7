import Derived.Test.YtiknonljdibfgaaRowsLaw
import Derived.Test.YtiknonljdibfgaaTotB
namespace Go.Proofs.Ytiknonljdibfgaa
open Go.RowKit

theorem share_zero (r : Rul) (l : List Vd) (hm : mayE r l (List.replicate l.length ⟨0, 0, 0⟩) = 0) : ShareI r l (List.replicate l.length ⟨0, 0, 0⟩) 0 := by
  have hb : ∀ n i, blF 0 (List.replicate n (⟨0, 0, 0⟩ : St)) i = [] := by
    intro n
    induction n with
    | zero => intro i; rfl
    | succ n ih => intro i; rw [List.replicate_succ, blF_cons, if_neg (by decide), ih]
  obtain ⟨hr, hc, hl, _⟩ := mayE_0 hm
  obtain ⟨_, _, _, hw⟩ := chk_32 hc
  obtain ⟨s0, _, _⟩ := wtsF_sum _ _ hw (by decide)
  have h2 := ruleE_n hr
  unfold ShareI stkI
  rw [if_pos ⟨hc, hl⟩]
  unfold blL
  rw [hb]
  have ht : tot l = sumW l := if_pos hc
  rw [ht]
  simp only [stkF, Int.zero_mul]
  exact Int.mul_nonneg s0 h2.2.2.2.2.2.2.2.1
theorem share_bd {r : Rul} {l : List Vd} {s : List St} (hm : mayE r l s = 0) (n : Int) (h : ShareI r l s n) : 0 ≤ r.nu ∧ r.nu ≤ r.de ∧ 0 ≤ stkI l s n ∧ stkI l s n ≤ 4611686018427387903 ∧ 1 ≤ tot l ∧ tot l ≤ 4611686018427387903 ∧ r.de * stkI l s n ≤ r.nu * tot l := by
  obtain ⟨hr, hc, hl, _⟩ := mayE_0 hm
  obtain ⟨hl1, _, _, hw⟩ := chk_32 hc
  obtain ⟨s0, s1, s2⟩ := wtsF_sum _ _ hw (by decide)
  have h2 := ruleE_n hr
  have ht : tot l = sumW l := if_pos hc
  have hs : stkI l s n = stkF l (blL s n) := if_pos ⟨hc, hl⟩
  have k0 := stkF_pos s2 (blL s n)
  have k1 := stkF_le s2 hl (List.prefix_refl (blL s n))
  have t1 : 1 ≤ sumW l := by
    match l, hl1, s2 with
    | x :: r, _, s2 =>
      have hx := s2 x (by simp)
      have hd := sumW_drop (x :: r) 1 s2
      simp only [List.drop_one, List.tail_cons] at hd
      simp only [sumW]; omega
  unfold ShareI at h
  refine ⟨h2.2.2.2.2.2.2.2.1, h2.2.2.2.2.2.2.2.2, by omega, by omega, by omega, by omega, ?_⟩
  rw [Int.mul_comm r.de, Int.mul_comm r.nu]; exact h
set_option maxRecDepth 100000 in
set_option maxHeartbeats 2000000 in
theorem shareLaw_any (w : World) (r : Rul) (v1 v2 : Value) (l : List Vd) (acts : List Ac) (h : SlIn w v1 2 vdL l) (h2 : SlIn w v2 3 acL acts) (hA : ∀ a ∈ acts, AcOK a) (hde : r.de < 9223372036854775808) :
    Calls Try.prog 3 #[ruV r, v1, v2] w fun e w' => e = .returned (.bool true) ∧ Below w.heap.size w w' := by
  have HS := Lib.hid h
  have HS2 := Lib.hid h2
  have HA := Lib.hid hA
  have b1 : Below w.heap.size w (w.alloc (.cells (ruC r) 23)) := (Below.refl _ _).alloc (Nat.le_refl _) _
  have o1 : obj (w.alloc (.cells (ruC r) 23)) w.heap.size = some (.cells (ruC r) 23 (0, 0)) := obj_alloc_at _ _ _ rfl
  obtain ⟨oa, cap, rfl, g1, g2, g3⟩ := h
  unfold maxLen at g2
  obtain ⟨oa2, cap2, rfl, k1, k2, k3⟩ := h2
  unfold maxLen at k2
  have HL := Lib.hid (live_any (w.alloc (.cells (ruC r) 23)))
  have HLL := Lib.hid live_any
  have B1 := Lib.hid b1
  have O1 := Lib.hid o1
  have HF := Lib.hid (fun W (hb : Below w.heap.size w W) => few_any W _ l none 0 0 (HS.out.below hb))
  have H3 := Lib.hid g3
  have H4 := Lib.hid k3
  clear g3 k3 hA b1 o1
  simp only [ruV, ruC] at *
  go_enter Try.func3, Try.ntmps3
  go_wp2_with fail
  generalize w.alloc (.cells #[.int .i64 r.f, .int .i64 r.lo, .int .i64 r.fo, .int .i64 r.nu, .int .i64 r.de] 23) = w1 at *
  refine HL.out.mono ?_
  rintro e w2 ⟨rfl, b2⟩
  have B2 := Lib.hid (B1.out.trans (b2.mono B1.out.size))
  have O2 := Lib.hid ((obj_below b2 (lt_of_obj O1.out)).trans O1.out)
  clear b2 B1 O1
  go_wp2_with fail
  refine (HF.out w2 B2.out).mono ?_
  rintro e w3 ⟨rfl, b3⟩
  have B3 := Lib.hid (B2.out.trans (b3.mono B2.out.size))
  have O3 := Lib.hid ((obj_below b3 (lt_of_obj O2.out)).trans O2.out)
  clear b3 B2 O2 HF HL
  cases hfw : fewB l 0 with
  | false =>
    clear hfw
    go_wp2_with fail
    refine (HLL.out w3).mono ?_
    rintro e w4 ⟨rfl, b4⟩
    go_wp2
    go_ret
    exact ⟨rfl, B3.out.trans (b4.mono B3.out.size)⟩
  | true =>
    obtain ⟨hN, hl50, _⟩ := fewB_t hfw
    have HC := Lib.hid (checkB w3 _ l (HS.out.below B3.out) hN)
    have HL50 := Lib.hid hl50
    have HNN := Lib.hid hN
    clear hfw hN hl50
    by_cases ha : acts.length ≤ 200
    · have ha' : ¬ (200 : Int) < (acts.length : Int) := by omega
      go_wp2_with fail
      refine HC.out.mono ?_
      rintro e w4 ⟨rfl, b4⟩
      have B4 := Lib.hid (B3.out.trans (b4.mono B3.out.size))
      have O4 := Lib.hid ((obj_below b4 (lt_of_obj O3.out)).trans O3.out)
      clear b4 B3 O3 HC
      have c0 : w4.cell? ⟨w.heap.size, 0, none⟩ = some (.int .i64 r.f) := cell_at O4.out 0
      have c1 : w4.cell? ⟨w.heap.size, 1, none⟩ = some (.int .i64 r.lo) := cell_at O4.out 1
      have c2 : w4.cell? ⟨w.heap.size, 2, none⟩ = some (.int .i64 r.fo) := cell_at O4.out 2
      have c3 : w4.cell? ⟨w.heap.size, 3, none⟩ = some (.int .i64 r.nu) := cell_at O4.out 3
      have c4 : w4.cell? ⟨w.heap.size, 4, none⟩ = some (.int .i64 r.de) := cell_at O4.out 4
      rcases chk_cases l with hc | hc
      · have HR := Lib.hid (rule_any r w4)
        have HC0 := Lib.hid hc
        simp only [ruV] at HR
        rw [hc]
        clear hc
        rcases ruleE_cases r with hr | hr
        · rw [hr] at HR
          have HM0 := Lib.hid (may0 hr HC0.out)
          have hl1 : 1 ≤ l.length := (chk_32 HC0.out).1
          have hl32 : l.length ≤ 32 := (chk_32 HC0.out).2.1
          clear hr
          go_wp2_with fail
          refine HR.out.mono ?_
          rintro e w5 ⟨rfl, b5⟩
          have B5 := Lib.hid (B4.out.trans (b5.mono B4.out.size))
          have O5 := Lib.hid ((obj_below b5 (lt_of_obj O4.out)).trans O4.out)
          have HN := Lib.hid (makeSeats l.length hl1 hl32 w5)
          clear b5 B4 O4 HR c0 c1 c2 c3 c4
          go_wp2_with fail
          refine HN.out.mono ?_
          rintro e w6 ⟨sv0, rfl, q6, b6⟩
          have B6 := Lib.hid (B5.out.trans (b6.mono B5.out.size))
          have O6 := Lib.hid ((obj_below b6 (lt_of_obj O5.out)).trans O5.out)
          have S6 : Hid (OwnS w6 w.heap.size 50 3 stL sv0 (List.replicate l.length ⟨0, 0, 0⟩)) := Lib.hid (q6.rebase B5.out.size)
          clear b6 B5 O5 HN q6
          have HSh0 := Lib.hid (share_zero r l HM0.out)
          have HL32 := Lib.hid hl32
          have HDE := Lib.hid hde
          go_wp2
          go_loopw [7, 8, 9, 45] (fun v7 v8 v9 v45 wr => ∃ (k : Nat) (s : List St) (now : Int), k ≤ acts.length ∧ v45 = .int .i64 k ∧ v8 = .int .i64 0 ∧ v9 = .int .i64 now ∧ 0 ≤ now ∧ now ≤ 65535 * (k : Int) ∧ Hid (mayE r l s = 0) ∧ Hid (OwnS wr w.heap.size 50 3 stL v7 s) ∧ Hid (ShareI r l s now) ∧ Hid (obj wr w.heap.size = some (.cells #[.int .i64 r.f, .int .i64 r.lo, .int .i64 r.fo, .int .i64 r.nu, .int .i64 r.de] 23 (0, 0))) ∧ Hid (Below w.heap.size w wr)) (fun _ _ _ i _ => acts.length - (intOf i).toNat)
          case atStart => exact ⟨0, _, 0, Nat.zero_le _, rfl, rfl, rfl, by decide, by decide, HM0, S6, HSh0, O6, B6⟩
          case round =>
            obtain ⟨k, s, now, hk, rfl, rfl, rfl, hn0, hn1, HM, HO, HSh, HRu, HB⟩ := hrel
            clear S6 O6 B6 HM0 HSh0
            by_cases hlt : k < acts.length
            · obtain ⟨b, off, hoa, hbb, hrow⟩ := H4.out (by omega)
              subst hoa
              have hs1 := hrow k hlt
              rw [← obj_below HB.out hbb] at hs1
              have hbl : b < wr.heap.size := Nat.lt_of_lt_of_le hbb HB.out.size
              have hok := HA.out acts[k] (List.getElem_mem hlt)
              generalize acts[k] = x at *
              obtain ⟨xv, xb, xt⟩ := x
              simp only [acL, AcOK] at hs1 hok
              clear hrow
              have c0 : wr.cell? ⟨w.heap.size, 0, none⟩ = some (.int .i64 r.f) := cell_at HRu.out 0
              have c1 : wr.cell? ⟨w.heap.size, 1, none⟩ = some (.int .i64 r.lo) := cell_at HRu.out 1
              have c2 : wr.cell? ⟨w.heap.size, 2, none⟩ = some (.int .i64 r.fo) := cell_at HRu.out 2
              have c3 : wr.cell? ⟨w.heap.size, 3, none⟩ = some (.int .i64 r.nu) := cell_at HRu.out 3
              have c4 : wr.cell? ⟨w.heap.size, 4, none⟩ = some (.int .i64 r.de) := cell_at HRu.out 4
              have z0 := lt_of_obj HRu.out
              obtain ⟨i, hrem, hil⟩ : ∃ i : Nat, xv % (l.length : Int) = (i : Int) ∧ i < l.length := by
                have h1 := Int.emod_nonneg xv (show (l.length : Int) ≠ 0 by omega)
                have h2 := Int.emod_lt_of_pos xv (show (0 : Int) < (l.length : Int) by omega)
                exact ⟨(xv % (l.length : Int)).toNat, by omega, by omega⟩
              have his : i < s.length := by have := (mayE_0 HM.out).2.2.1; omega
              obtain ⟨n, hn, hnn0, hnn1⟩ : ∃ n : Int, now + xt = n ∧ 0 ≤ n ∧ n ≤ 65535 * ((k : Int) + 1) := ⟨_, rfl, by omega, by omega⟩
              have hnM : n < 4611686018427387903 := by omega
              have HSn := Lib.hid (share_later HM.out hn0 (show now ≤ n by omega) HSh.out)
              have HBA := Lib.hid (HB.out.alloc HB.out.size (.cells #[.int .u8 xv, .bool xb, .int .u16 xt] 36))
              have HOA := Lib.hid (HO.out.alloc (.cells #[.int .u8 xv, .bool xb, .int .u16 xt] 36))
              have HUA := Lib.hid ((obj_alloc_past _ (.cells #[.int .u8 xv, .bool xb, .int .u16 xt] 36) _ (lt_of_obj HRu.out)).trans HRu.out)
              have HRep := Lib.hid (replied_any _ r _ _ l s i (HS.out.below HBA.out) (HOA.out.slIn stL_length) HM.out his)
              have hi' : (i : Int) < (l.length : Int) := by omega
              clear hn0 hn1 HSh
              cases xb
              · have HF := Lib.hid (failed_step _ r _ _ l s i n (HS.out.below HBA.out) (HOA.out.slIn stL_length) HM.out his hnn0 (Int.le_of_lt hnM) HDE.out)
                have HM11 := Lib.hid (stepF_may (now := n) HM.out his hnn0 (Int.le_of_lt hnM))
                have HS11 := Lib.hid (stepF_share HM.out his HSn.out)
                have HB11 := Lib.hid (fun hb => stepF_ben HM.out his hnn0 hnM hb)
                generalize stepF r l s i n = s11 at *
                generalize benF r l s i n = bn at *
                simp only [ruV] at HF
                clear HRep HSn
                go_wp2_with fail
                refine HF.out.mono ?_
                rintro e w9 ⟨v9, rfl, q1, q2⟩
                have HB9 := Lib.hid (HBA.out.trans (q2.mono HBA.out.size))
                have HU9 := Lib.hid ((obj_below q2 (lt_of_obj HUA.out)).trans HUA.out)
                have HO9 := Lib.hid (q1.rebase HBA.out.size)
                clear q1 q2 HF HBA HUA HOA c0 c1 c2 c3 c4 hs1
                cases bn with
                | false =>
                  go_wp2_with fail
                  have HK := Lib.hid (fun x : Later w9 => stake_any x.w _ _ l s11 n (HS.out.below (HB9.out.trans (x.h.mono HB9.out.size))) ((HO9.out.slIn stL_length).below x.h) (by have := (mayE_0 HM11.out).2.2.1; have := HL32.out; omega))
                  have HT := Lib.hid (fun x : Later w9 => totalB x.w _ l (HS.out.below (HB9.out.trans (x.h.mono HB9.out.size))) HNN.out)
                  have hbd := share_bd HM11.out n HS11.out
                  have hde := HDE.out
                  have HA := Lib.hid (fun x : Later w9 => leastB x.w r.nu r.de (stkI l s11 n) (tot l) hbd.1 (by omega) (by omega) hde hbd.2.2.1 (by omega) hbd.2.2.2.2.1 (by omega))
                  rw [decide_eq_true hbd.2.2.2.2.2.2] at HA
                  clear hbd hde
                  generalize stkI l s11 n = kk at *
                  generalize tot l = tt at *
                  have c0 : w9.cell? ⟨w.heap.size, 0, none⟩ = some (.int .i64 r.f) := cell_at HU9.out 0
                  have c3 : w9.cell? ⟨w.heap.size, 3, none⟩ = some (.int .i64 r.nu) := cell_at HU9.out 3
                  have c4 : w9.cell? ⟨w.heap.size, 4, none⟩ = some (.int .i64 r.de) := cell_at HU9.out 4
                  have zu := lt_of_obj HU9.out
                  refine wp_region_later w9 (Below.refl _ _) (by kernel_rfl) (by kernel_rfl) ?_
                  repeat (go_big_quiet_step (first
                    | (go_at_call 17; with_reducible exact Calls.later (HK.out _))
                    | (go_at_call 18; with_reducible exact Calls.later (HT.out _))
                    | (go_at_call 16; with_reducible exact Calls.later (HA.out _))))
                  refine wpQuiet_nil ?_
                  intro _ hx
                  obtain ⟨⟨wz, hbz⟩, hx⟩ := hx
                  subst hx
                  have HBZ := Lib.hid hbz
                  clear hbz HK HT HA
                  go_wp2
                  go_roundw
                  case rel => exact ⟨k + 1, s11, n, by omega, by go_num, rfl, rfl, hnn0, by omega, HM11, Lib.hid (HO9.out.below HBZ.out), Lib.hid HS11.out, Lib.hid ((obj_below HBZ.out (lt_of_obj HU9.out)).trans HU9.out), Lib.hid (HB9.out.trans (HBZ.out.mono HB9.out.size))⟩
                  case measure => simp [intOf]; omega
                | true =>
                  have HIs := Lib.hid (is_any w9 _ s11 (i : Int) n (HO9.out.slIn stL_length))
                  rw [HB11.out (by first | rfl | trivial)] at HIs
                  go_wp2_with fail
                  refine HIs.out.mono ?_
                  rintro e w9' ⟨rfl, rfl⟩
                  clear HIs
                  go_wp2_with fail
                  have HK := Lib.hid (fun x : Later w9 => stake_any x.w _ _ l s11 n (HS.out.below (HB9.out.trans (x.h.mono HB9.out.size))) ((HO9.out.slIn stL_length).below x.h) (by have := (mayE_0 HM11.out).2.2.1; have := HL32.out; omega))
                  have HT := Lib.hid (fun x : Later w9 => totalB x.w _ l (HS.out.below (HB9.out.trans (x.h.mono HB9.out.size))) HNN.out)
                  have hbd := share_bd HM11.out n HS11.out
                  have hde := HDE.out
                  have HA := Lib.hid (fun x : Later w9 => leastB x.w r.nu r.de (stkI l s11 n) (tot l) hbd.1 (by omega) (by omega) hde hbd.2.2.1 (by omega) hbd.2.2.2.2.1 (by omega))
                  rw [decide_eq_true hbd.2.2.2.2.2.2] at HA
                  clear hbd hde
                  generalize stkI l s11 n = kk at *
                  generalize tot l = tt at *
                  have c0 : w9.cell? ⟨w.heap.size, 0, none⟩ = some (.int .i64 r.f) := cell_at HU9.out 0
                  have c3 : w9.cell? ⟨w.heap.size, 3, none⟩ = some (.int .i64 r.nu) := cell_at HU9.out 3
                  have c4 : w9.cell? ⟨w.heap.size, 4, none⟩ = some (.int .i64 r.de) := cell_at HU9.out 4
                  have zu := lt_of_obj HU9.out
                  refine wp_region_later w9 (Below.refl _ _) (by kernel_rfl) (by kernel_rfl) ?_
                  repeat (go_big_quiet_step (first
                    | (go_at_call 17; with_reducible exact Calls.later (HK.out _))
                    | (go_at_call 18; with_reducible exact Calls.later (HT.out _))
                    | (go_at_call 16; with_reducible exact Calls.later (HA.out _))))
                  refine wpQuiet_nil ?_
                  intro _ hx
                  obtain ⟨⟨wz, hbz⟩, hx⟩ := hx
                  subst hx
                  have HBZ := Lib.hid hbz
                  clear hbz HK HT HA
                  go_wp2
                  go_roundw
                  case rel => exact ⟨k + 1, s11, n, by omega, by go_num, rfl, rfl, hnn0, by omega, HM11, Lib.hid (HO9.out.below HBZ.out), Lib.hid HS11.out, Lib.hid ((obj_below HBZ.out (lt_of_obj HU9.out)).trans HU9.out), Lib.hid (HB9.out.trans (HBZ.out.mono HB9.out.size))⟩
                  case measure => simp [intOf]; omega
              · simp only [ruV] at HRep
                have HM11 := Lib.hid (mayE_set HM.out i (mayB_rep (mayE_at HM.out his)))
                have HS11 := Lib.hid (share_same i his (y := ⟨0, 0, s[i].u⟩) rfl HSn.out)
                generalize s.set i ⟨0, 0, s[i].u⟩ = s11 at *
                go_wp2_with fail
                refine HRep.out.mono ?_
                rintro e w9 ⟨v9, rfl, q1, q2⟩
                have HB9 := Lib.hid (HBA.out.trans (q2.mono HBA.out.size))
                have HU9 := Lib.hid ((obj_below q2 (lt_of_obj HUA.out)).trans HUA.out)
                have HO9 := Lib.hid (q1.rebase HBA.out.size)
                clear q1 q2 HRep HBA HUA HOA c0 c1 c2 c3 c4 hs1
                go_wp2_with fail
                have HK := Lib.hid (fun x : Later w9 => stake_any x.w _ _ l s11 n (HS.out.below (HB9.out.trans (x.h.mono HB9.out.size))) ((HO9.out.slIn stL_length).below x.h) (by have := (mayE_0 HM11.out).2.2.1; have := HL32.out; omega))
                have HT := Lib.hid (fun x : Later w9 => totalB x.w _ l (HS.out.below (HB9.out.trans (x.h.mono HB9.out.size))) HNN.out)
                have hbd := share_bd HM11.out n HS11.out
                have hde := HDE.out
                have HA := Lib.hid (fun x : Later w9 => leastB x.w r.nu r.de (stkI l s11 n) (tot l) hbd.1 (by omega) (by omega) hde hbd.2.2.1 (by omega) hbd.2.2.2.2.1 (by omega))
                rw [decide_eq_true hbd.2.2.2.2.2.2] at HA
                clear hbd hde
                generalize stkI l s11 n = kk at *
                generalize tot l = tt at *
                have c0 : w9.cell? ⟨w.heap.size, 0, none⟩ = some (.int .i64 r.f) := cell_at HU9.out 0
                have c3 : w9.cell? ⟨w.heap.size, 3, none⟩ = some (.int .i64 r.nu) := cell_at HU9.out 3
                have c4 : w9.cell? ⟨w.heap.size, 4, none⟩ = some (.int .i64 r.de) := cell_at HU9.out 4
                have zu := lt_of_obj HU9.out
                refine wp_region_later w9 (Below.refl _ _) (by kernel_rfl) (by kernel_rfl) ?_
                repeat (go_big_quiet_step (first
                  | (go_at_call 17; with_reducible exact Calls.later (HK.out _))
                  | (go_at_call 18; with_reducible exact Calls.later (HT.out _))
                  | (go_at_call 16; with_reducible exact Calls.later (HA.out _))))
                refine wpQuiet_nil ?_
                intro _ hx
                obtain ⟨⟨wz, hbz⟩, hx⟩ := hx
                subst hx
                have HBZ := Lib.hid hbz
                clear hbz HK HT HA
                go_wp2
                go_roundw
                case rel => exact ⟨k + 1, s11, n, by omega, by go_num, rfl, rfl, hnn0, by omega, HM11, Lib.hid (HO9.out.below HBZ.out), Lib.hid HS11.out, Lib.hid ((obj_below HBZ.out (lt_of_obj HU9.out)).trans HU9.out), Lib.hid (HB9.out.trans (HBZ.out.mono HB9.out.size))⟩
                case measure => simp [intOf]; omega
            · go_wp2
              go_ret
              exact ⟨rfl, HB.out⟩
        · rw [hr] at HR
          clear hr
          go_wp2_with fail
          refine HR.out.mono ?_
          rintro e w5 ⟨rfl, b5⟩
          have B5 := Lib.hid (B4.out.trans (b5.mono B4.out.size))
          go_wp2_with fail
          refine (HLL.out _).mono ?_
          rintro e w6 ⟨rfl, b6⟩
          go_wp2
          go_ret
          exact ⟨rfl, B5.out.trans (b6.mono B5.out.size)⟩
      · have hc2 : ¬ chk l = 0 := by simpa using hc
        generalize chk l = cl at *
        go_wp2_with fail
        refine (HLL.out _).mono ?_
        rintro e w5 ⟨rfl, b5⟩
        go_wp2
        go_ret
        exact ⟨rfl, B4.out.trans (b5.mono B4.out.size)⟩
    · have ha' : (200 : Int) < (acts.length : Int) := by omega
      clear ha
      go_wp2_with fail
      refine (HLL.out w3).mono ?_
      rintro e w4 ⟨rfl, b4⟩
      go_wp2
      go_ret
      exact ⟨rfl, B3.out.trans (b4.mono B3.out.size)⟩
end Go.Proofs.Ytiknonljdibfgaa
