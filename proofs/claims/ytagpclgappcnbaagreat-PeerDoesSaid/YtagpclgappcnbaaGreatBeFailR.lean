import Derived.Test.YtagpclgappcnbaaGreatBeR
import Derived.Test.YtagpclgappcnbaaGreatBeT
namespace Go.Proofs.YtagpclgappcnbaaGreat.Be
open Go.RowKit

theorem stays_of {r : Rul} {x : St} {now F S : Int} {RM : Bool} (hF : nF x = F) (hS : nS x now = S) : stays r x now RM = (decide (F < r.f) || decide (max (now - S) 0 < r.lo) || !RM) := by unfold stays; rw [hF, hS]
theorem nSeat_of {r : Rul} {x : St} {now F S : Int} {RM : Bool} (hF : nF x = F) (hS : nS x now = S) : nSeat r x now RM = if stays r x now RM = true then ⟨F, S, x.u⟩ else ⟨0, 0, now + min r.fo (4611686018427387903 - now)⟩ := by unfold nSeat; rw [hF, hS]
theorem wt_le_sum : ∀ (a : List Vd) (k : Nat) (hk : k < a.length), (∀ x ∈ a, 1 ≤ x.wt) → a[k].wt ≤ sumW a := by
  intro a
  induction a with
  | nil => intro k hk; simp at hk
  | cons x a ih =>
    intro k hk ha
    have hx := ha x (by simp)
    have hd := sumW_drop a 0 (fun y hy => ha y (by simp [hy]))
    rw [List.drop_zero] at hd
    cases k with
    | zero => simp only [List.getElem_cons_zero, sumW]; omega
    | succ k =>
      have := ih k (by simpa using hk) (fun y hy => ha y (by simp [hy]))
      simp only [List.getElem_cons_succ, sumW]; omega
theorem few_room {r : Rul} {l : List Vd} {s : List St} (hm : mayE r l s = 0) (i : Nat) (hi : i < s.length) (now : Int) : decide (r.de * (stkI l s now + wtA l i) ≤ r.nu * tot l) = roomF r l s i now ∧ 0 ≤ stkI l s now ∧ stkI l s now ≤ 4611686018427387903 ∧ 1 ≤ wtA l i ∧ wtA l i ≤ 4611686018427387903 ∧ 1 ≤ tot l ∧ tot l ≤ 4611686018427387903 := by
  obtain ⟨hr, hc, hl, _⟩ := mayE_0 hm
  obtain ⟨hl1, _, _, hw⟩ := chk_32 hc
  obtain ⟨s0, s1, s2⟩ := wtsF_sum _ _ hw (by decide)
  have h2 := ruleE_n hr
  have k0 := stkF_pos s2 (blL s now)
  have k1 := stkF_le s2 hl (List.prefix_refl (blL s now))
  have hil : i < l.length := by omega
  have hwi : wtA l (i : Int) = l[i].wt := by unfold wtA; simp [List.getD, hil]
  have w1 : 1 ≤ l[i].wt := s2 _ (List.getElem_mem hil)
  have w2 : l[i].wt ≤ sumW l := wt_le_sum l i hil s2
  have ht : tot l = sumW l := if_pos hc
  have hs : stkI l s now = stkF l (blL s now) := if_pos ⟨hc, hl⟩
  refine ⟨?_, by omega, by omega, by omega, by omega, by omega, by omega⟩
  unfold roomF alI
  rw [show IntKind.i64.wrap (stkI l s now + wtA l i) = stkI l s now + wtA l i by rw [hs]; simp [IntKind.wrap, IntKind.signed, IntKind.bits]; omega]
  generalize stkI l s now = k at *
  generalize wtA l (i : Int) = q at *
  generalize tot l = t at *
  rw [Bool.eq_iff_iff]
  simp only [Bool.and_eq_true, decide_eq_true_eq]
  rw [Int.mul_comm r.de, Int.mul_comm r.nu]
  constructor
  · intro h
    refine ⟨?_, h⟩
    by_cases hn : 1 ≤ r.nu
    · exact hn
    · exfalso
      have hn0 : r.nu = 0 := by omega
      rw [hn0, Int.mul_zero] at h
      have : 0 < (k + q) * r.de := Int.mul_pos (by omega) (by omega)
      omega
  · exact fun h => h.2
set_option maxRecDepth 100000 in
set_option maxHeartbeats 2000000 in
/-- flurryref15.Failed, of what may be and is not benched -/
theorem failedR_any (w : World) (r : Rul) (v1 v2 : Value) (l : List Vd) (s : List St) (i : Nat) (now : Int) (h : SlIn w v1 2 vdL l) (h2 : SlIn w v2 3 stL s) (hN : ∀ x ∈ l, x.name.size ≤ 300) (hm : mayE r l s = 0) (hi : i < s.length) (hn0 : 0 ≤ now) (hn1 : now ≤ 4611686018427387903) (hnot : isB s (i : Int) now = false) (hde : r.de < 9223372036854775808) :
    Calls Tryz.prog 82 #[ruV r, v1, v2, .int .i64 i, .int .i64 now] w fun e w' => ∃ v : Value, e = .returned (.tuple #[v, .bool (!stays r s[i] now (roomF r l s i now)), .int .i64 0]) ∧ OwnS w' w.heap.size 138 3 stL v (s.set i (nSeat r s[i] now (roomF r l s i now))) ∧ Below w.heap.size w w' := by
  have b1 : Below w.heap.size w (w.alloc (.cells (ruC r) 25)) := (Below.refl _ _).alloc (Nat.le_refl _) _
  have o1 : obj (w.alloc (.cells (ruC r) 25)) w.heap.size = some (.cells (ruC r) 25 (0, 0)) := obj_alloc_at _ _ _ rfl
  have HM := Lib.hid (mayR_any _ r v1 v2 l s (h.below b1) (h2.below b1) hN)
  obtain ⟨hre, hc, hl, hall⟩ := mayE_0 hm
  obtain ⟨_, hl32, _, _⟩ := chk_32 hc
  have HS := Lib.hid h
  have HS2 := Lib.hid h2
  have HNN := Lib.hid hN
  have HMM := Lib.hid hm
  have HRO := Lib.hid (few_room hm i hi now)
  have hq := ruleE_n hre
  have hx := mayB_n (mayE_at hm hi)
  rw [hm] at HM
  obtain ⟨oa, cap, rfl, g1, g2, g3⟩ := h
  unfold maxLen at g2
  obtain ⟨oa2, cap2, rfl, k1, k2, k3⟩ := h2
  unfold maxLen at k2
  have HL := Lib.hid hl
  have hi1 : ¬ (i : Int) < 0 := by omega
  have hi2 : ¬ (s.length : Int) ≤ (i : Int) := by omega
  have hi3 : i < l.length := by omega
  have hil : (i : Int) < (l.length : Int) := by omega
  obtain ⟨b, off, rfl, hbb, hrow⟩ := g3 (by omega)
  obtain ⟨b2, off2, rfl, hbb2, hrow2⟩ := k3 (by omega)
  have HR1 := Lib.hid (hrow i hi3)
  have HR2 := Lib.hid (hrow2 i hi)
  have HWA : Hid (wtA l (i : Int) = l[i].wt) := Lib.hid (by unfold wtA; simp [List.getD, hi3])
  have B1 := Lib.hid b1
  have O1 := Lib.hid o1
  have HNOT := Lib.hid hnot
  have HIN := Lib.hid (fun W => in_any now 4611686018427387903 W)
  rw [show (decide (0 ≤ now) && decide (now ≤ 4611686018427387903)) = true by simp; omega] at HIN
  clear g3 k3 hm hc hl b1 o1 hall hrow hrow2 hnot hre
  simp only [ruV, ruC] at *
  go_enter Tryz.func82, Tryz.ntmps82
  go_wp2_with fail
  generalize (w.alloc (.cells #[.int .i64 r.f, .int .i64 r.lo, .int .i64 r.fo, .int .i64 r.nu, .int .i64 r.de] 25)) = w1 at *
  refine HM.out.mono ?_
  rintro e w2 ⟨rfl, b2'⟩
  have B2 := Lib.hid (B1.out.trans (b2'.mono B1.out.size))
  have O2 := Lib.hid ((obj_below b2' (lt_of_obj O1.out)).trans O1.out)
  have HIS := Lib.hid (isR_any w2 _ s (i : Int) now (HS2.out.below B2.out))
  rw [HNOT.out] at HIS
  clear b2' HM B1 O1
  go_wp2_with fail
  refine (HIN.out _).mono ?_
  rintro e w3 ⟨rfl, rfl⟩
  go_wp2_with fail
  refine HIS.out.mono ?_
  rintro e w3 ⟨rfl, rfl⟩
  have hs2 := HR2.out
  rw [← obj_below B2.out hbb2] at hs2
  have hbl2 : b2 < w2.heap.size := Nat.lt_of_lt_of_le hbb2 B2.out.size
  generalize hxe : s[i] = x at hs2 hx
  obtain ⟨xf, xs, xu⟩ := x
  simp only [stL] at hs2 hx
  have HXE := Lib.hid hxe
  clear hxe HIS HNOT HIN
  by_cases hf0 : xf = 0
  · subst hf0
    go_wp2
    have HB4 := Lib.hid (B2.out.alloc B2.out.size (.cells #[.int .i64 1, .int .i64 now, .int .i64 xu] 138))
    have ob4 : obj (w2.alloc (.cells #[.int .i64 1, .int .i64 now, .int .i64 xu] 138)) w2.heap.size = some (.cells #[.int .i64 1, .int .i64 now, .int .i64 xu] 138 (0, 0)) := obj_alloc_at _ _ _ rfl
    have ou4 := (obj_alloc_past w2 (.cells #[.int .i64 1, .int .i64 now, .int .i64 xu] 138) _ (lt_of_obj O2.out)).trans O2.out
    generalize w2.alloc (.cells #[.int .i64 1, .int .i64 now, .int .i64 xu] 138) = w4 at *
    generalize w2.heap.size = bx at *
    have hsw := HR1.out
    rw [← obj_below HB4.out hbb] at hsw
    have cw : w4.cell? ⟨b, off + i * 2 + 1, none⟩ = some (.int .i64 l[i].wt) := by have := subOf_cell hsw (j := 1) (by decide); simpa using this
    have hbl4 : b < w4.heap.size := Nat.lt_of_lt_of_le hbb HB4.out.size
    have hro := HRO.out
    rw [HWA.out] at hro
    have HK := Lib.hid (fun x : Later w4 => stakeR_any x.w _ _ l s now (HS.out.below (HB4.out.trans (x.h.mono HB4.out.size))) (HS2.out.below (HB4.out.trans (x.h.mono HB4.out.size))) HNN.out)
    have HA := Lib.hid (fun W => leastB W r.nu r.de (stkI l s now + l[i].wt) (tot l) (by omega) (by omega) (by omega) hde (by omega) (by omega) hro.2.2.2.2.2.1 (by omega))
    rw [hro.1] at HA
    have hkb : 0 ≤ stkI l s now ∧ stkI l s now ≤ 4611686018427387903 ∧ 1 ≤ l[i].wt ∧ l[i].wt ≤ 4611686018427387903 := ⟨hro.2.1, hro.2.2.1, hro.2.2.2.1, hro.2.2.2.2.1⟩
    clear hro hsw hs2 B2 O2
    generalize hRM : roomF r l s i now = RM at *
    have HRMH := Lib.hid hRM
    clear hRM
    generalize l[i].wt = wt at *
    generalize stkI l s now = kk at *
    have HB4' := Lib.hid ob4
    have HU4 := Lib.hid ou4
    clear ob4 ou4
    have HVV : Hid (stays r s[i] now RM = (decide (1 < r.f) || decide (max (now - now) 0 < r.lo) || !RM)) := Lib.hid (by rw [HXE.out]; exact stays_of (by unfold nF; simp only; omega) (if_pos rfl))
    have HNN2 : Hid (nSeat r s[i] now RM = if stays r s[i] now RM = true then ⟨1, now, xu⟩ else ⟨0, 0, now + min r.fo (4611686018427387903 - now)⟩) := Lib.hid (by rw [HXE.out]; exact nSeat_of (by unfold nF; simp only; omega) (if_pos rfl))
    refine wp_region_later w4 (Below.refl _ _) (by kernel_rfl) (by kernel_rfl) ?_
    repeat (go_big_quiet_step (first
      | (go_at_call 122; with_reducible exact Calls.later (HK.out _))))
    refine wpQuiet_nil ?_
    intro _ hx'
    obtain ⟨⟨w5, hb5⟩, hx'⟩ := hx'
    subst hx'
    rename_i w5
    have HB5 := Lib.hid (HB4.out.trans (hb5.mono HB4.out.size))
    have OB5 := Lib.hid ((obj_below hb5 (lt_of_obj HB4'.out)).trans HB4'.out)
    have OU5 := Lib.hid ((obj_below hb5 (lt_of_obj HU4.out)).trans HU4.out)
    clear hb5 HK cw HB4' HU4

    have HT := Lib.hid (fun x : Later w5 => totalB x.w _ l (HS.out.below (HB5.out.trans (x.h.mono HB5.out.size))) HNN.out)
    have HA2 := Lib.hid (fun x : Later w5 => HA.out x.w)
    have c3 : w5.cell? ⟨w.heap.size, 3, none⟩ = some (.int .i64 r.nu) := cell_at OU5.out 3
    have c4 : w5.cell? ⟨w.heap.size, 4, none⟩ = some (.int .i64 r.de) := cell_at OU5.out 4
    have zu := lt_of_obj OU5.out
    go_wp2
    refine wp_region_later w5 (Below.refl _ _) (by kernel_rfl) (by kernel_rfl) ?_
    repeat (go_big_quiet_step (first
      | (go_at_call 124; with_reducible exact Calls.later (HT.out _))
      | (go_at_call 123; with_reducible exact Calls.later (HA2.out _))))
    refine wpQuiet_nil ?_
    intro _ hx'
    obtain ⟨⟨w6, hb6⟩, hx'⟩ := hx'
    subst hx'
    rename_i w6
    have HB6 := Lib.hid (HB5.out.trans (hb6.mono HB5.out.size))
    have ob6 := (obj_below hb6 (lt_of_obj OB5.out)).trans OB5.out
    have ou6 := (obj_below hb6 (lt_of_obj OU5.out)).trans OU5.out
    have d0 : w6.cell? ⟨bx, 0, none⟩ = some (.int .i64 1) := cell_at ob6 0
    have d1 : w6.cell? ⟨bx, 1, none⟩ = some (.int .i64 now) := cell_at ob6 1
    have d2 : w6.cell? ⟨bx, 2, none⟩ = some (.int .i64 xu) := cell_at ob6 2
    have sx6 : subOf (obj w6 bx) 0 3 = some #[.int .i64 1, .int .i64 now, .int .i64 xu] := by rw [ob6, subOf_cells (by simp), subA_all (by simp)]
    have e0 : w6.cell? ⟨w.heap.size, 0, none⟩ = some (.int .i64 r.f) := cell_at ou6 0
    have e1 : w6.cell? ⟨w.heap.size, 1, none⟩ = some (.int .i64 r.lo) := cell_at ou6 1
    have e2 : w6.cell? ⟨w.heap.size, 2, none⟩ = some (.int .i64 r.fo) := cell_at ou6 2
    have zu6 := lt_of_obj ou6
    have zb6 := lt_of_obj ob6
    clear hb6 HT HA HA2 c3 c4 OB5 OU5 ob6 ou6 HB5

    by_cases hA : 1 < r.f
    · have hst : stays r s[i] now RM = true := by rw [HVV.out]; simp [hA]
      have hA' : decide (1 < r.f) = true := by simpa using hA
      have HWI := Lib.hid (with_any w6 _ s i ⟨1, now, xu⟩ (HS2.out.below HB6.out) hi (by have := HL.out; omega))
      simp only [stV] at HWI
      go_wp2_with fail
      refine HWI.out.mono ?_
      rintro e w9 ⟨v9, rfl, q9, b9⟩
      go_wp2
      refine bodyPost_ret (v := .tuple #[v9, .bool false, .int .i64 0]) (by simp [results, Tryz.results82, go_sem]) rfl ⟨v9, by rw [HRMH.out, hst]; rfl, by rw [HRMH.out, HNN2.out, hst]; exact q9.rebase HB6.out.size, HB6.out.trans (b9.mono HB6.out.size)⟩
    · have hA' : decide (1 < r.f) = false := by simpa using hA
      have HMX : ∀ m : Int, m = max (now - now) 0 → (m < r.lo → stays r s[i] now RM = true) ∧ (¬ m < r.lo → stays r s[i] now RM = !RM) := fun m hm => ⟨fun h => by rw [HVV.out, ← hm]; simp [h], fun h => by rw [HVV.out, ← hm, hA', decide_eq_false h]; simp⟩
      have HMXH := Lib.hid HMX
      clear HMX
      have hz : now - now = 0 := by omega
      by_cases hB : 0 < r.lo
      · have hst : stays r s[i] now RM = true := (HMXH.out 0 (by omega)).1 hB
        have HWI := Lib.hid (with_any w6 _ s i ⟨1, now, xu⟩ (HS2.out.below HB6.out) hi (by have := HL.out; omega))
        simp only [stV] at HWI
        go_wp2_with fail
        refine HWI.out.mono ?_
        rintro e w9 ⟨v9, rfl, q9, b9⟩
        go_wp2
        refine bodyPost_ret (v := .tuple #[v9, .bool false, .int .i64 0]) (by simp [results, Tryz.results82, go_sem]) rfl ⟨v9, by rw [HRMH.out, hst]; rfl, by rw [HRMH.out, HNN2.out, hst]; exact q9.rebase HB6.out.size, HB6.out.trans (b9.mono HB6.out.size)⟩
      · have hst0 : stays r s[i] now RM = !RM := (HMXH.out 0 (by omega)).2 hB
        cases RM with
        | false =>
          have hst : stays r s[i] now false = true := hst0
          have HWI := Lib.hid (with_any w6 _ s i ⟨1, now, xu⟩ (HS2.out.below HB6.out) hi (by have := HL.out; omega))
          simp only [stV] at HWI
          go_wp2_with fail
          refine HWI.out.mono ?_
          rintro e w9 ⟨v9, rfl, q9, b9⟩
          go_wp2
          refine bodyPost_ret (v := .tuple #[v9, .bool false, .int .i64 0]) (by simp [results, Tryz.results82, go_sem]) rfl ⟨v9, by rw [HRMH.out, hst]; rfl, by rw [HRMH.out, HNN2.out, hst]; exact q9.rebase HB6.out.size, HB6.out.trans (b9.mono HB6.out.size)⟩
        | true =>
          have hst : stays r s[i] now true = false := hst0
          by_cases hK : 4611686018427387903 < now + r.fo
          · have hmn : min r.fo (4611686018427387903 - now) = 4611686018427387903 - now := by omega
            rw [hmn] at HNN2
            have hsum : now + (4611686018427387903 - now) = 4611686018427387903 := by omega
            rw [hsum] at HNN2
            have HWI := Lib.hid (with_any w6 _ s i ⟨0, 0, 4611686018427387903⟩ (HS2.out.below HB6.out) hi (by have := HL.out; omega))
            simp only [stV] at HWI
            go_wp2_with fail
            refine HWI.out.mono ?_
            rintro e w9 ⟨v9, rfl, q9, b9⟩
            go_wp2
            refine bodyPost_ret (v := .tuple #[v9, .bool true, .int .i64 0]) (by simp [results, Tryz.results82, go_sem]) rfl ⟨v9, by rw [HRMH.out, hst]; rfl, by rw [HRMH.out, HNN2.out, hst]; exact q9.rebase HB6.out.size, HB6.out.trans (b9.mono HB6.out.size)⟩
          · have hmn : min r.fo (4611686018427387903 - now) = r.fo := by omega
            rw [hmn] at HNN2
            have HWI := Lib.hid (with_any w6 _ s i ⟨0, 0, now + r.fo⟩ (HS2.out.below HB6.out) hi (by have := HL.out; omega))
            simp only [stV] at HWI
            go_wp2_with fail
            refine HWI.out.mono ?_
            rintro e w9 ⟨v9, rfl, q9, b9⟩
            go_wp2
            refine bodyPost_ret (v := .tuple #[v9, .bool true, .int .i64 0]) (by simp [results, Tryz.results82, go_sem]) rfl ⟨v9, by rw [HRMH.out, hst]; rfl, by rw [HRMH.out, HNN2.out, hst]; exact q9.rebase HB6.out.size, HB6.out.trans (b9.mono HB6.out.size)⟩
  · have hf0' : (xf == 0) = false := by simpa using hf0
    by_cases htop : xf + 1 ≤ 1000
    · have htop' : ¬ 1000 < xf + 1 := by omega
      skip
      go_wp2
      have HB4 := Lib.hid (B2.out.alloc B2.out.size (.cells #[.int .i64 (xf + 1), .int .i64 xs, .int .i64 xu] 138))
      have ob4 : obj (w2.alloc (.cells #[.int .i64 (xf + 1), .int .i64 xs, .int .i64 xu] 138)) w2.heap.size = some (.cells #[.int .i64 (xf + 1), .int .i64 xs, .int .i64 xu] 138 (0, 0)) := obj_alloc_at _ _ _ rfl
      have ou4 := (obj_alloc_past w2 (.cells #[.int .i64 (xf + 1), .int .i64 xs, .int .i64 xu] 138) _ (lt_of_obj O2.out)).trans O2.out
      generalize w2.alloc (.cells #[.int .i64 (xf + 1), .int .i64 xs, .int .i64 xu] 138) = w4 at *
      generalize w2.heap.size = bx at *
      have hsw := HR1.out
      rw [← obj_below HB4.out hbb] at hsw
      have cw : w4.cell? ⟨b, off + i * 2 + 1, none⟩ = some (.int .i64 l[i].wt) := by have := subOf_cell hsw (j := 1) (by decide); simpa using this
      have hbl4 : b < w4.heap.size := Nat.lt_of_lt_of_le hbb HB4.out.size
      have hro := HRO.out
      rw [HWA.out] at hro
      have HK := Lib.hid (fun x : Later w4 => stakeR_any x.w _ _ l s now (HS.out.below (HB4.out.trans (x.h.mono HB4.out.size))) (HS2.out.below (HB4.out.trans (x.h.mono HB4.out.size))) HNN.out)
      have HA := Lib.hid (fun W => leastB W r.nu r.de (stkI l s now + l[i].wt) (tot l) (by omega) (by omega) (by omega) hde (by omega) (by omega) hro.2.2.2.2.2.1 (by omega))
      rw [hro.1] at HA
      have hkb : 0 ≤ stkI l s now ∧ stkI l s now ≤ 4611686018427387903 ∧ 1 ≤ l[i].wt ∧ l[i].wt ≤ 4611686018427387903 := ⟨hro.2.1, hro.2.2.1, hro.2.2.2.1, hro.2.2.2.2.1⟩
      clear hro hsw hs2 B2 O2
      generalize hRM : roomF r l s i now = RM at *
      have HRMH := Lib.hid hRM
      clear hRM
      generalize l[i].wt = wt at *
      generalize stkI l s now = kk at *
      have HB4' := Lib.hid ob4
      have HU4 := Lib.hid ou4
      clear ob4 ou4
      have HVV : Hid (stays r s[i] now RM = (decide ((xf + 1) < r.f) || decide (max (now - xs) 0 < r.lo) || !RM)) := Lib.hid (by rw [HXE.out]; exact stays_of (by unfold nF; simp only; omega) (if_neg hf0))
      have HNN2 : Hid (nSeat r s[i] now RM = if stays r s[i] now RM = true then ⟨(xf + 1), xs, xu⟩ else ⟨0, 0, now + min r.fo (4611686018427387903 - now)⟩) := Lib.hid (by rw [HXE.out]; exact nSeat_of (by unfold nF; simp only; omega) (if_neg hf0))
      refine wp_region_later w4 (Below.refl _ _) (by kernel_rfl) (by kernel_rfl) ?_
      repeat (go_big_quiet_step (first
        | (go_at_call 122; with_reducible exact Calls.later (HK.out _))))
      refine wpQuiet_nil ?_
      intro _ hx'
      obtain ⟨⟨w5, hb5⟩, hx'⟩ := hx'
      subst hx'
      rename_i w5
      have HB5 := Lib.hid (HB4.out.trans (hb5.mono HB4.out.size))
      have OB5 := Lib.hid ((obj_below hb5 (lt_of_obj HB4'.out)).trans HB4'.out)
      have OU5 := Lib.hid ((obj_below hb5 (lt_of_obj HU4.out)).trans HU4.out)
      clear hb5 HK cw HB4' HU4

      have HT := Lib.hid (fun x : Later w5 => totalB x.w _ l (HS.out.below (HB5.out.trans (x.h.mono HB5.out.size))) HNN.out)
      have HA2 := Lib.hid (fun x : Later w5 => HA.out x.w)
      have c3 : w5.cell? ⟨w.heap.size, 3, none⟩ = some (.int .i64 r.nu) := cell_at OU5.out 3
      have c4 : w5.cell? ⟨w.heap.size, 4, none⟩ = some (.int .i64 r.de) := cell_at OU5.out 4
      have zu := lt_of_obj OU5.out
      go_wp2
      refine wp_region_later w5 (Below.refl _ _) (by kernel_rfl) (by kernel_rfl) ?_
      repeat (go_big_quiet_step (first
        | (go_at_call 124; with_reducible exact Calls.later (HT.out _))
        | (go_at_call 123; with_reducible exact Calls.later (HA2.out _))))
      refine wpQuiet_nil ?_
      intro _ hx'
      obtain ⟨⟨w6, hb6⟩, hx'⟩ := hx'
      subst hx'
      rename_i w6
      have HB6 := Lib.hid (HB5.out.trans (hb6.mono HB5.out.size))
      have ob6 := (obj_below hb6 (lt_of_obj OB5.out)).trans OB5.out
      have ou6 := (obj_below hb6 (lt_of_obj OU5.out)).trans OU5.out
      have d0 : w6.cell? ⟨bx, 0, none⟩ = some (.int .i64 (xf + 1)) := cell_at ob6 0
      have d1 : w6.cell? ⟨bx, 1, none⟩ = some (.int .i64 xs) := cell_at ob6 1
      have d2 : w6.cell? ⟨bx, 2, none⟩ = some (.int .i64 xu) := cell_at ob6 2
      have sx6 : subOf (obj w6 bx) 0 3 = some #[.int .i64 (xf + 1), .int .i64 xs, .int .i64 xu] := by rw [ob6, subOf_cells (by simp), subA_all (by simp)]
      have e0 : w6.cell? ⟨w.heap.size, 0, none⟩ = some (.int .i64 r.f) := cell_at ou6 0
      have e1 : w6.cell? ⟨w.heap.size, 1, none⟩ = some (.int .i64 r.lo) := cell_at ou6 1
      have e2 : w6.cell? ⟨w.heap.size, 2, none⟩ = some (.int .i64 r.fo) := cell_at ou6 2
      have zu6 := lt_of_obj ou6
      have zb6 := lt_of_obj ob6
      clear hb6 HT HA HA2 c3 c4 OB5 OU5 ob6 ou6 HB5

      by_cases hA : (xf + 1) < r.f
      · have hst : stays r s[i] now RM = true := by rw [HVV.out]; simp [hA]
        have hA' : decide ((xf + 1) < r.f) = true := by simpa using hA
        have HWI := Lib.hid (with_any w6 _ s i ⟨(xf + 1), xs, xu⟩ (HS2.out.below HB6.out) hi (by have := HL.out; omega))
        simp only [stV] at HWI
        go_wp2_with fail
        refine HWI.out.mono ?_
        rintro e w9 ⟨v9, rfl, q9, b9⟩
        go_wp2
        refine bodyPost_ret (v := .tuple #[v9, .bool false, .int .i64 0]) (by simp [results, Tryz.results82, go_sem]) rfl ⟨v9, by rw [HRMH.out, hst]; rfl, by rw [HRMH.out, HNN2.out, hst]; exact q9.rebase HB6.out.size, HB6.out.trans (b9.mono HB6.out.size)⟩
      · have hA' : decide ((xf + 1) < r.f) = false := by simpa using hA
        have HMX : ∀ m : Int, m = max (now - xs) 0 → (m < r.lo → stays r s[i] now RM = true) ∧ (¬ m < r.lo → stays r s[i] now RM = !RM) := fun m hm => ⟨fun h => by rw [HVV.out, ← hm]; simp [h], fun h => by rw [HVV.out, ← hm, hA', decide_eq_false h]; simp⟩
        have HMXH := Lib.hid HMX
        clear HMX
        by_cases hneg : now - xs < 0
        · skip
          by_cases hB : 0 < r.lo
          · have hst : stays r s[i] now RM = true := (HMXH.out 0 (by omega)).1 hB
            have HWI := Lib.hid (with_any w6 _ s i ⟨(xf + 1), xs, xu⟩ (HS2.out.below HB6.out) hi (by have := HL.out; omega))
            simp only [stV] at HWI
            go_wp2_with fail
            refine HWI.out.mono ?_
            rintro e w9 ⟨v9, rfl, q9, b9⟩
            go_wp2
            refine bodyPost_ret (v := .tuple #[v9, .bool false, .int .i64 0]) (by simp [results, Tryz.results82, go_sem]) rfl ⟨v9, by rw [HRMH.out, hst]; rfl, by rw [HRMH.out, HNN2.out, hst]; exact q9.rebase HB6.out.size, HB6.out.trans (b9.mono HB6.out.size)⟩
          · have hst0 : stays r s[i] now RM = !RM := (HMXH.out 0 (by omega)).2 hB
            cases RM with
            | false =>
              have hst : stays r s[i] now false = true := hst0
              have HWI := Lib.hid (with_any w6 _ s i ⟨(xf + 1), xs, xu⟩ (HS2.out.below HB6.out) hi (by have := HL.out; omega))
              simp only [stV] at HWI
              go_wp2_with fail
              refine HWI.out.mono ?_
              rintro e w9 ⟨v9, rfl, q9, b9⟩
              go_wp2
              refine bodyPost_ret (v := .tuple #[v9, .bool false, .int .i64 0]) (by simp [results, Tryz.results82, go_sem]) rfl ⟨v9, by rw [HRMH.out, hst]; rfl, by rw [HRMH.out, HNN2.out, hst]; exact q9.rebase HB6.out.size, HB6.out.trans (b9.mono HB6.out.size)⟩
            | true =>
              have hst : stays r s[i] now true = false := hst0
              by_cases hK : 4611686018427387903 < now + r.fo
              · have hmn : min r.fo (4611686018427387903 - now) = 4611686018427387903 - now := by omega
                rw [hmn] at HNN2
                have hsum : now + (4611686018427387903 - now) = 4611686018427387903 := by omega
                rw [hsum] at HNN2
                have HWI := Lib.hid (with_any w6 _ s i ⟨0, 0, 4611686018427387903⟩ (HS2.out.below HB6.out) hi (by have := HL.out; omega))
                simp only [stV] at HWI
                go_wp2_with fail
                refine HWI.out.mono ?_
                rintro e w9 ⟨v9, rfl, q9, b9⟩
                go_wp2
                refine bodyPost_ret (v := .tuple #[v9, .bool true, .int .i64 0]) (by simp [results, Tryz.results82, go_sem]) rfl ⟨v9, by rw [HRMH.out, hst]; rfl, by rw [HRMH.out, HNN2.out, hst]; exact q9.rebase HB6.out.size, HB6.out.trans (b9.mono HB6.out.size)⟩
              · have hmn : min r.fo (4611686018427387903 - now) = r.fo := by omega
                rw [hmn] at HNN2
                have HWI := Lib.hid (with_any w6 _ s i ⟨0, 0, now + r.fo⟩ (HS2.out.below HB6.out) hi (by have := HL.out; omega))
                simp only [stV] at HWI
                go_wp2_with fail
                refine HWI.out.mono ?_
                rintro e w9 ⟨v9, rfl, q9, b9⟩
                go_wp2
                refine bodyPost_ret (v := .tuple #[v9, .bool true, .int .i64 0]) (by simp [results, Tryz.results82, go_sem]) rfl ⟨v9, by rw [HRMH.out, hst]; rfl, by rw [HRMH.out, HNN2.out, hst]; exact q9.rebase HB6.out.size, HB6.out.trans (b9.mono HB6.out.size)⟩
        · skip
          by_cases hB : (now - xs) < r.lo
          · have hst : stays r s[i] now RM = true := (HMXH.out (now - xs) (by omega)).1 hB
            have HWI := Lib.hid (with_any w6 _ s i ⟨(xf + 1), xs, xu⟩ (HS2.out.below HB6.out) hi (by have := HL.out; omega))
            simp only [stV] at HWI
            go_wp2_with fail
            refine HWI.out.mono ?_
            rintro e w9 ⟨v9, rfl, q9, b9⟩
            go_wp2
            refine bodyPost_ret (v := .tuple #[v9, .bool false, .int .i64 0]) (by simp [results, Tryz.results82, go_sem]) rfl ⟨v9, by rw [HRMH.out, hst]; rfl, by rw [HRMH.out, HNN2.out, hst]; exact q9.rebase HB6.out.size, HB6.out.trans (b9.mono HB6.out.size)⟩
          · have hst0 : stays r s[i] now RM = !RM := (HMXH.out (now - xs) (by omega)).2 hB
            cases RM with
            | false =>
              have hst : stays r s[i] now false = true := hst0
              have HWI := Lib.hid (with_any w6 _ s i ⟨(xf + 1), xs, xu⟩ (HS2.out.below HB6.out) hi (by have := HL.out; omega))
              simp only [stV] at HWI
              go_wp2_with fail
              refine HWI.out.mono ?_
              rintro e w9 ⟨v9, rfl, q9, b9⟩
              go_wp2
              refine bodyPost_ret (v := .tuple #[v9, .bool false, .int .i64 0]) (by simp [results, Tryz.results82, go_sem]) rfl ⟨v9, by rw [HRMH.out, hst]; rfl, by rw [HRMH.out, HNN2.out, hst]; exact q9.rebase HB6.out.size, HB6.out.trans (b9.mono HB6.out.size)⟩
            | true =>
              have hst : stays r s[i] now true = false := hst0
              by_cases hK : 4611686018427387903 < now + r.fo
              · have hmn : min r.fo (4611686018427387903 - now) = 4611686018427387903 - now := by omega
                rw [hmn] at HNN2
                have hsum : now + (4611686018427387903 - now) = 4611686018427387903 := by omega
                rw [hsum] at HNN2
                have HWI := Lib.hid (with_any w6 _ s i ⟨0, 0, 4611686018427387903⟩ (HS2.out.below HB6.out) hi (by have := HL.out; omega))
                simp only [stV] at HWI
                go_wp2_with fail
                refine HWI.out.mono ?_
                rintro e w9 ⟨v9, rfl, q9, b9⟩
                go_wp2
                refine bodyPost_ret (v := .tuple #[v9, .bool true, .int .i64 0]) (by simp [results, Tryz.results82, go_sem]) rfl ⟨v9, by rw [HRMH.out, hst]; rfl, by rw [HRMH.out, HNN2.out, hst]; exact q9.rebase HB6.out.size, HB6.out.trans (b9.mono HB6.out.size)⟩
              · have hmn : min r.fo (4611686018427387903 - now) = r.fo := by omega
                rw [hmn] at HNN2
                have HWI := Lib.hid (with_any w6 _ s i ⟨0, 0, now + r.fo⟩ (HS2.out.below HB6.out) hi (by have := HL.out; omega))
                simp only [stV] at HWI
                go_wp2_with fail
                refine HWI.out.mono ?_
                rintro e w9 ⟨v9, rfl, q9, b9⟩
                go_wp2
                refine bodyPost_ret (v := .tuple #[v9, .bool true, .int .i64 0]) (by simp [results, Tryz.results82, go_sem]) rfl ⟨v9, by rw [HRMH.out, hst]; rfl, by rw [HRMH.out, HNN2.out, hst]; exact q9.rebase HB6.out.size, HB6.out.trans (b9.mono HB6.out.size)⟩
    · have htop' : xf = 1000 := by omega
      subst htop'
      skip
      go_wp2
      have HB4 := Lib.hid (B2.out.alloc B2.out.size (.cells #[.int .i64 1000, .int .i64 xs, .int .i64 xu] 138))
      have ob4 : obj (w2.alloc (.cells #[.int .i64 1000, .int .i64 xs, .int .i64 xu] 138)) w2.heap.size = some (.cells #[.int .i64 1000, .int .i64 xs, .int .i64 xu] 138 (0, 0)) := obj_alloc_at _ _ _ rfl
      have ou4 := (obj_alloc_past w2 (.cells #[.int .i64 1000, .int .i64 xs, .int .i64 xu] 138) _ (lt_of_obj O2.out)).trans O2.out
      generalize w2.alloc (.cells #[.int .i64 1000, .int .i64 xs, .int .i64 xu] 138) = w4 at *
      generalize w2.heap.size = bx at *
      have hsw := HR1.out
      rw [← obj_below HB4.out hbb] at hsw
      have cw : w4.cell? ⟨b, off + i * 2 + 1, none⟩ = some (.int .i64 l[i].wt) := by have := subOf_cell hsw (j := 1) (by decide); simpa using this
      have hbl4 : b < w4.heap.size := Nat.lt_of_lt_of_le hbb HB4.out.size
      have hro := HRO.out
      rw [HWA.out] at hro
      have HK := Lib.hid (fun x : Later w4 => stakeR_any x.w _ _ l s now (HS.out.below (HB4.out.trans (x.h.mono HB4.out.size))) (HS2.out.below (HB4.out.trans (x.h.mono HB4.out.size))) HNN.out)
      have HA := Lib.hid (fun W => leastB W r.nu r.de (stkI l s now + l[i].wt) (tot l) (by omega) (by omega) (by omega) hde (by omega) (by omega) hro.2.2.2.2.2.1 (by omega))
      rw [hro.1] at HA
      have hkb : 0 ≤ stkI l s now ∧ stkI l s now ≤ 4611686018427387903 ∧ 1 ≤ l[i].wt ∧ l[i].wt ≤ 4611686018427387903 := ⟨hro.2.1, hro.2.2.1, hro.2.2.2.1, hro.2.2.2.2.1⟩
      clear hro hsw hs2 B2 O2
      generalize hRM : roomF r l s i now = RM at *
      have HRMH := Lib.hid hRM
      clear hRM
      generalize l[i].wt = wt at *
      generalize stkI l s now = kk at *
      have HB4' := Lib.hid ob4
      have HU4 := Lib.hid ou4
      clear ob4 ou4
      have HVV : Hid (stays r s[i] now RM = (decide (1000 < r.f) || decide (max (now - xs) 0 < r.lo) || !RM)) := Lib.hid (by rw [HXE.out]; exact stays_of (by unfold nF; simp only; omega) (if_neg hf0))
      have HNN2 : Hid (nSeat r s[i] now RM = if stays r s[i] now RM = true then ⟨1000, xs, xu⟩ else ⟨0, 0, now + min r.fo (4611686018427387903 - now)⟩) := Lib.hid (by rw [HXE.out]; exact nSeat_of (by unfold nF; simp only; omega) (if_neg hf0))
      refine wp_region_later w4 (Below.refl _ _) (by kernel_rfl) (by kernel_rfl) ?_
      repeat (go_big_quiet_step (first
        | (go_at_call 122; with_reducible exact Calls.later (HK.out _))))
      refine wpQuiet_nil ?_
      intro _ hx'
      obtain ⟨⟨w5, hb5⟩, hx'⟩ := hx'
      subst hx'
      rename_i w5
      have HB5 := Lib.hid (HB4.out.trans (hb5.mono HB4.out.size))
      have OB5 := Lib.hid ((obj_below hb5 (lt_of_obj HB4'.out)).trans HB4'.out)
      have OU5 := Lib.hid ((obj_below hb5 (lt_of_obj HU4.out)).trans HU4.out)
      clear hb5 HK cw HB4' HU4

      have HT := Lib.hid (fun x : Later w5 => totalB x.w _ l (HS.out.below (HB5.out.trans (x.h.mono HB5.out.size))) HNN.out)
      have HA2 := Lib.hid (fun x : Later w5 => HA.out x.w)
      have c3 : w5.cell? ⟨w.heap.size, 3, none⟩ = some (.int .i64 r.nu) := cell_at OU5.out 3
      have c4 : w5.cell? ⟨w.heap.size, 4, none⟩ = some (.int .i64 r.de) := cell_at OU5.out 4
      have zu := lt_of_obj OU5.out
      go_wp2
      refine wp_region_later w5 (Below.refl _ _) (by kernel_rfl) (by kernel_rfl) ?_
      repeat (go_big_quiet_step (first
        | (go_at_call 124; with_reducible exact Calls.later (HT.out _))
        | (go_at_call 123; with_reducible exact Calls.later (HA2.out _))))
      refine wpQuiet_nil ?_
      intro _ hx'
      obtain ⟨⟨w6, hb6⟩, hx'⟩ := hx'
      subst hx'
      rename_i w6
      have HB6 := Lib.hid (HB5.out.trans (hb6.mono HB5.out.size))
      have ob6 := (obj_below hb6 (lt_of_obj OB5.out)).trans OB5.out
      have ou6 := (obj_below hb6 (lt_of_obj OU5.out)).trans OU5.out
      have d0 : w6.cell? ⟨bx, 0, none⟩ = some (.int .i64 1000) := cell_at ob6 0
      have d1 : w6.cell? ⟨bx, 1, none⟩ = some (.int .i64 xs) := cell_at ob6 1
      have d2 : w6.cell? ⟨bx, 2, none⟩ = some (.int .i64 xu) := cell_at ob6 2
      have sx6 : subOf (obj w6 bx) 0 3 = some #[.int .i64 1000, .int .i64 xs, .int .i64 xu] := by rw [ob6, subOf_cells (by simp), subA_all (by simp)]
      have e0 : w6.cell? ⟨w.heap.size, 0, none⟩ = some (.int .i64 r.f) := cell_at ou6 0
      have e1 : w6.cell? ⟨w.heap.size, 1, none⟩ = some (.int .i64 r.lo) := cell_at ou6 1
      have e2 : w6.cell? ⟨w.heap.size, 2, none⟩ = some (.int .i64 r.fo) := cell_at ou6 2
      have zu6 := lt_of_obj ou6
      have zb6 := lt_of_obj ob6
      clear hb6 HT HA HA2 c3 c4 OB5 OU5 ob6 ou6 HB5

      by_cases hA : 1000 < r.f
      · exact absurd hA (by omega)
      · have hA' : decide (1000 < r.f) = false := by simpa using hA
        have HMX : ∀ m : Int, m = max (now - xs) 0 → (m < r.lo → stays r s[i] now RM = true) ∧ (¬ m < r.lo → stays r s[i] now RM = !RM) := fun m hm => ⟨fun h => by rw [HVV.out, ← hm]; simp [h], fun h => by rw [HVV.out, ← hm, hA', decide_eq_false h]; simp⟩
        have HMXH := Lib.hid HMX
        clear HMX
        by_cases hneg : now - xs < 0
        · skip
          by_cases hB : 0 < r.lo
          · have hst : stays r s[i] now RM = true := (HMXH.out 0 (by omega)).1 hB
            have HWI := Lib.hid (with_any w6 _ s i ⟨1000, xs, xu⟩ (HS2.out.below HB6.out) hi (by have := HL.out; omega))
            simp only [stV] at HWI
            go_wp2_with fail
            refine HWI.out.mono ?_
            rintro e w9 ⟨v9, rfl, q9, b9⟩
            go_wp2
            refine bodyPost_ret (v := .tuple #[v9, .bool false, .int .i64 0]) (by simp [results, Tryz.results82, go_sem]) rfl ⟨v9, by rw [HRMH.out, hst]; rfl, by rw [HRMH.out, HNN2.out, hst]; exact q9.rebase HB6.out.size, HB6.out.trans (b9.mono HB6.out.size)⟩
          · have hst0 : stays r s[i] now RM = !RM := (HMXH.out 0 (by omega)).2 hB
            cases RM with
            | false =>
              have hst : stays r s[i] now false = true := hst0
              have HWI := Lib.hid (with_any w6 _ s i ⟨1000, xs, xu⟩ (HS2.out.below HB6.out) hi (by have := HL.out; omega))
              simp only [stV] at HWI
              go_wp2_with fail
              refine HWI.out.mono ?_
              rintro e w9 ⟨v9, rfl, q9, b9⟩
              go_wp2
              refine bodyPost_ret (v := .tuple #[v9, .bool false, .int .i64 0]) (by simp [results, Tryz.results82, go_sem]) rfl ⟨v9, by rw [HRMH.out, hst]; rfl, by rw [HRMH.out, HNN2.out, hst]; exact q9.rebase HB6.out.size, HB6.out.trans (b9.mono HB6.out.size)⟩
            | true =>
              have hst : stays r s[i] now true = false := hst0
              by_cases hK : 4611686018427387903 < now + r.fo
              · have hmn : min r.fo (4611686018427387903 - now) = 4611686018427387903 - now := by omega
                rw [hmn] at HNN2
                have hsum : now + (4611686018427387903 - now) = 4611686018427387903 := by omega
                rw [hsum] at HNN2
                have HWI := Lib.hid (with_any w6 _ s i ⟨0, 0, 4611686018427387903⟩ (HS2.out.below HB6.out) hi (by have := HL.out; omega))
                simp only [stV] at HWI
                go_wp2_with fail
                refine HWI.out.mono ?_
                rintro e w9 ⟨v9, rfl, q9, b9⟩
                go_wp2
                refine bodyPost_ret (v := .tuple #[v9, .bool true, .int .i64 0]) (by simp [results, Tryz.results82, go_sem]) rfl ⟨v9, by rw [HRMH.out, hst]; rfl, by rw [HRMH.out, HNN2.out, hst]; exact q9.rebase HB6.out.size, HB6.out.trans (b9.mono HB6.out.size)⟩
              · have hmn : min r.fo (4611686018427387903 - now) = r.fo := by omega
                rw [hmn] at HNN2
                have HWI := Lib.hid (with_any w6 _ s i ⟨0, 0, now + r.fo⟩ (HS2.out.below HB6.out) hi (by have := HL.out; omega))
                simp only [stV] at HWI
                go_wp2_with fail
                refine HWI.out.mono ?_
                rintro e w9 ⟨v9, rfl, q9, b9⟩
                go_wp2
                refine bodyPost_ret (v := .tuple #[v9, .bool true, .int .i64 0]) (by simp [results, Tryz.results82, go_sem]) rfl ⟨v9, by rw [HRMH.out, hst]; rfl, by rw [HRMH.out, HNN2.out, hst]; exact q9.rebase HB6.out.size, HB6.out.trans (b9.mono HB6.out.size)⟩
        · skip
          by_cases hB : (now - xs) < r.lo
          · have hst : stays r s[i] now RM = true := (HMXH.out (now - xs) (by omega)).1 hB
            have HWI := Lib.hid (with_any w6 _ s i ⟨1000, xs, xu⟩ (HS2.out.below HB6.out) hi (by have := HL.out; omega))
            simp only [stV] at HWI
            go_wp2_with fail
            refine HWI.out.mono ?_
            rintro e w9 ⟨v9, rfl, q9, b9⟩
            go_wp2
            refine bodyPost_ret (v := .tuple #[v9, .bool false, .int .i64 0]) (by simp [results, Tryz.results82, go_sem]) rfl ⟨v9, by rw [HRMH.out, hst]; rfl, by rw [HRMH.out, HNN2.out, hst]; exact q9.rebase HB6.out.size, HB6.out.trans (b9.mono HB6.out.size)⟩
          · have hst0 : stays r s[i] now RM = !RM := (HMXH.out (now - xs) (by omega)).2 hB
            cases RM with
            | false =>
              have hst : stays r s[i] now false = true := hst0
              have HWI := Lib.hid (with_any w6 _ s i ⟨1000, xs, xu⟩ (HS2.out.below HB6.out) hi (by have := HL.out; omega))
              simp only [stV] at HWI
              go_wp2_with fail
              refine HWI.out.mono ?_
              rintro e w9 ⟨v9, rfl, q9, b9⟩
              go_wp2
              refine bodyPost_ret (v := .tuple #[v9, .bool false, .int .i64 0]) (by simp [results, Tryz.results82, go_sem]) rfl ⟨v9, by rw [HRMH.out, hst]; rfl, by rw [HRMH.out, HNN2.out, hst]; exact q9.rebase HB6.out.size, HB6.out.trans (b9.mono HB6.out.size)⟩
            | true =>
              have hst : stays r s[i] now true = false := hst0
              by_cases hK : 4611686018427387903 < now + r.fo
              · have hmn : min r.fo (4611686018427387903 - now) = 4611686018427387903 - now := by omega
                rw [hmn] at HNN2
                have hsum : now + (4611686018427387903 - now) = 4611686018427387903 := by omega
                rw [hsum] at HNN2
                have HWI := Lib.hid (with_any w6 _ s i ⟨0, 0, 4611686018427387903⟩ (HS2.out.below HB6.out) hi (by have := HL.out; omega))
                simp only [stV] at HWI
                go_wp2_with fail
                refine HWI.out.mono ?_
                rintro e w9 ⟨v9, rfl, q9, b9⟩
                go_wp2
                refine bodyPost_ret (v := .tuple #[v9, .bool true, .int .i64 0]) (by simp [results, Tryz.results82, go_sem]) rfl ⟨v9, by rw [HRMH.out, hst]; rfl, by rw [HRMH.out, HNN2.out, hst]; exact q9.rebase HB6.out.size, HB6.out.trans (b9.mono HB6.out.size)⟩
              · have hmn : min r.fo (4611686018427387903 - now) = r.fo := by omega
                rw [hmn] at HNN2
                have HWI := Lib.hid (with_any w6 _ s i ⟨0, 0, now + r.fo⟩ (HS2.out.below HB6.out) hi (by have := HL.out; omega))
                simp only [stV] at HWI
                go_wp2_with fail
                refine HWI.out.mono ?_
                rintro e w9 ⟨v9, rfl, q9, b9⟩
                go_wp2
                refine bodyPost_ret (v := .tuple #[v9, .bool true, .int .i64 0]) (by simp [results, Tryz.results82, go_sem]) rfl ⟨v9, by rw [HRMH.out, hst]; rfl, by rw [HRMH.out, HNN2.out, hst]; exact q9.rebase HB6.out.size, HB6.out.trans (b9.mono HB6.out.size)⟩
end Go.Proofs.YtagpclgappcnbaaGreat.Be
