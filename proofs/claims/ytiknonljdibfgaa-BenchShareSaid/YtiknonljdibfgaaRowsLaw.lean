import Derived.Test.YtiknonljdibfgaaAct
namespace Go.Proofs.Ytiknonljdibfgaa
open Go.RowKit

theorem mayB_rep {x : St} (h : mayB x = true) : mayB ⟨0, 0, x.u⟩ = true := by
  have hh := mayB_n h
  exact mayB_of ⟨Int.le_refl 0, (by decide : (0 : Int) ≤ 1000), Int.le_refl 0, (by decide : (0 : Int) ≤ 4611686018427387903), fun _ => rfl, hh.2.2.2.2.2.1, hh.2.2.2.2.2.2⟩
set_option maxRecDepth 100000 in
set_option maxHeartbeats 2000000 in
theorem rowsLaw_any (w : World) (r : Rul) (v1 v2 : Value) (l : List Vd) (acts : List Ac) (h : SlIn w v1 2 vdL l) (h2 : SlIn w v2 3 acL acts) (hA : ∀ a ∈ acts, AcOK a) (hde : r.de < 9223372036854775808) :
    Calls Try.prog 4 #[ruV r, v1, v2] w fun e w' => e = .returned (.bool true) ∧ Below w.heap.size w w' := by
  have HS := Lib.hid h
  have HS2 := Lib.hid h2
  have HA := Lib.hid hA
  have b1 : Below w.heap.size w (w.alloc (.cells (ruC r) 23)) := (Below.refl _ _).alloc (Nat.le_refl _) _
  have o1 : obj (w.alloc (.cells (ruC r) 23)) w.heap.size = some (.cells (ruC r) 23 (0, 0)) := obj_alloc_at _ _ _ rfl
  obtain ⟨oa, cap, rfl, g1, g2, g3⟩ := h
  unfold maxLen at g2
  obtain ⟨oa2, cap2, rfl, k1, k2, k3⟩ := h2
  unfold maxLen at k2
  have HL := Lib.hid (live_any (w.alloc (.cells (ruC r) 23)))
  have HLL := Lib.hid live_any
  have B1 := Lib.hid b1
  have O1 := Lib.hid o1
  have HF := Lib.hid (fun W (hb : Below w.heap.size w W) => few_any W _ l none 0 0 (HS.out.below hb))
  have H3 := Lib.hid g3
  have H4 := Lib.hid k3
  clear g3 k3 hA b1 o1
  simp only [ruV, ruC] at *
  go_enter Try.func4, Try.ntmps4
  go_wp2_with fail
  generalize w.alloc (.cells #[.int .i64 r.f, .int .i64 r.lo, .int .i64 r.fo, .int .i64 r.nu, .int .i64 r.de] 23) = w1 at *
  refine HL.out.mono ?_
  rintro e w2 ⟨rfl, b2⟩
  have B2 := Lib.hid (B1.out.trans (b2.mono B1.out.size))
  have O2 := Lib.hid ((obj_below b2 (lt_of_obj O1.out)).trans O1.out)
  clear b2 B1 O1
  go_wp2_with fail
  refine (HF.out w2 B2.out).mono ?_
  rintro e w3 ⟨rfl, b3⟩
  have B3 := Lib.hid (B2.out.trans (b3.mono B2.out.size))
  have O3 := Lib.hid ((obj_below b3 (lt_of_obj O2.out)).trans O2.out)
  clear b3 B2 O2 HF HL
  cases hfw : fewB l 0 with
  | false =>
    clear hfw
    go_wp2_with fail
    refine (HLL.out w3).mono ?_
    rintro e w4 ⟨rfl, b4⟩
    go_wp2
    go_ret
    exact ⟨rfl, B3.out.trans (b4.mono B3.out.size)⟩
  | true =>
    obtain ⟨hN, hl50, _⟩ := fewB_t hfw
    have HC := Lib.hid (checkB w3 _ l (HS.out.below B3.out) hN)
    have HL50 := Lib.hid hl50
    clear hfw hN hl50
    by_cases ha : acts.length ≤ 200
    · have ha' : ¬ (200 : Int) < (acts.length : Int) := by omega
      go_wp2_with fail
      refine HC.out.mono ?_
      rintro e w4 ⟨rfl, b4⟩
      have B4 := Lib.hid (B3.out.trans (b4.mono B3.out.size))
      have O4 := Lib.hid ((obj_below b4 (lt_of_obj O3.out)).trans O3.out)
      clear b4 B3 O3 HC
      have c0 : w4.cell? ⟨w.heap.size, 0, none⟩ = some (.int .i64 r.f) := cell_at O4.out 0
      have c1 : w4.cell? ⟨w.heap.size, 1, none⟩ = some (.int .i64 r.lo) := cell_at O4.out 1
      have c2 : w4.cell? ⟨w.heap.size, 2, none⟩ = some (.int .i64 r.fo) := cell_at O4.out 2
      have c3 : w4.cell? ⟨w.heap.size, 3, none⟩ = some (.int .i64 r.nu) := cell_at O4.out 3
      have c4 : w4.cell? ⟨w.heap.size, 4, none⟩ = some (.int .i64 r.de) := cell_at O4.out 4
      rcases chk_cases l with hc | hc
      · have HR := Lib.hid (rule_any r w4)
        have HC0 := Lib.hid hc
        simp only [ruV] at HR
        rw [hc]
        clear hc
        rcases ruleE_cases r with hr | hr
        · rw [hr] at HR
          have HM0 := Lib.hid (may0 hr HC0.out)
          have hl1 : 1 ≤ l.length := (chk_32 HC0.out).1
          have hl32 : l.length ≤ 32 := (chk_32 HC0.out).2.1
          clear hr
          go_wp2_with fail
          refine HR.out.mono ?_
          rintro e w5 ⟨rfl, b5⟩
          have B5 := Lib.hid (B4.out.trans (b5.mono B4.out.size))
          have O5 := Lib.hid ((obj_below b5 (lt_of_obj O4.out)).trans O4.out)
          have HN := Lib.hid (makeSeats l.length hl1 hl32 w5)
          clear b5 B4 O4 HR c0 c1 c2 c3 c4
          go_wp2_with fail
          refine HN.out.mono ?_
          rintro e w6 ⟨sv0, rfl, q6, b6⟩
          have B6 := Lib.hid (B5.out.trans (b6.mono B5.out.size))
          have O6 := Lib.hid ((obj_below b6 (lt_of_obj O5.out)).trans O5.out)
          have S6 : Hid (OwnS w6 w.heap.size 50 3 stL sv0 (List.replicate l.length ⟨0, 0, 0⟩)) := Lib.hid (q6.rebase B5.out.size)
          clear b6 B5 O5 HN q6
          obtain ⟨w7, hmk, o7, b7⟩ := makeRow w6 l.length (by omega)
          have B7 := Lib.hid (B6.out.trans (b7.mono B6.out.size))
          have O7 := Lib.hid ((obj_below b7 (lt_of_obj O6.out)).trans O6.out)
          have S7 := Lib.hid (S6.out.below b7)
          have HG : w.heap.size ≤ w6.heap.size := B6.out.size
          generalize w6.heap.size = gr at *
          have G7 := Lib.hid o7
          clear b7 o7 B6 O6 S6
          go_wp2
          go_loopw [7, 8, 9, 49] (fun v7 v8 v9 v49 wr => ∃ (k : Nat) (s : List St) (R : List Int) (now : Int), k ≤ acts.length ∧ v49 = .int .i64 k ∧ v8 = .int .i64 0 ∧ v9 = .int .i64 now ∧ 0 ≤ now ∧ now ≤ 65535 * (k : Int) ∧ s.length = l.length ∧ R.length = l.length ∧ Hid (mayE r l s = 0) ∧ Hid (OwnS wr w.heap.size 50 3 stL v7 s) ∧ Hid (RowsI s R ∧ ∀ x ∈ R, x ≤ (k : Int)) ∧ Hid (obj wr gr = some (.cells (rowC R) 3 (0, 0))) ∧ Hid (obj wr w.heap.size = some (.cells #[.int .i64 r.f, .int .i64 r.lo, .int .i64 r.fo, .int .i64 r.nu, .int .i64 r.de] 23 (0, 0))) ∧ Hid (Below w.heap.size w wr)) (fun _ _ _ i _ => acts.length - (intOf i).toNat)
          case atStart => exact ⟨0, _, _, 0, Nat.zero_le _, rfl, rfl, rfl, by decide, by decide, by simp, by simp, HM0, S7, Lib.hid ⟨⟨by simp, fun i h h' => by simp⟩, fun x hx => by rw [(List.mem_replicate.1 hx).2]; decide⟩, G7, O7, B7⟩
          case round =>
            obtain ⟨k, s, R, now, hk, rfl, rfl, rfl, hn0, hn1, hsl, hRl, HM, HO, HR, HGr, HRu, HB⟩ := hrel
            clear S7 G7 O7 B7 HM0
            by_cases hlt : k < acts.length
            · obtain ⟨b, off, hoa, hbb, hrow⟩ := H4.out (by omega)
              subst hoa
              have hs1 := hrow k hlt
              rw [← obj_below HB.out hbb] at hs1
              have hbl : b < wr.heap.size := Nat.lt_of_lt_of_le hbb HB.out.size
              have hok := HA.out acts[k] (List.getElem_mem hlt)
              generalize acts[k] = x at *
              obtain ⟨xv, xb, xt⟩ := x
              simp only [acL, AcOK] at hs1 hok
              clear hrow
              have c0 : wr.cell? ⟨w.heap.size, 0, none⟩ = some (.int .i64 r.f) := cell_at HRu.out 0
              have c1 : wr.cell? ⟨w.heap.size, 1, none⟩ = some (.int .i64 r.lo) := cell_at HRu.out 1
              have c2 : wr.cell? ⟨w.heap.size, 2, none⟩ = some (.int .i64 r.fo) := cell_at HRu.out 2
              have c3 : wr.cell? ⟨w.heap.size, 3, none⟩ = some (.int .i64 r.nu) := cell_at HRu.out 3
              have c4 : wr.cell? ⟨w.heap.size, 4, none⟩ = some (.int .i64 r.de) := cell_at HRu.out 4
              have z0 := lt_of_obj HRu.out
              obtain ⟨i, hrem, hil⟩ : ∃ i : Nat, xv % (l.length : Int) = (i : Int) ∧ i < l.length := by
                have h1 := Int.emod_nonneg xv (show (l.length : Int) ≠ 0 by omega)
                have h2 := Int.emod_lt_of_pos xv (show (0 : Int) < (l.length : Int) by omega)
                exact ⟨(xv % (l.length : Int)).toNat, by omega, by omega⟩
              have his : i < s.length := by omega
              have hiR : i < R.length := by omega
              obtain ⟨n, hn, hnn0, hnn1⟩ : ∃ n : Int, now + xt = n ∧ 0 ≤ n ∧ n ≤ 65535 * ((k : Int) + 1) := ⟨_, rfl, by omega, by omega⟩
              have hnM : n < 4611686018427387903 := by omega
              have HBA := Lib.hid (HB.out.alloc HB.out.size (.cells #[.int .u8 xv, .bool xb, .int .u16 xt] 36))
              have HOA := Lib.hid (HO.out.alloc (.cells #[.int .u8 xv, .bool xb, .int .u16 xt] 36))
              have HGA := Lib.hid ((obj_alloc_past _ (.cells #[.int .u8 xv, .bool xb, .int .u16 xt] 36) _ (lt_of_obj HGr.out)).trans HGr.out)
              have HUA := Lib.hid ((obj_alloc_past _ (.cells #[.int .u8 xv, .bool xb, .int .u16 xt] 36) _ (lt_of_obj HRu.out)).trans HRu.out)
              have HRep := Lib.hid (replied_any _ r _ _ l s i (HS.out.below HBA.out) (HOA.out.slIn stL_length) HM.out his)
              have HIs := Lib.hid (is_any _ _ s (i : Int) n (HOA.out.slIn stL_length))
              have HRi : Hid (0 ≤ R[i] ∧ R[i] ≤ 200) := Lib.hid ⟨by
                have h1 := HR.out.1.2 i his hiR
                have h2 := (mayB_n (mayE_at HM.out his)).1
                omega, by
                have h1 := HR.out.2 R[i] (List.getElem_mem hiR)
                omega⟩
              obtain ⟨m, hm⟩ : ∃ m : Int, R[i] = m := ⟨_, rfl⟩
              rw [hm] at HRi
              have hmb : 0 ≤ m ∧ m ≤ 200 := HRi.out
              have hRm := Lib.hid hm
              clear hm HRi hn1 hn0
              have hRl' := Lib.hid hRl
              have hsl' := Lib.hid hsl
              have hi' : (i : Int) < (l.length : Int) := by omega
              clear hRl hsl
              cases xb
              · go_wp2_with fail
                refine HIs.out.mono ?_
                rintro e w8 ⟨rfl, rfl⟩
                cases hib : isB s (i : Int) n with
                | true =>
                  have HF := Lib.hid (failed_step _ r _ _ l s i n (HS.out.below HBA.out) (HOA.out.slIn stL_length) HM.out (by rw [hsl'.out]; exact hil) hnn0 (Int.le_of_lt hnM) hde)
                  rw [show benF r l s i n = false from if_pos hib, show stepF r l s i n = s from if_pos hib] at HF
                  simp only [ruV] at HF
                  clear hib HIs HRep
                  go_wp2_with fail
                  refine HF.out.mono ?_
                  rintro e w9 ⟨v9, rfl, q1, q2⟩
                  have HB9 := Lib.hid (HBA.out.trans (q2.mono HBA.out.size))
                  have HG9 := Lib.hid ((obj_below q2 (lt_of_obj HGA.out)).trans HGA.out)
                  have HU9 := Lib.hid ((obj_below q2 (lt_of_obj HUA.out)).trans HUA.out)
                  have HO9 := Lib.hid (q1.rebase HBA.out.size)
                  clear q1 q2 HF HBA HGA HUA HOA c0 c1 c2 c3 c4 hs1
                  go_wp2
                  go_quiet (fail)
                  go_wp2
                  go_roundw
                  case rel => exact ⟨k + 1, s, R, n, by omega, by go_num, rfl, rfl, hnn0, by omega, hsl'.out, hRl'.out, HM, Lib.hid (HO9.out.drewN _), Lib.hid ⟨HR.out.1, fun x hx => by have := HR.out.2 x hx; omega⟩, Lib.hid HG9.out, Lib.hid HU9.out, Lib.hid (below_drewN HB9.out _)⟩
                  case measure => simp [intOf]; omega
                | false =>
                  have hg0 := HGr.out
                  have zg := lt_of_obj hg0
                  have cg : wr.cell? ⟨gr, i, none⟩ = some (.int .i64 m) := by rw [cell_at hg0, rowC_get R hiR, hRm.out]
                  have fg : ∀ j, wr.frozen? ⟨gr, j, none⟩ = false := frozen_at hg0
                  have hgw : w.heap.size ≠ gr := fun e => by
                    rw [← e, HRu.out] at hg0
                    injection hg0 with h
                    injection h with _ h _
                    exact absurd h (by decide)
                  have HN9 := Lib.hid (HO.out.ne hg0 (fun cur e => by injection e with _ h _; exact absurd h (by decide)))
                  have hg9 := obj_setCell_at (i := i) (.int .i64 (m + 1)) hg0
                  rw [rowC_set] at hg9
                  have HG10 := Lib.hid ((obj_alloc_past _ (.cells #[.int .u8 xv, .bool false, .int .u16 xt] 36) _ (lt_of_obj hg9)).trans hg9)
                  have hu9 := (obj_setCell_ne wr ⟨gr, i, none⟩ (.int .i64 (m + 1)) _ hgw).trans HRu.out
                  have HU10 := Lib.hid ((obj_alloc_past _ (.cells #[.int .u8 xv, .bool false, .int .u16 xt] 36) _ (lt_of_obj hu9)).trans hu9)
                  have HO10 := Lib.hid ((HO.out.keeps (W := wr.setCell ⟨gr, i, none⟩ (.int .i64 (m + 1))) (fun g hg => obj_setCell_ne _ ⟨gr, i, none⟩ _ _ (fun e => HN9.out (by rw [hg, e])))).alloc (.cells #[.int .u8 xv, .bool false, .int .u16 xt] 36))
                  have hb9 := (show Below w.heap.size w (wr.setCell ⟨gr, i, none⟩ (.int .i64 (m + 1))) from HB.out.setCell HG _)
                  have HB10 := Lib.hid (hb9.alloc hb9.size (.cells #[.int .u8 xv, .bool false, .int .u16 xt] 36))
                  clear hg9 hu9 hb9
                  have HF := Lib.hid (failed_step _ r _ _ l s i n (HS.out.below HB10.out) (HO10.out.slIn stL_length) HM.out (by rw [hsl'.out]; exact hil) hnn0 (Int.le_of_lt hnM) hde)
                  have HRows := Lib.hid (stepF_rows (now := n) HM.out his HR.out.1 hiR)
                  rw [hRm.out] at HRows
                  have HM11 := Lib.hid (stepF_may (now := n) HM.out his hnn0 (Int.le_of_lt hnM))
                  have HL11 := Lib.hid (stepF_len r l s i n)
                  have HIB := Lib.hid hib
                  generalize stepF r l s i n = s11 at *
                  generalize benF r l s i n = bn at *
                  simp only [ruV] at HF
                  clear hib HIs HRep hg0 HGA HUA HOA HBA
                  go_wp2_with fail
                  generalize (wr.setCell ⟨gr, i, none⟩ (.int .i64 (m + 1))).alloc (.cells #[.int .u8 xv, .bool false, .int .u16 xt] 36) = w10 at *
                  refine HF.out.mono ?_
                  rintro e w11 ⟨v11, rfl, q1, q2⟩
                  have HB11 := Lib.hid (HB10.out.trans (q2.mono HB10.out.size))
                  have hg11 := (obj_below q2 (lt_of_obj HG10.out)).trans HG10.out
                  have HU11 := Lib.hid ((obj_below q2 (lt_of_obj HU10.out)).trans HU10.out)
                  have HO11 := Lib.hid (q1.rebase HB10.out.size)
                  have zg11 := lt_of_obj hg11
                  have cg11 : w11.cell? ⟨gr, i, none⟩ = some (.int .i64 (m + 1)) := by rw [cell_at hg11, rowC_get _ (by rw [List.length_set]; exact hiR)]; simp
                  have fg11 : ∀ j, w11.frozen? ⟨gr, j, none⟩ = false := frozen_at hg11
                  have cu11 : w11.cell? ⟨w.heap.size, 0, none⟩ = some (.int .i64 r.f) := cell_at HU11.out 0
                  have zu11 := lt_of_obj HU11.out
                  have HR11 : Hid (∀ x ∈ R.set i (m + 1), x ≤ ((k + 1 : Nat) : Int)) := Lib.hid (fun x hx => by
                    rcases List.mem_or_eq_of_mem_set hx with hx | rfl
                    · have := HR.out.2 x hx; omega
                    · have := HR.out.2 R[i] (List.getElem_mem hiR); have := hRm.out; omega)
                  clear q1 q2 HF HB10 HG10 HU10 HO10 c0 c1 c2 c3 c4 hs1 cg fg
                  cases bn with
                  | false =>
                    have HG11 := Lib.hid hg11
                    clear hg11 HN9
                    go_wp2
                    go_quiet (fail)
                    go_wp2
                    go_roundw
                    case rel => exact ⟨k + 1, s11, R.set i (m + 1), n, by omega, by go_num, rfl, rfl, hnn0, by omega, by rw [HL11.out]; exact hsl'.out, by rw [List.length_set]; exact hRl'.out, HM11, Lib.hid (HO11.out.drewN _), Lib.hid ⟨HRows.out.1 (by first | rfl | trivial) HIB.out, HR11.out⟩, Lib.hid HG11.out, Lib.hid HU11.out, Lib.hid (below_drewN HB11.out _)⟩
                    case measure => simp [intOf]; omega
                  | true =>
                    have hrf : ¬ m + 1 < r.f := by have := (HRows.out.2 (by first | rfl | trivial)).1; omega
                    have hrf' : decide (m + 1 < r.f) = false := by simpa using hrf
                    have HN12 := Lib.hid (HO11.out.ne hg11 (fun cur e => by injection e with _ h _; exact absurd h (by decide)))
                    have HG12 := Lib.hid (obj_setCell_at (i := i) (.int .i64 0) hg11)
                    rw [rowC_set] at HG12
                    have HU12 := Lib.hid ((obj_setCell_ne w11 ⟨gr, i, none⟩ (.int .i64 0) _ hgw).trans HU11.out)
                    have HO12 := Lib.hid (HO11.out.keeps (W := w11.setCell ⟨gr, i, none⟩ (.int .i64 0)) (fun g hg => obj_setCell_ne _ ⟨gr, i, none⟩ _ _ (fun e => HN12.out (by rw [hg, e]))))
                    have HB12 := Lib.hid (show Below w.heap.size w (w11.setCell ⟨gr, i, none⟩ (.int .i64 0)) from HB11.out.setCell HG _)
                    have hi2 : (i : Int) < (R.length : Int) := by omega
                    clear hg11 HN9
                    go_wp2
                    go_quiet (fail)
                    go_wp2
                    go_roundw
                    case rel => exact ⟨k + 1, s11, (R.set i (m + 1)).set i 0, n, by omega, by go_num, rfl, rfl, hnn0, by omega, by rw [HL11.out]; exact hsl'.out, by rw [List.length_set, List.length_set]; exact hRl'.out, HM11, Lib.hid (HO12.out.drewN _), Lib.hid ⟨(HRows.out.2 (by first | rfl | trivial)).2, fun x hx => by
                      rcases List.mem_or_eq_of_mem_set hx with hx | rfl
                      · exact HR11.out x hx
                      · omega⟩, Lib.hid HG12.out, Lib.hid HU12.out, Lib.hid (below_drewN HB12.out _)⟩
                    case measure => simp [intOf]; omega
              · simp only [ruV] at HRep
                go_wp2_with fail
                refine HRep.out.mono ?_
                rintro e w9 ⟨v9, rfl, q1, q2⟩
                have HB9 := Lib.hid (HBA.out.trans (q2.mono HBA.out.size))
                have hg9 := (obj_below q2 (lt_of_obj HGA.out)).trans HGA.out
                have HU9 := Lib.hid ((obj_below q2 (lt_of_obj HUA.out)).trans HUA.out)
                have HO9 := Lib.hid (q1.rebase HBA.out.size)
                have zg := lt_of_obj hg9
                have cg : w9.cell? ⟨gr, i, none⟩ = some (.int .i64 m) := by rw [cell_at hg9, rowC_get R hiR, hRm.out]
                have fg : ∀ j, w9.frozen? ⟨gr, j, none⟩ = false := frozen_at hg9
                have HN9 := Lib.hid (HO9.out.ne hg9 (fun cur e => by injection e with _ h _; exact absurd h (by decide)))
                have HG10 := Lib.hid (obj_setCell_at (i := i) (.int .i64 0) hg9)
                rw [rowC_set] at HG10
                have hgw : w.heap.size ≠ gr := fun e => by
                  rw [← e, HU9.out] at hg9
                  injection hg9 with h
                  injection h with _ h _
                  exact absurd h (by decide)
                have HU10 := Lib.hid ((obj_setCell_ne w9 ⟨gr, i, none⟩ (.int .i64 0) _ hgw).trans HU9.out)
                have HO10 := Lib.hid (HO9.out.keeps (W := w9.setCell ⟨gr, i, none⟩ (.int .i64 0)) (fun g hg => obj_setCell_ne _ ⟨gr, i, none⟩ _ _ (fun e => HN9.out (by rw [hg, e]))))
                have HB10 := Lib.hid (show Below w.heap.size w (w9.setCell ⟨gr, i, none⟩ (.int .i64 0)) from HB9.out.setCell HG _)
                clear q1 q2 HRep HBA HGA HUA HOA c0 c1 c2 c3 c4 hs1 hg9 HB9 HO9 HU9 HIs
                go_wp2
                go_quiet (fail)
                go_wp2
                go_roundw
                case rel => exact ⟨k + 1, _, R.set i 0, n, by omega, by go_num, rfl, rfl, hnn0, by omega, by rw [List.length_set]; exact hsl'.out, by rw [List.length_set]; exact hRl'.out, Lib.hid (mayE_set HM.out i (mayB_rep (mayE_at HM.out (i := i) (by rw [hsl'.out]; exact hil)))), Lib.hid (HO10.out.drewN _), Lib.hid ⟨HR.out.1.set i (Int.le_refl _), fun x hx => by
                  rcases List.mem_or_eq_of_mem_set hx with hx | rfl
                  · have := HR.out.2 x hx; omega
                  · omega⟩, Lib.hid HG10.out, Lib.hid HU10.out, Lib.hid (below_drewN HB10.out _)⟩
                case measure => simp [intOf]; omega
            · go_wp2
              go_ret
              exact ⟨rfl, HB.out⟩
        · rw [hr] at HR
          clear hr
          go_wp2_with fail
          refine HR.out.mono ?_
          rintro e w5 ⟨rfl, b5⟩
          have B5 := Lib.hid (B4.out.trans (b5.mono B4.out.size))
          go_wp2_with fail
          refine (HLL.out _).mono ?_
          rintro e w6 ⟨rfl, b6⟩
          go_wp2
          go_ret
          exact ⟨rfl, B5.out.trans (b6.mono B5.out.size)⟩
      · have hc2 : ¬ chk l = 0 := by simpa using hc
        generalize chk l = cl at *
        go_wp2_with fail
        refine (HLL.out _).mono ?_
        rintro e w5 ⟨rfl, b5⟩
        go_wp2
        go_ret
        exact ⟨rfl, B4.out.trans (b5.mono B4.out.size)⟩
    · have ha' : (200 : Int) < (acts.length : Int) := by omega
      clear ha
      go_wp2_with fail
      refine (HLL.out w3).mono ?_
      rintro e w4 ⟨rfl, b4⟩
      go_wp2
      go_ret
      exact ⟨rfl, B3.out.trans (b4.mono B3.out.size)⟩
end Go.Proofs.Ytiknonljdibfgaa
