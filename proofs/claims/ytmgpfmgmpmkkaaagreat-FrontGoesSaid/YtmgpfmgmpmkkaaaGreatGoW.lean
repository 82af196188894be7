import Derived.Test.YtmgpfmgmpmkkaaaGreatRefY
namespace Go.Proofs.YtmgpfmgmpmkkaaaGreat
open Go.RowKit Go.Shelf Go.Sort

def idHd (ids : List ID) : ID := (ids[0]?).getD ID.zero
set_option maxRecDepth 100000 in
set_option maxHeartbeats 16000000 in
theorem goesLaw_any (w : World) (v vi : Value) (d : FrD) (l : List Vd) (m : FrM) (node : Int) (ids : List ID) (hl : SlIn w v 2 vdL l) (h : FrAt w d m) (hi : SlIn w vi 32 idL ids) :
    Calls Tryz.prog 3 #[v, frV d, .int .i64 node, vi] w fun e w' => e = .returned (.bool true) ∧ Below w.heap.size w w' := by
  have hb0 : Below w.heap.size w (w.alloc (.cells (frC d) 27)) := (Below.refl _ w).alloc (Nat.le_refl _) _
  have O5 := Lib.hid (fr_box w d)
  have hz : (w.alloc (.cells (frC d) 27)).heap.size = w.heap.size + 1 := by simp
  have HL := Lib.hid hl
  have H1 := Lib.hid h
  have HI := Lib.hid hi
  have B0 := Lib.hid hb0
  have HZ := Lib.hid hz
  obtain ⟨la, lc, rfl, -, -, -⟩ := hl
  obtain ⟨ia, ic, rfl, -, hic, hi3⟩ := hi
  have HI3 := Lib.hid hi3
  unfold maxLen at hic
  obtain ⟨sp, soa, son, soc, sta, stn, stc, ssa, ssn, ssc⟩ := d
  clear hb0 hz h hi3
  go_enter Tryz.func3, Tryz.ntmps3
  go_wp2_with fail
  generalize w.alloc (.cells (frC ⟨sp, soa, son, soc, sta, stn, stc, ssa, ssn, ssc⟩) 27) = w0 at *
  have hz := HZ.out
  refine (live_any w0).mono ?_
  rintro e w1 ⟨rfl, b1⟩
  have hz1 := b1.size
  have O51 := Lib.hid ((obj_below b1 (lt_of_obj O5.out)).trans O5.out)
  have B1 : Hid (Below w.heap.size w w1) := Lib.hid (B0.out.trans (b1.mono B0.out.size))
  clear b1 O5 B0
  obtain ⟨x0, x1, x2, x3⟩ := fr_cells O51.out
  simp only at x0 x1 x2 x3
  have BA : Hid (Below w1.heap.size w1 (w1.alloc (.cells #[.int .i64 sp, .slice soa son soc, .slice sta stn stc, .slice ssa ssn ssc] 27))) := Lib.hid ((Below.refl _ _).alloc (Nat.le_refl _) _)
  have BWA : Hid (Below w.heap.size w (w1.alloc (.cells #[.int .i64 sp, .slice soa son soc, .slice sta stn stc, .slice ssa ssn ssc] 27))) := Lib.hid (B1.out.trans (BA.out.mono B1.out.size))
  have HFE := Lib.hid (few_any (w1.alloc (.cells #[.int .i64 sp, .slice soa son soc, .slice sta stn stc, .slice ssa ssn ssc] 27)) (.slice la l.length lc) (.slice (some ⟨w1.heap.size, 0, none⟩) 1 1) l [⟨sp, soa, son, soc, sta, stn, stc, ssa, ssn, ssc⟩] [m] (HL.out.below BWA.out) (frs_one (obj_alloc_at _ _ _ rfl)) (frsAt_one (H1.out.below BWA.out)))
  have O5A := Lib.hid ((obj_below BA.out (lt_of_obj O51.out)).trans O51.out)
  go_wp2_with fail
  generalize w1.alloc (.cells #[.int .i64 sp, .slice soa son soc, .slice sta stn stc, .slice ssa ssn ssc] 27) = wA at *
  clear x0 x1 x2 x3
  refine HFE.out.mono ?_
  rintro e w2 ⟨⟨bb, rfl, hbb⟩, b2⟩
  have O52 := Lib.hid ((obj_below b2 (lt_of_obj O5A.out)).trans O5A.out)
  have B2 : Hid (Below w.heap.size w w2) := Lib.hid (BWA.out.trans (b2.mono BWA.out.size))
  clear b2 O5A BWA BA HFE O51 B1
  cases bb with
  | false =>
    go_wp2_with fail
    refine (live_any w2).mono ?_
    rintro e w3 ⟨rfl, b3⟩
    have B3 : Hid (Below w.heap.size w w3) := Lib.hid (B2.out.trans (b3.mono B2.out.size))
    clear b3
    go_wp2_with fail
    go_ret
    exact ⟨rfl, B3.out⟩
  | true =>
  obtain ⟨hll, hnm, hfew⟩ := hbb rfl
  have FA : FrFew m := hfew m (by simp)
  have FSx : Hid (FrSm m) := Lib.hid ⟨by have := FA.op; omega, by have := FA.tips; omega, by have := FA.said; omega, fun s hs => by have := FA.ids s hs; omega⟩
  have HLL := Lib.hid hll
  have HLN : Hid (l.length ≤ 4096) := Lib.hid (by omega)
  have HNM := Lib.hid hnm
  clear hbb hfew hll hnm FA
  by_cases hzl : ids.length ≤ 60
  case neg =>
    have hzi : (60 : Int) < ids.length := by omega
    clear hzl
    go_wp2_with fail
    refine (live_any w2).mono ?_
    rintro e w3 ⟨rfl, b3⟩
    have B3 : Hid (Below w.heap.size w w3) := Lib.hid (B2.out.trans (b3.mono B2.out.size))
    clear b3
    go_wp2_with fail
    go_ret
    exact ⟨rfl, B3.out⟩
  have hzi : ¬ (60 : Int) < ids.length := by omega
  have HCL := Lib.hid (cloneR_any w2 ⟨sp, soa, son, soc, sta, stn, stc, ssa, ssn, ssc⟩ m (H1.out.below B2.out) FSx.out)
  obtain ⟨x0, x1, x2, x3⟩ := fr_cells O52.out
  simp only at x0 x1 x2 x3
  clear hzl
  go_wp2_with fail
  clear x0 x1 x2 x3
  refine HCL.out.mono ?_
  rintro e w3 ⟨d9, rfl, hf9, b3⟩
  have O53 := Lib.hid ((obj_below b3 (lt_of_obj O52.out)).trans O52.out)
  have B3 : Hid (Below w.heap.size w w3) := Lib.hid (B2.out.trans (b3.mono B2.out.size))
  have HZ0 : Hid (ids = [] → idHd ids = ID.zero) := Lib.hid (fun e => by subst e; rfl)
  have HX0 : Hid (∀ h : 0 < ids.length, ids[0] = idHd ids) := Lib.hid (fun h => by unfold idHd; rw [List.getElem?_eq_getElem h]; rfl)
  generalize idHd ids = IDV at *
  obtain ⟨np, noa, non, noc, nta, ntn, ntc, nsa, nsn, nsc⟩ := d9
  obtain ⟨w4, hw4⟩ : ∃ w4, w4 = (w3.alloc (.cells (frC ⟨np, noa, non, noc, nta, ntn, ntc, nsa, nsn, nsc⟩) 27)).alloc (.cells (idL IDV).toArray 32) := ⟨_, rfl⟩
  have b4 : Below w3.heap.size w3 w4 := by rw [hw4]; exact ((Below.refl _ _).alloc (Nat.le_refl _) _).alloc (by simp) _
  have O94 : Hid (obj w4 w3.heap.size = some (.cells (frC ⟨np, noa, non, noc, nta, ntn, ntc, nsa, nsn, nsc⟩) 27 (0, 0))) := Lib.hid (by rw [hw4]; exact (obj_alloc_past _ _ _ (by simp)).trans (fr_box w3 _))
  have OI4 : Hid (obj w4 (w3.heap.size + 1) = some (.cells (idL IDV).toArray 32 (0, 0))) := Lib.hid (by rw [hw4]; exact obj_alloc_at _ _ _ (by simp))
  have H94 := Lib.hid (hf9.at_.below b4)
  have O54 := Lib.hid ((obj_below b4 (lt_of_obj O53.out)).trans O53.out)
  have B4 : Hid (Below w.heap.size w w4) := Lib.hid (B3.out.trans (b4.mono B3.out.size))
  have HW4 := Lib.hid hw4
  clear HCL hf9 b4 O52 B2 hw4 hz hz1
  have HC := Lib.hid (tip_act w4 (.slice la l.length lc) l ⟨sp, soa, son, soc, sta, stn, stc, ssa, ssn, ssc⟩ m node IDV (HL.out.below B4.out) (H1.out.below B4.out) FSx.out)
  obtain ⟨x0, x1, x2, x3⟩ := fr_cells O53.out
  simp only at x0 x1 x2 x3
  have hx5 := lt_of_obj O53.out
  by_cases hie : ids = []
  all_goals (first
    | (have hie' : ids = [] := hie; have hin : ¬ (0 : Int) < ids.length := by (rw [hie']; simp)
       have hz0 := HZ0.out hie'
       have px : subOf (obj ((w3.alloc (.cells (frC ⟨np, noa, non, noc, nta, ntn, ntc, nsa, nsn, nsc⟩) 27)).alloc (.cells (idL ID.zero).toArray 32)) (w3.heap.size + 1)) 0 32 = some (idL ID.zero).toArray := by (rw [obj_alloc_at _ _ _ (by simp), subOf_cells (by simp), subA_all (by simp)])
       have hv0 : Value.slice ia 0 ic = .slice ia ids.length ic := by (rw [hie']; rfl)
       clear hie
       go_wp2_with fail
       rw [← hz0]
       clear hie' hin hz0 px hv0)
    | (have hlt0 : 0 < ids.length := List.length_pos_iff.2 hie
       have hin : (0 : Int) < ids.length := by omega
       obtain ⟨b, off, rfl, hbb, hrow⟩ := HI3.out hlt0
       have hs0 := hrow 0 hlt0
       rw [HX0.out hlt0, ← obj_below B3.out hbb, Nat.zero_mul, Nat.add_zero] at hs0
       have hbl3 : b < w3.heap.size := Nat.lt_of_lt_of_le hbb B3.out.size
       have px : subOf (obj ((w3.alloc (.cells (frC ⟨np, noa, non, noc, nta, ntn, ntc, nsa, nsn, nsc⟩) 27)).alloc (.cells (idL IDV).toArray 32)) (w3.heap.size + 1)) 0 32 = some (idL IDV).toArray := by (rw [obj_alloc_at _ _ _ (by simp), subOf_cells (by simp), subA_all (by simp)])
       have pz : obj ((w3.alloc (.cells (frC ⟨np, noa, non, noc, nta, ntn, ntc, nsa, nsn, nsc⟩) 27)).alloc (.cells (idL ID.zero).toArray 32)) (w3.heap.size + 1) = some (.cells (idL ID.zero).toArray 32 (0, 0)) := obj_alloc_at _ _ _ (by simp)
       clear hie hrow
       go_wp2_with fail
       clear hlt0 hin hs0 px pz hbl3 hbb
       generalize (some (⟨b, off, none⟩ : Addr)) = ia at *))
  all_goals (
    clear x0 x1 x2 x3 hx5 HZ0 HX0
    rw [← HW4.out]
    have HB9 : Hid (w3.heap.size < w4.heap.size) := Lib.hid (lt_of_obj O94.out)
    clear HW4 B3 O53 HI3
    generalize w3.heap.size + 1 = bi at *
    generalize w3.heap.size = b9 at *
    have K5 := O54
    have K9 := O94
    have KH := H94
    have KB := B4
    refine HC.out.mono ?_
    rintro e va ⟨⟨ap, aoa, aon, aoc, ata, atn, atc, asa, asn, asc⟩, rfl, hf, bv⟩
    have O5v := Lib.hid ((obj_below bv (lt_of_obj O54.out)).trans O54.out)
    have O9v := Lib.hid ((obj_below bv (lt_of_obj O94.out)).trans O94.out)
    have OIv := Lib.hid ((obj_below bv (lt_of_obj OI4.out)).trans OI4.out)
    have Bv : Hid (Below w.heap.size w va) := Lib.hid (B4.out.trans (bv.mono B4.out.size))
    have B4v : Hid (Below w4.heap.size w4 va) := Lib.hid (bv)
    have H9v := Lib.hid (H94.out.below bv)
    obtain ⟨w5, hw5⟩ : ∃ x, x = va.alloc (.cells (frC ⟨ap, aoa, aon, aoc, ata, atn, atc, asa, asn, asc⟩) 27) := ⟨_, rfl⟩
    have ba : Below va.heap.size va w5 := by rw [hw5]; exact (Below.refl _ _).alloc (Nat.le_refl _) _
    have Oa5 : Hid (obj w5 va.heap.size = some (.cells (frC ⟨ap, aoa, aon, aoc, ata, atn, atc, asa, asn, asc⟩) 27 (0, 0))) := Lib.hid (by rw [hw5]; exact fr_box va _)
    have HW5 := Lib.hid hw5
    have Ha5 := Lib.hid ((hf.mono (base := w4.heap.size) (Nat.le_refl _)).below ba)
    have B5 : Hid (Below w.heap.size w w5) := Lib.hid (Bv.out.trans (ba.mono Bv.out.size))
    have B45 : Hid (Below w4.heap.size w4 w5) := Lib.hid (B4v.out.trans (ba.mono B4v.out.size))
    have H95 := Lib.hid (H9v.out.below ba)
    have O55 := Lib.hid ((obj_below ba (lt_of_obj O5v.out)).trans O5v.out)
    have O95 := Lib.hid ((obj_below ba (lt_of_obj O9v.out)).trans O9v.out)
    have OI5 := Lib.hid ((obj_below ba (lt_of_obj OIv.out)).trans OIv.out)
    clear hw5 hf bv ba HC B4 H94 O54 O94 OI4 
    obtain ⟨xO50, xO51, xO52, xO53⟩ := fr_cells O5v.out
    simp only at xO50 xO51 xO52 xO53
    have lO5 := lt_of_obj O5v.out
    have px : subOf (obj va bi) 0 32 = some (idL IDV).toArray := by rw [OIv.out, subOf_cells (by simp), subA_all (by simp)]
    have lx := lt_of_obj OIv.out
    have HC := Lib.hid (refTip_any w5 (.slice la l.length lc) l ⟨sp, soa, son, soc, sta, stn, stc, ssa, ssn, ssc⟩ m node IDV (HL.out.below B5.out) HNM.out HLN.out (H1.out.below B5.out) FSx.out)
    go_wp2_with fail
    clear xO50 xO51 xO52 xO53 lO5 px lx O5v O9v OIv  Bv B4v H9v
    rw [← HW5.out]
    clear HW5
    generalize va.heap.size = ba at *
    refine HC.out.mono ?_
    rintro e vb ⟨⟨bp, boa, bon, boc, bta, btn, btc, bsa, bsn, bsc⟩, rfl, hf, bv⟩
    have O5v := Lib.hid ((obj_below bv (lt_of_obj O55.out)).trans O55.out)
    have O9v := Lib.hid ((obj_below bv (lt_of_obj O95.out)).trans O95.out)
    have OIv := Lib.hid ((obj_below bv (lt_of_obj OI5.out)).trans OI5.out)
    have Oav := Lib.hid ((obj_below bv (lt_of_obj Oa5.out)).trans Oa5.out)
    have Hav := Lib.hid (Ha5.out.below bv)
    have Bv : Hid (Below w.heap.size w vb) := Lib.hid (B5.out.trans (bv.mono B5.out.size))
    have B4v : Hid (Below w4.heap.size w4 vb) := Lib.hid ((B45.out.trans (bv.mono B45.out.size)))
    have H9v := Lib.hid (H95.out.below bv)
    obtain ⟨w6, hw6⟩ : ∃ x, x = vb.alloc (.cells (frC ⟨bp, boa, bon, boc, bta, btn, btc, bsa, bsn, bsc⟩) 27) := ⟨_, rfl⟩
    have ba : Below vb.heap.size vb w6 := by rw [hw6]; exact (Below.refl _ _).alloc (Nat.le_refl _) _
    have Ob6 : Hid (obj w6 vb.heap.size = some (.cells (frC ⟨bp, boa, bon, boc, bta, btn, btc, bsa, bsn, bsc⟩) 27 (0, 0))) := Lib.hid (by rw [hw6]; exact fr_box vb _)
    have HW6 := Lib.hid hw6
    have Hb6 := Lib.hid ((hf.mono (base := w4.heap.size) B45.out.size).below ba)
    have B6 : Hid (Below w.heap.size w w6) := Lib.hid (Bv.out.trans (ba.mono Bv.out.size))
    have B46 : Hid (Below w4.heap.size w4 w6) := Lib.hid (B4v.out.trans (ba.mono B4v.out.size))
    have H96 := Lib.hid (H9v.out.below ba)
    have O56 := Lib.hid ((obj_below ba (lt_of_obj O5v.out)).trans O5v.out)
    have O96 := Lib.hid ((obj_below ba (lt_of_obj O9v.out)).trans O9v.out)
    have OI6 := Lib.hid ((obj_below ba (lt_of_obj OIv.out)).trans OIv.out)
    have Oa6 := Lib.hid ((obj_below ba (lt_of_obj Oav.out)).trans Oav.out)
    have Ha6 := Lib.hid (Hav.out.below ba)
    clear hw6 hf bv ba HC B5 H95 O55 O95 OI5 Oa5 Ha5 B45
    obtain ⟨xO50, xO51, xO52, xO53⟩ := fr_cells O5v.out
    simp only at xO50 xO51 xO52 xO53
    have lO5 := lt_of_obj O5v.out
    have px : subOf (obj vb bi) 0 32 = some (idL IDV).toArray := by rw [OIv.out, subOf_cells (by simp), subA_all (by simp)]
    have lx := lt_of_obj OIv.out
    have HC := Lib.hid (acc_act w6 (.slice la l.length lc) (.slice ia ids.length ic) l ⟨sp, soa, son, soc, sta, stn, stc, ssa, ssn, ssc⟩ m node ids (HL.out.below B6.out) (H1.out.below B6.out) FSx.out (HI.out.below B6.out))
    go_wp2_with fail
    clear xO50 xO51 xO52 xO53 lO5 px lx O5v O9v OIv Oav Hav Bv B4v H9v
    rw [← HW6.out]
    clear HW6
    generalize vb.heap.size = bb at *
    refine HC.out.mono ?_
    rintro e vc ⟨⟨cp, coa, con, coc, cta, ctn, ctc, csa, csn, csc⟩, rfl, hf, bv⟩
    have O5v := Lib.hid ((obj_below bv (lt_of_obj O56.out)).trans O56.out)
    have O9v := Lib.hid ((obj_below bv (lt_of_obj O96.out)).trans O96.out)
    have OIv := Lib.hid ((obj_below bv (lt_of_obj OI6.out)).trans OI6.out)
    have Oav := Lib.hid ((obj_below bv (lt_of_obj Oa6.out)).trans Oa6.out)
    have Obv := Lib.hid ((obj_below bv (lt_of_obj Ob6.out)).trans Ob6.out)
    have Hav := Lib.hid (Ha6.out.below bv)
    have Hbv := Lib.hid (Hb6.out.below bv)
    have Bv : Hid (Below w.heap.size w vc) := Lib.hid (B6.out.trans (bv.mono B6.out.size))
    have B4v : Hid (Below w4.heap.size w4 vc) := Lib.hid ((B46.out.trans (bv.mono B46.out.size)))
    have H9v := Lib.hid (H96.out.below bv)
    obtain ⟨w7, hw7⟩ : ∃ x, x = vc.alloc (.cells (frC ⟨cp, coa, con, coc, cta, ctn, ctc, csa, csn, csc⟩) 27) := ⟨_, rfl⟩
    have ba : Below vc.heap.size vc w7 := by rw [hw7]; exact (Below.refl _ _).alloc (Nat.le_refl _) _
    have Oc7 : Hid (obj w7 vc.heap.size = some (.cells (frC ⟨cp, coa, con, coc, cta, ctn, ctc, csa, csn, csc⟩) 27 (0, 0))) := Lib.hid (by rw [hw7]; exact fr_box vc _)
    have HW7 := Lib.hid hw7
    have Hc7 := Lib.hid ((hf.mono (base := w4.heap.size) B46.out.size).below ba)
    have B7 : Hid (Below w.heap.size w w7) := Lib.hid (Bv.out.trans (ba.mono Bv.out.size))
    have B47 : Hid (Below w4.heap.size w4 w7) := Lib.hid (B4v.out.trans (ba.mono B4v.out.size))
    have H97 := Lib.hid (H9v.out.below ba)
    have O57 := Lib.hid ((obj_below ba (lt_of_obj O5v.out)).trans O5v.out)
    have O97 := Lib.hid ((obj_below ba (lt_of_obj O9v.out)).trans O9v.out)
    have OI7 := Lib.hid ((obj_below ba (lt_of_obj OIv.out)).trans OIv.out)
    have Oa7 := Lib.hid ((obj_below ba (lt_of_obj Oav.out)).trans Oav.out)
    have Ob7 := Lib.hid ((obj_below ba (lt_of_obj Obv.out)).trans Obv.out)
    have Ha7 := Lib.hid (Hav.out.below ba)
    have Hb7 := Lib.hid (Hbv.out.below ba)
    clear hw7 hf bv ba HC B6 H96 O56 O96 OI6 Oa6 Ob6 Ha6 Hb6 B46
    obtain ⟨xO50, xO51, xO52, xO53⟩ := fr_cells O5v.out
    simp only at xO50 xO51 xO52 xO53
    have lO5 := lt_of_obj O5v.out
    have px : subOf (obj vc bi) 0 32 = some (idL IDV).toArray := by rw [OIv.out, subOf_cells (by simp), subA_all (by simp)]
    have lx := lt_of_obj OIv.out
    have HC := Lib.hid (refAcc_any w7 (.slice la l.length lc) (.slice ia ids.length ic) l ⟨sp, soa, son, soc, sta, stn, stc, ssa, ssn, ssc⟩ m node ids (HL.out.below B7.out) (HI.out.below B7.out) HNM.out HLN.out (H1.out.below B7.out) FSx.out)
    go_wp2_with fail
    clear xO50 xO51 xO52 xO53 lO5 px lx O5v O9v OIv Oav Obv Hav Hbv Bv B4v H9v
    rw [← HW7.out]
    clear HW7
    generalize vc.heap.size = bc at *
    refine HC.out.mono ?_
    rintro e vd ⟨⟨dp, doa, don, doc, dta, dtn, dtc, dsa, dsn, dsc⟩, rfl, hf, bv⟩
    have O5v := Lib.hid ((obj_below bv (lt_of_obj O57.out)).trans O57.out)
    have O9v := Lib.hid ((obj_below bv (lt_of_obj O97.out)).trans O97.out)
    have OIv := Lib.hid ((obj_below bv (lt_of_obj OI7.out)).trans OI7.out)
    have Oav := Lib.hid ((obj_below bv (lt_of_obj Oa7.out)).trans Oa7.out)
    have Obv := Lib.hid ((obj_below bv (lt_of_obj Ob7.out)).trans Ob7.out)
    have Ocv := Lib.hid ((obj_below bv (lt_of_obj Oc7.out)).trans Oc7.out)
    have Hav := Lib.hid (Ha7.out.below bv)
    have Hbv := Lib.hid (Hb7.out.below bv)
    have Hcv := Lib.hid (Hc7.out.below bv)
    have Bv : Hid (Below w.heap.size w vd) := Lib.hid (B7.out.trans (bv.mono B7.out.size))
    have B4v : Hid (Below w4.heap.size w4 vd) := Lib.hid ((B47.out.trans (bv.mono B47.out.size)))
    have H9v := Lib.hid (H97.out.below bv)
    obtain ⟨w8, hw8⟩ : ∃ x, x = vd.alloc (.cells (frC ⟨dp, doa, don, doc, dta, dtn, dtc, dsa, dsn, dsc⟩) 27) := ⟨_, rfl⟩
    have ba : Below vd.heap.size vd w8 := by rw [hw8]; exact (Below.refl _ _).alloc (Nat.le_refl _) _
    have Od8 : Hid (obj w8 vd.heap.size = some (.cells (frC ⟨dp, doa, don, doc, dta, dtn, dtc, dsa, dsn, dsc⟩) 27 (0, 0))) := Lib.hid (by rw [hw8]; exact fr_box vd _)
    have HW8 := Lib.hid hw8
    have Hd8 := Lib.hid ((hf.mono (base := w4.heap.size) B47.out.size).below ba)
    have B8 : Hid (Below w.heap.size w w8) := Lib.hid (Bv.out.trans (ba.mono Bv.out.size))
    have B48 : Hid (Below w4.heap.size w4 w8) := Lib.hid (B4v.out.trans (ba.mono B4v.out.size))
    have H98 := Lib.hid (H9v.out.below ba)
    have O58 := Lib.hid ((obj_below ba (lt_of_obj O5v.out)).trans O5v.out)
    have O98 := Lib.hid ((obj_below ba (lt_of_obj O9v.out)).trans O9v.out)
    have OI8 := Lib.hid ((obj_below ba (lt_of_obj OIv.out)).trans OIv.out)
    have Oa8 := Lib.hid ((obj_below ba (lt_of_obj Oav.out)).trans Oav.out)
    have Ob8 := Lib.hid ((obj_below ba (lt_of_obj Obv.out)).trans Obv.out)
    have Oc8 := Lib.hid ((obj_below ba (lt_of_obj Ocv.out)).trans Ocv.out)
    have Ha8 := Lib.hid (Hav.out.below ba)
    have Hb8 := Lib.hid (Hbv.out.below ba)
    have Hc8 := Lib.hid (Hcv.out.below ba)
    clear hw8 hf bv ba HC B7 H97 O57 O97 OI7 Oa7 Ob7 Oc7 Ha7 Hb7 Hc7 B47
    obtain ⟨xO50, xO51, xO52, xO53⟩ := fr_cells O5v.out
    simp only at xO50 xO51 xO52 xO53
    have lO5 := lt_of_obj O5v.out
    have px : subOf (obj vd bi) 0 32 = some (idL IDV).toArray := by rw [OIv.out, subOf_cells (by simp), subA_all (by simp)]
    have lx := lt_of_obj OIv.out
    have HC := Lib.hid (failed_any w8 (.slice la l.length lc) l ⟨sp, soa, son, soc, sta, stn, stc, ssa, ssn, ssc⟩ m node (HL.out.below B8.out) (H1.out.below B8.out) FSx.out)
    go_wp2_with fail
    clear xO50 xO51 xO52 xO53 lO5 px lx O5v O9v OIv Oav Obv Ocv Hav Hbv Hcv Bv B4v H9v
    rw [← HW8.out]
    clear HW8
    generalize vd.heap.size = bd at *
    refine HC.out.mono ?_
    rintro e vx ⟨⟨xp, xoa, xon, xoc, xta, xtn, xtc, xsa, xsn, xsc⟩, rfl, hf, bv⟩
    have O5v := Lib.hid ((obj_below bv (lt_of_obj O58.out)).trans O58.out)
    have O9v := Lib.hid ((obj_below bv (lt_of_obj O98.out)).trans O98.out)
    have OIv := Lib.hid ((obj_below bv (lt_of_obj OI8.out)).trans OI8.out)
    have Oav := Lib.hid ((obj_below bv (lt_of_obj Oa8.out)).trans Oa8.out)
    have Obv := Lib.hid ((obj_below bv (lt_of_obj Ob8.out)).trans Ob8.out)
    have Ocv := Lib.hid ((obj_below bv (lt_of_obj Oc8.out)).trans Oc8.out)
    have Odv := Lib.hid ((obj_below bv (lt_of_obj Od8.out)).trans Od8.out)
    have Hav := Lib.hid (Ha8.out.below bv)
    have Hbv := Lib.hid (Hb8.out.below bv)
    have Hcv := Lib.hid (Hc8.out.below bv)
    have Hdv := Lib.hid (Hd8.out.below bv)
    have Bv : Hid (Below w.heap.size w vx) := Lib.hid (B8.out.trans (bv.mono B8.out.size))
    have B4v : Hid (Below w4.heap.size w4 vx) := Lib.hid ((B48.out.trans (bv.mono B48.out.size)))
    have H9v := Lib.hid (H98.out.below bv)
    obtain ⟨w9, hw9⟩ : ∃ x, x = vx.alloc (.cells (frC ⟨xp, xoa, xon, xoc, xta, xtn, xtc, xsa, xsn, xsc⟩) 27) := ⟨_, rfl⟩
    have ba : Below vx.heap.size vx w9 := by rw [hw9]; exact (Below.refl _ _).alloc (Nat.le_refl _) _
    have Ox9 : Hid (obj w9 vx.heap.size = some (.cells (frC ⟨xp, xoa, xon, xoc, xta, xtn, xtc, xsa, xsn, xsc⟩) 27 (0, 0))) := Lib.hid (by rw [hw9]; exact fr_box vx _)
    have HW9 := Lib.hid hw9
    have Hx9 := Lib.hid ((hf.mono (base := w4.heap.size) B48.out.size).below ba)
    have B9 : Hid (Below w.heap.size w w9) := Lib.hid (Bv.out.trans (ba.mono Bv.out.size))
    have B49 : Hid (Below w4.heap.size w4 w9) := Lib.hid (B4v.out.trans (ba.mono B4v.out.size))
    have H99 := Lib.hid (H9v.out.below ba)
    have O59 := Lib.hid ((obj_below ba (lt_of_obj O5v.out)).trans O5v.out)
    have O99 := Lib.hid ((obj_below ba (lt_of_obj O9v.out)).trans O9v.out)
    have OI9 := Lib.hid ((obj_below ba (lt_of_obj OIv.out)).trans OIv.out)
    have Oa9 := Lib.hid ((obj_below ba (lt_of_obj Oav.out)).trans Oav.out)
    have Ob9 := Lib.hid ((obj_below ba (lt_of_obj Obv.out)).trans Obv.out)
    have Oc9 := Lib.hid ((obj_below ba (lt_of_obj Ocv.out)).trans Ocv.out)
    have Od9 := Lib.hid ((obj_below ba (lt_of_obj Odv.out)).trans Odv.out)
    have Ha9 := Lib.hid (Hav.out.below ba)
    have Hb9 := Lib.hid (Hbv.out.below ba)
    have Hc9 := Lib.hid (Hcv.out.below ba)
    have Hd9 := Lib.hid (Hdv.out.below ba)
    clear hw9 hf bv ba HC B8 H98 O58 O98 OI8 Oa8 Ob8 Oc8 Od8 Ha8 Hb8 Hc8 Hd8 B48
    obtain ⟨xO50, xO51, xO52, xO53⟩ := fr_cells O5v.out
    simp only at xO50 xO51 xO52 xO53
    have lO5 := lt_of_obj O5v.out
    have px : subOf (obj vx bi) 0 32 = some (idL IDV).toArray := by rw [OIv.out, subOf_cells (by simp), subA_all (by simp)]
    have lx := lt_of_obj OIv.out
    have HC := Lib.hid (refFailed_any w9 (.slice la l.length lc) l ⟨sp, soa, son, soc, sta, stn, stc, ssa, ssn, ssc⟩ m node (HL.out.below B9.out) HNM.out HLN.out (H1.out.below B9.out) FSx.out)
    go_wp2_with fail
    clear xO50 xO51 xO52 xO53 lO5 px lx O5v O9v OIv Oav Obv Ocv Odv Hav Hbv Hcv Hdv Bv B4v H9v
    rw [← HW9.out]
    clear HW9
    generalize vx.heap.size = bx at *
    refine HC.out.mono ?_
    rintro e vy ⟨⟨yp, yoa, yon, yoc, yta, ytn, ytc, ysa, ysn, ysc⟩, rfl, hf, bv⟩
    have O5v := Lib.hid ((obj_below bv (lt_of_obj O59.out)).trans O59.out)
    have O9v := Lib.hid ((obj_below bv (lt_of_obj O99.out)).trans O99.out)
    have OIv := Lib.hid ((obj_below bv (lt_of_obj OI9.out)).trans OI9.out)
    have Oav := Lib.hid ((obj_below bv (lt_of_obj Oa9.out)).trans Oa9.out)
    have Obv := Lib.hid ((obj_below bv (lt_of_obj Ob9.out)).trans Ob9.out)
    have Ocv := Lib.hid ((obj_below bv (lt_of_obj Oc9.out)).trans Oc9.out)
    have Odv := Lib.hid ((obj_below bv (lt_of_obj Od9.out)).trans Od9.out)
    have Oxv := Lib.hid ((obj_below bv (lt_of_obj Ox9.out)).trans Ox9.out)
    have Hav := Lib.hid (Ha9.out.below bv)
    have Hbv := Lib.hid (Hb9.out.below bv)
    have Hcv := Lib.hid (Hc9.out.below bv)
    have Hdv := Lib.hid (Hd9.out.below bv)
    have Hxv := Lib.hid (Hx9.out.below bv)
    have Bv : Hid (Below w.heap.size w vy) := Lib.hid (B9.out.trans (bv.mono B9.out.size))
    have B4v : Hid (Below w4.heap.size w4 vy) := Lib.hid ((B49.out.trans (bv.mono B49.out.size)))
    have H9v := Lib.hid (H99.out.below bv)
    obtain ⟨w10, hw10⟩ : ∃ x, x = vy.alloc (.cells (frC ⟨yp, yoa, yon, yoc, yta, ytn, ytc, ysa, ysn, ysc⟩) 27) := ⟨_, rfl⟩
    have ba : Below vy.heap.size vy w10 := by rw [hw10]; exact (Below.refl _ _).alloc (Nat.le_refl _) _
    have Oy10 : Hid (obj w10 vy.heap.size = some (.cells (frC ⟨yp, yoa, yon, yoc, yta, ytn, ytc, ysa, ysn, ysc⟩) 27 (0, 0))) := Lib.hid (by rw [hw10]; exact fr_box vy _)
    have HW10 := Lib.hid hw10
    have Hy10 := Lib.hid ((hf.mono (base := w4.heap.size) B49.out.size).below ba)
    have B10 : Hid (Below w.heap.size w w10) := Lib.hid (Bv.out.trans (ba.mono Bv.out.size))
    have B410 : Hid (Below w4.heap.size w4 w10) := Lib.hid (B4v.out.trans (ba.mono B4v.out.size))
    have H910 := Lib.hid (H9v.out.below ba)
    have O510 := Lib.hid ((obj_below ba (lt_of_obj O5v.out)).trans O5v.out)
    have O910 := Lib.hid ((obj_below ba (lt_of_obj O9v.out)).trans O9v.out)
    have OI10 := Lib.hid ((obj_below ba (lt_of_obj OIv.out)).trans OIv.out)
    have Oa10 := Lib.hid ((obj_below ba (lt_of_obj Oav.out)).trans Oav.out)
    have Ob10 := Lib.hid ((obj_below ba (lt_of_obj Obv.out)).trans Obv.out)
    have Oc10 := Lib.hid ((obj_below ba (lt_of_obj Ocv.out)).trans Ocv.out)
    have Od10 := Lib.hid ((obj_below ba (lt_of_obj Odv.out)).trans Odv.out)
    have Ox10 := Lib.hid ((obj_below ba (lt_of_obj Oxv.out)).trans Oxv.out)
    have Ha10 := Lib.hid (Hav.out.below ba)
    have Hb10 := Lib.hid (Hbv.out.below ba)
    have Hc10 := Lib.hid (Hcv.out.below ba)
    have Hd10 := Lib.hid (Hdv.out.below ba)
    have Hx10 := Lib.hid (Hxv.out.below ba)
    clear hw10 hf bv ba HC B9 H99 O59 O99 OI9 Oa9 Ob9 Oc9 Od9 Ox9 Ha9 Hb9 Hc9 Hd9 Hx9 B49
    obtain ⟨xO50, xO51, xO52, xO53⟩ := fr_cells O5v.out
    simp only at xO50 xO51 xO52 xO53
    have lO5 := lt_of_obj O5v.out
    obtain ⟨xO90, xO91, xO92, xO93⟩ := fr_cells O9v.out
    simp only at xO90 xO91 xO92 xO93
    have lO9 := lt_of_obj O9v.out
    obtain ⟨xOa0, xOa1, xOa2, xOa3⟩ := fr_cells Oav.out
    simp only at xOa0 xOa1 xOa2 xOa3
    have lOa := lt_of_obj Oav.out
    obtain ⟨xOb0, xOb1, xOb2, xOb3⟩ := fr_cells Obv.out
    simp only at xOb0 xOb1 xOb2 xOb3
    have lOb := lt_of_obj Obv.out
    obtain ⟨xOc0, xOc1, xOc2, xOc3⟩ := fr_cells Ocv.out
    simp only at xOc0 xOc1 xOc2 xOc3
    have lOc := lt_of_obj Ocv.out
    obtain ⟨xOd0, xOd1, xOd2, xOd3⟩ := fr_cells Odv.out
    simp only at xOd0 xOd1 xOd2 xOd3
    have lOd := lt_of_obj Odv.out
    obtain ⟨xOx0, xOx1, xOx2, xOx3⟩ := fr_cells Oxv.out
    simp only at xOx0 xOx1 xOx2 xOx3
    have lOx := lt_of_obj Oxv.out
    generalize (tipR l m node IDV).2 = ET at *
    generalize (tipR l m node IDV).1 = MT at *
    generalize (accR l m node ids).2 = EA at *
    generalize (accR l m node ids).1 = MA at *
    generalize (failR l m node).2 = EF at *
    generalize (failR l m node).1 = MF at *
    have HQ : Hid (∀ W, Below w10.heap.size w10 W → Calls Tryz.prog 15 #[frV ⟨ap, aoa, aon, aoc, ata, atn, atc, asa, asn, asc⟩, frV ⟨bp, boa, bon, boc, bta, btn, btc, bsa, bsn, bsc⟩] W fun e w' => e = .returned (.bool true) ∧ Below W.heap.size W w') := Lib.hid (fun W hW => (sameR_any W _ _ MT MT (Ha10.out.below hW).at_ (Hb10.out.below hW).at_).mono fun e w' h => by rw [h.1, sameB_refl]; exact ⟨rfl, h.2⟩)
    have HQ2 : Hid (∀ W, Below w10.heap.size w10 W → Calls Tryz.prog 15 #[frV ⟨cp, coa, con, coc, cta, ctn, ctc, csa, csn, csc⟩, frV ⟨dp, doa, don, doc, dta, dtn, dtc, dsa, dsn, dsc⟩] W fun e w' => e = .returned (.bool true) ∧ Below W.heap.size W w') := Lib.hid (fun W hW => (sameR_any W _ _ MA MA (Hc10.out.below hW).at_ (Hd10.out.below hW).at_).mono fun e w' h => by rw [h.1, sameB_refl]; exact ⟨rfl, h.2⟩)
    have HQ3 : Hid (∀ W, Below w10.heap.size w10 W → Calls Tryz.prog 15 #[frV ⟨xp, xoa, xon, xoc, xta, xtn, xtc, xsa, xsn, xsc⟩, frV ⟨yp, yoa, yon, yoc, yta, ytn, ytc, ysa, ysn, ysc⟩] W fun e w' => e = .returned (.bool true) ∧ Below W.heap.size W w') := Lib.hid (fun W hW => (sameR_any W _ _ MF MF (Hx10.out.below hW).at_ (Hy10.out.below hW).at_).mono fun e w' h => by rw [h.1, sameB_refl]; exact ⟨rfl, h.2⟩)
    go_wp2_with fail
    rw [← HW10.out]
    refine (HQ.out w10 (Below.refl _ _)).mono ?_
    rintro e w11 ⟨rfl, b11⟩
    have b1 : Below w10.heap.size w10 w11 := b11
    obtain ⟨xa0, xa1, xa2, xa3⟩ := fr_cells ((obj_below b1 (lt_of_obj Oc10.out)).trans Oc10.out)
    obtain ⟨xb0, xb1, xb2, xb3⟩ := fr_cells ((obj_below b1 (lt_of_obj Od10.out)).trans Od10.out)
    simp only at xa0 xa1 xa2 xa3 xb0 xb1 xb2 xb3
    have HB1 := Lib.hid b1
    clear b1 b11 HW10
    go_wp2_with fail
    refine (HQ2.out w11 HB1.out).mono ?_
    rintro e w12 ⟨rfl, b12⟩
    have b2 := HB1.out.trans (b12.mono HB1.out.size)
    clear xa0 xa1 xa2 xa3 xb0 xb1 xb2 xb3 b12
    obtain ⟨xa0, xa1, xa2, xa3⟩ := fr_cells ((obj_below b2 (lt_of_obj Ox10.out)).trans Ox10.out)
    obtain ⟨xb0, xb1, xb2, xb3⟩ := fr_cells ((obj_below b2 (lt_of_obj Oy10.out)).trans Oy10.out)
    simp only at xa0 xa1 xa2 xa3 xb0 xb1 xb2 xb3
    have HB2 := Lib.hid b2
    clear b2 HB1
    go_wp2_with fail
    refine (HQ3.out w12 HB2.out).mono ?_
    rintro e w13 ⟨rfl, b13⟩
    have b3 := HB2.out.trans (b13.mono HB2.out.size)
    clear xa0 xa1 xa2 xa3 xb0 xb1 xb2 xb3 b13 HQ HQ2 HQ3
    obtain ⟨xa0, xa1, xa2, xa3⟩ := fr_cells ((obj_below b3 (lt_of_obj Oa10.out)).trans Oa10.out)
    obtain ⟨xb0, xb1, xb2, xb3⟩ := fr_cells ((obj_below b3 (lt_of_obj Oc10.out)).trans Oc10.out)
    obtain ⟨xc0, xc1, xc2, xc3⟩ := fr_cells ((obj_below b3 (lt_of_obj Ox10.out)).trans Ox10.out)
    simp only at xa0 xa1 xa2 xa3 xb0 xb1 xb2 xb3 xc0 xc1 xc2 xc3
    have bz0 : Below w13.heap.size w13 (w13.alloc (.cells #[.int .i64 ap, .slice aoa aon aoc, .slice ata atn atc, .slice asa asn asc, .int .i64 cp, .slice coa con coc, .slice cta ctn ctc, .slice csa csn csc, .int .i64 xp, .slice xoa xon xoc, .slice xta xtn xtc, .slice xsa xsn xsc] 27)) := (Below.refl _ _).alloc (Nat.le_refl _) _
    have HJ0 : Hid (JunkAll w4 (w13.alloc (.cells #[.int .i64 ap, .slice aoa aon aoc, .slice ata atn atc, .slice asa asn asc, .int .i64 cp, .slice coa con coc, .slice cta ctn ctc, .slice csa csn csc, .int .i64 xp, .slice xoa xon xoc, .slice xta xtn xtc, .slice xsa xsn xsc] 27)) w13.heap.size [⟨ap, aoa, aon, aoc, ata, atn, atc, asa, asn, asc⟩, ⟨cp, coa, con, coc, cta, ctn, ctc, csa, csn, csc⟩, ⟨xp, xoa, xon, xoc, xta, xtn, xtc, xsa, xsn, xsc⟩]) := Lib.hid (junk3 (obj_alloc_at _ _ _ rfl) (Ha10.out.below b3) (Hc10.out.below b3) (Hx10.out.below b3) (B410.out.trans (b3.mono B410.out.size)) bz0)
    have HDL : Hid (([⟨ap, aoa, aon, aoc, ata, atn, atc, asa, asn, asc⟩, ⟨cp, coa, con, coc, cta, ctn, ctc, csa, csn, csc⟩, ⟨xp, xoa, xon, xoc, xta, xtn, xtc, xsa, xsn, xsc⟩] : List FrD).length = 3) := Lib.hid rfl
    clear bz0 b3 HB2 O510 O910 OI10 Oa10 Ob10 Oc10 Od10 Ox10 Oy10 Ha10 Hb10 Hc10 Hd10 Hx10 Hy10 H910 B10 B410
    go_wp2_with fail
    clear xa0 xa1 xa2 xa3 xb0 xb1 xb2 xb3 xc0 xc1 xc2 xc3
    generalize w13.alloc (.cells #[.int .i64 ap, .slice aoa aon aoc, .slice ata atn atc, .slice asa asn asc, .int .i64 cp, .slice coa con coc, .slice cta ctn ctc, .slice csa csn csc, .int .i64 xp, .slice xoa xon xoc, .slice xta xtn xtc, .slice xsa xsn xsc] 27) = wz at *
    generalize w13.heap.size = bz at *
    generalize ([⟨ap, aoa, aon, aoc, ata, atn, atc, asa, asn, asc⟩, ⟨cp, coa, con, coc, cta, ctn, ctc, csa, csn, csc⟩, ⟨xp, xoa, xon, xoc, xta, xtn, xtc, xsa, xsn, xsc⟩] : List FrD) = ds at *
    go_loopw [24, 25, 26, 28, 29, 135] (fun _ _ _ _ _ v135 wr => ∃ k : Nat, k ≤ 3 ∧ v135 = .int .i64 k ∧ Hid (JunkAll w4 wr bz ds)) (fun _ _ _ _ _ i _ => 3 - (intOf i).toNat)
    case atStart => exact ⟨0, Nat.zero_le _, rfl, HJ0⟩
    case round =>
      clear HJ0
      obtain ⟨k, hk, rfl, HJ⟩ := hrel
      by_cases hlt : k < 3
      case neg =>
        obtain rfl : k = 3 := by omega
        have HW := Lib.hid HJ.out.hb
        obtain ⟨x0, x1, x2, x3⟩ := fr_cells ((obj_below HW.out (lt_of_obj K5.out)).trans K5.out)
        obtain ⟨y0, y1, y2, y3⟩ := fr_cells ((obj_below HW.out (lt_of_obj K9.out)).trans K9.out)
        simp only at x0 x1 x2 x3 y0 y1 y2 y3
        have HE : Hid (Calls Tryz.prog 15 #[frV ⟨sp, soa, son, soc, sta, stn, stc, ssa, ssn, ssc⟩, frV ⟨np, noa, non, noc, nta, ntn, ntc, nsa, nsn, nsc⟩] wr fun e w' => e = .returned (.bool true) ∧ Below wr.heap.size wr w') := Lib.hid ((sameR_any wr _ _ m m (H1.out.below (KB.out.trans (HW.out.mono KB.out.size))) (KH.out.below HW.out)).mono fun e w' h => by rw [h.1, sameB_refl]; exact ⟨rfl, h.2⟩)
        go_wp2_with fail
        refine HE.out.mono ?_
        rintro e wq ⟨rfl, bq⟩
        have BQ : Hid (Below w.heap.size w wq) := Lib.hid ((KB.out.trans (HW.out.mono KB.out.size)).trans (bq.mono (Nat.le_trans KB.out.size HW.out.size)))
        clear bq HE
        go_wp2_with fail
        go_ret
        exact ⟨rfl, BQ.out⟩
      have hkd : k < ds.length := by rw [HDL.out]; exact hlt
      have hsl := SlIn.of_cells (E := 27) (fr := (0, 0)) frL_length ds HJ.out.row (by rw [HDL.out]; decide)
      obtain ⟨oa', cp', e0, _, _, h3⟩ := hsl
      injection e0 with e1 e2 e3
      subst e1
      obtain ⟨bq, oq, e4, _, hr⟩ := h3 (by omega)
      injection e4 with e4
      injection e4 with e5 e6 e7
      subst e5 e6
      have hs := hr k hkd
      rw [Nat.zero_add] at hs
      have HMEM : Hid (ds[k] ∈ ds) := Lib.hid (List.getElem_mem hkd)
      have hzb := lt_of_obj HJ.out.row
      clear hr h3 e2 e3 e7
      generalize ds[k] = dk at *
      obtain ⟨qp, qoa, qon, qoc, qta, qtn, qtc, qsa, qsn, qsc⟩ := dk
      have c0 : wr.cell? ⟨bz, k * 4, none⟩ = some (.int .i64 qp) := by have := subOf_cell hs (j := 0) (by decide); simpa [frL] using this
      have c1 : wr.cell? ⟨bz, k * 4 + 1, none⟩ = some (.slice qoa qon qoc) := by have := subOf_cell hs (j := 1) (by decide); simpa [frL] using this
      have c2 : wr.cell? ⟨bz, k * 4 + 2, none⟩ = some (.slice qta qtn qtc) := by have := subOf_cell hs (j := 2) (by decide); simpa [frL] using this
      have c3 : wr.cell? ⟨bz, k * 4 + 3, none⟩ = some (.slice qsa qsn qsc) := by have := subOf_cell hs (j := 3) (by decide); simpa [frL] using this
      have hki : (k : Int) < 3 := by omega
      clear hs
      have HJA : Hid (JunkAll w4 (wr.alloc (.cells #[.int .i64 qp, .slice qoa qon qoc, .slice qta qtn qtc, .slice qsa qsn qsc] 27)) bz ds) := Lib.hid (HJ.out.below ((Below.refl _ _).alloc (Nat.le_refl _) _))
      have HBT : Hid (obj (wr.alloc (.cells #[.int .i64 qp, .slice qoa qon qoc, .slice qta qtn qtc, .slice qsa qsn qsc] 27)) wr.heap.size = some (.cells #[.int .i64 qp, .slice qoa qon qoc, .slice qta qtn qtc, .slice qsa qsn qsc] 27 (0, 0))) := Lib.hid (obj_alloc_at _ _ _ rfl)
      have t1 := cell_at HBT.out 1
      simp at t1
      go_wp2_with fail
      clear c0 c1 c2 c3 t1 hzb
      generalize wr.alloc (.cells #[.int .i64 qp, .slice qoa qon qoc, .slice qta qtn qtc, .slice qsa qsn qsc] 27) = wa at *
      generalize wr.heap.size = bt at *
      clear HJ
      go_loopw [25, 142] (fun _ v142 wr => ∃ i : Nat, i ≤ qon ∧ v142 = .int .i64 i ∧ Hid (JunkAll w4 wr bz ds) ∧ Hid (obj wr bt = some (.cells #[.int .i64 qp, .slice qoa qon qoc, .slice qta qtn qtc, .slice qsa qsn qsc] 27 (0, 0)))) (fun _ i _ => qon - (intOf i).toNat)
      case atStart => exact ⟨0, Nat.zero_le _, rfl, HJA, HBT⟩
      case round =>
        clear HJA HBT
        obtain ⟨i, hi, rfl, HJ, HBT⟩ := hrel
        by_cases hli : i < qon
        · have hib := (HJ.out.all _ HMEM.out).op.1
          simp only at hib
          rcases (HJ.out.all _ HMEM.out).op.2 with h0 | ⟨g, cur, hga, hgb, ho, hc⟩
          · simp only at h0; omega
          · simp only at hga hc
            subst hga
            obtain ⟨nv, hn⟩ := hc i (by omega)
            have cx : wr.cell? ⟨g, i, none⟩ = some (.int .i64 nv) := (cell_at ho i).trans hn
            have fx := frozen_at ho i
            have gl := lt_of_obj ho
            have t1 := cell_at HBT.out 1
            simp at t1
            have hii : (i : Int) < qon := by omega
            have HO := Lib.hid ho
            clear hc hn ho
            go_wp2_with fail
            go_roundw
            case rel => exact ⟨i + 1, by omega, by go_num, Lib.hid (HJ.out.setI hgb HO.out i _), Lib.hid (box_set HBT.out HO.out (by decide) i _)⟩
            case measure => first | exact meas_step' hli | (simp [intOf]; omega)
        · obtain rfl : qon = i := by omega
          have t2 := cell_at HBT.out 2
          simp at t2
          go_wp2_with fail
          clear t2
          go_loopw [26, 156] (fun _ v156 wr => ∃ i : Nat, i ≤ qtn ∧ v156 = .int .i64 i ∧ Hid (JunkAll w4 wr bz ds) ∧ Hid (obj wr bt = some (.cells #[.int .i64 qp, .slice qoa qon qoc, .slice qta qtn qtc, .slice qsa qsn qsc] 27 (0, 0)))) (fun _ i _ => qtn - (intOf i).toNat)
          case atStart => exact ⟨0, Nat.zero_le _, rfl, HJ, HBT⟩
          case round =>
            clear HJ HBT
            obtain ⟨i, hi, rfl, HJ, HBT⟩ := hrel
            by_cases hli : i < qtn
            · have hib := (HJ.out.all _ HMEM.out).tips.1
              simp only at hib
              rcases (HJ.out.all _ HMEM.out).tips.2 with h0 | ⟨g, cur, hga, hgb, ho, hc⟩
              · simp only at h0; omega
              · simp only at hga hc
                subst hga
                obtain ⟨nv, hn⟩ := hc (i * 32) (by omega)
                have cx : wr.cell? ⟨g, i * 32, none⟩ = some (.int .u8 nv) := (cell_at ho (i * 32)).trans hn
                have fx := frozen_at ho (i * 32)
                have gl := lt_of_obj ho
                have bl := lt_of_obj HBT.out
                have t2 := cell_at HBT.out 2
                simp at t2
                have hii : (i : Int) < qtn := by omega
                have HO := Lib.hid ho
                clear hc hn ho
                go_wp2_with fail
                have HSC : Hid (∀ wx : World, wx = wr.drew → wx.cell? ⟨bt, 2, none⟩ = some (.slice (some ⟨g, 0, none⟩) qtn qtc) ∧ wx.cell? ⟨g, i * 32, none⟩ = some (.int .u8 nv)) := Lib.hid (fun wx e => by subst e; exact ⟨t2, cx⟩)
                have hS : wr.drew = wr.drew := rfl
                refine wp_region_heldT 9 (fun W => W = wr.drew) (by kernel_rfl) ?_
                refine wpAnyT_take (i := 0) (oi := { dst := some 159, op := Op.fieldAddr 27 (Operand.tmp 24) 2, type := 0, pos := _, after := _, guard := none }) (v := (.pointer (some ⟨bt, 2, none⟩))) rfl (by kernel_rfl) (by kernel_rfl) (by kernel_rfl) (by kernel_rfl) (fun _ _ _ h => h) (.inl ⟨by kernel_rfl, fun W' hW => by go_simp⟩) hS ?_
                try simp only [Act.put, List.setIfInBounds_toArray, List.set_cons_zero, List.set_cons_succ]
                refine wpAnyT_take (i := 1) (oi := { dst := some 160, op := Op.load 24 (Operand.tmp 159), type := 24, pos := _, after := _, guard := none }) (v := (.slice (some ⟨g, 0, none⟩) qtn qtc)) rfl (by kernel_rfl) (by kernel_rfl) (by kernel_rfl) (by kernel_rfl) (fun _ _ _ h => h) (.inl ⟨by kernel_rfl, fun W' hW => by obtain ⟨f1, f2⟩ := HSC.out W' hW; go_simp⟩) hS ?_
                try simp only [Act.put, List.setIfInBounds_toArray, List.set_cons_zero, List.set_cons_succ]
                refine wpAnyT_take (i := 2) (oi := { dst := some 161, op := Op.move (Operand.tmp 26), type := 3, pos := _, after := _, guard := none }) (v := (.int .i64 (i : Int))) rfl (by kernel_rfl) (by kernel_rfl) (by kernel_rfl) (by kernel_rfl) (fun _ _ _ h => h) (yieldsIf_mv (by kernel_rfl) (.tmp 26) (by kernel_rfl) (by kernel_rfl)) hS ?_
                try simp only [Act.put, List.setIfInBounds_toArray, List.set_cons_zero, List.set_cons_succ]
                refine wpAnyT_take (i := 3) (oi := { dst := some 162, op := Op.indexAddr 24 (Operand.tmp 160) (Operand.tmp 161), type := 0, pos := _, after := _, guard := none }) (v := (.pointer (some ⟨g, i * 32, none⟩))) rfl (by kernel_rfl) (by kernel_rfl) (by kernel_rfl) (by kernel_rfl) (fun _ _ _ h => h) (.inl ⟨by kernel_rfl, fun W' hW => by go_simp⟩) hS ?_
                try simp only [Act.put, List.setIfInBounds_toArray, List.set_cons_zero, List.set_cons_succ]
                refine wpAnyT_take (i := 4) (oi := { dst := some 163, op := Op.indexAddr 32 (Operand.tmp 162) (Operand.const (Value.int IntKind.i64 0)), type := 0, pos := _, after := _, guard := none }) (v := (.pointer (some ⟨g, i * 32, none⟩))) rfl (by kernel_rfl) (by kernel_rfl) (by kernel_rfl) (by kernel_rfl) (fun _ _ _ h => h) (.inl ⟨by kernel_rfl, fun W' hW => by go_simp⟩) hS ?_
                try simp only [Act.put, List.setIfInBounds_toArray, List.set_cons_zero, List.set_cons_succ]
                refine wpAnyT_take (i := 5) (oi := { dst := some 164, op := Op.load 5 (Operand.tmp 163), type := 5, pos := _, after := _, guard := none }) (v := (.int .u8 nv)) rfl (by kernel_rfl) (by kernel_rfl) (by kernel_rfl) (by kernel_rfl) (fun _ _ _ h => h) (.inl ⟨by kernel_rfl, fun W' hW => by obtain ⟨f1, f2⟩ := HSC.out W' hW; go_simp⟩) hS ?_
                try simp only [Act.put, List.setIfInBounds_toArray, List.set_cons_zero, List.set_cons_succ]
                refine wpAnyT_take (i := 6) (oi := { dst := some 165, op := Op.binOp BinOp.xor 5 (Operand.tmp 164) (Operand.const (Value.int IntKind.u8 1)) 5, type := 5, pos := _, after := _, guard := none }) (v := (.int .u8 (bits .xor .u8 nv 1))) rfl (by kernel_rfl) (by kernel_rfl) (by kernel_rfl) (by kernel_rfl) (fun _ _ _ h => h) (.inl ⟨by kernel_rfl, fun W' hW => by go_simp⟩) hS ?_
                try simp only [Act.put, List.setIfInBounds_toArray, List.set_cons_zero, List.set_cons_succ]
                refine wpAnyT_ready (rs := [7]) (by kernel_rfl) (by simp) (AllReadyT.cons (o := { dst := some 166, op := Op.indexAddr 24 (Operand.tmp 160) (Operand.tmp 161), type := 0, pos := _, after := _, guard := none }) rfl (fun K hK => ?_) AllReadyT.nil)
                go_simp
                have hS7 := hS
                refine hK.out _ _ (.inr hS7) ?_
                clear hK K
                try simp only [Act.put, List.setIfInBounds_toArray, List.set_cons_zero, List.set_cons_succ]
                refine wpAnyT_take (i := 8) (oi := { dst := some 167, op := Op.indexAddr 32 (Operand.tmp 166) (Operand.const (Value.int IntKind.i64 0)), type := 0, pos := _, after := _, guard := none }) (v := (.pointer (some ⟨g, i * 32, none⟩))) rfl (by kernel_rfl) (by kernel_rfl) (by kernel_rfl) (by kernel_rfl) (fun _ _ _ h => h) (.inl ⟨by kernel_rfl, fun W' hW => by go_simp⟩) hS7 ?_
                try simp only [Act.put, List.setIfInBounds_toArray, List.set_cons_zero, List.set_cons_succ]
                refine wpAnyT_ready (rs := [9]) (by kernel_rfl) (by simp) (AllReadyT.cons (o := { dst := none, op := Op.store 5 (Operand.tmp 167) (Operand.tmp 165), type := 0, pos := _, after := _, guard := none }) rfl (fun K hK => ?_) AllReadyT.nil)
                go_simp
                refine hK.out _ _ (.inl rfl) ?_
                clear hK K
                try simp only [Act.put, List.setIfInBounds_toArray, List.set_cons_zero, List.set_cons_succ]
                refine wpAnyT_done (by kernel_rfl) ?_ _
                go_wp2_with fail
                go_roundw
                case rel => exact ⟨i + 1, by omega, by go_num, Lib.hid (HJ.out.drew.setB hgb HO.out (i * 32) _), Lib.hid (box_set HBT.out HO.out (by decide) (i * 32) _)⟩
                case measure => first | exact meas_step' hli | (simp [intOf]; omega)
            · obtain rfl : qtn = i := by omega
              have t3 := cell_at HBT.out 3
              simp at t3
              go_wp2_with fail
              clear t3
              go_loopw [28, 29, 172] (fun _ _ v172 wr => ∃ j : Nat, j ≤ qsn ∧ v172 = .int .i64 j ∧ Hid (JunkAll w4 wr bz ds) ∧ Hid (obj wr bt = some (.cells #[.int .i64 qp, .slice qoa qon qoc, .slice qta qtn qtc, .slice qsa qsn qsc] 27 (0, 0)))) (fun _ _ i _ => qsn - (intOf i).toNat)
              case atStart => exact ⟨0, Nat.zero_le _, rfl, HJ, HBT⟩
              case round =>
                clear HJ HBT
                obtain ⟨j, hj, rfl, HJ, HBT⟩ := hrel
                by_cases hlj : j < qsn
                case neg =>
                  go_wp2_with fail
                  go_roundw
                  case rel => exact ⟨k + 1, by omega, by go_num, HJ⟩
                  case measure => first | exact meas_step' hlt | (simp [intOf]; omega)
                obtain ⟨rows, hrn, hrw, hrj⟩ := (HJ.out.all _ HMEM.out).said
                simp only at hrn hrw
                obtain ⟨oa', cp', e0, _, hcm, h3⟩ := hrw.slIn sdL_length
                injection e0 with e1 e2 e3
                obtain ⟨b2, o2, e4, hb2, hr2⟩ := h3 (by omega)
                subst e1 e4
                unfold maxLen at hcm
                have hjr : j < rows.length := by omega
                have z1 := hr2 j hjr
                have HJC := Lib.hid (hrj rows[j] (List.getElem_mem hjr))
                generalize rows[j] = r at *
                obtain ⟨rn, roa, rln, rcap⟩ := r
                have c0 : wr.cell? ⟨b2, o2 + j * 2, none⟩ = some (.int .i64 rn) := by have := subOf_cell z1 (j := 0) (by decide); simpa [sdL] using this
                have c1 : wr.cell? ⟨b2, o2 + j * 2 + 1, none⟩ = some (.slice roa rln rcap) := by have := subOf_cell z1 (j := 1) (by decide); simpa [sdL] using this
                have hji : (j : Int) < qsn := by omega
                have hjb : qsn ≤ 9223372036854775807 := by omega
                clear z1 hr2 h3 hrj hrw hjr hrn e2 e3
                have ba : Below wr.heap.size wr (wr.alloc (.cells #[.int .i64 rn, .slice roa rln rcap] 42)) := (Below.refl _ _).alloc (Nat.le_refl _) _
                have HJA : Hid (JunkAll w4 (wr.alloc (.cells #[.int .i64 rn, .slice roa rln rcap] 42)) bz ds) := Lib.hid (HJ.out.below ba)
                have HBA := Lib.hid ((obj_below ba (lt_of_obj HBT.out)).trans HBT.out)
                have HSA : Hid (obj (wr.alloc (.cells #[.int .i64 rn, .slice roa rln rcap] 42)) wr.heap.size = some (.cells #[.int .i64 rn, .slice roa rln rcap] 42 (0, 0))) := Lib.hid (obj_alloc_at _ _ _ rfl)
                have HCA : Hid (JunkC (wr.alloc (.cells #[.int .i64 rn, .slice roa rln rcap] 42)) w4.heap.size 32 .u8 32 roa rln) := Lib.hid (HJC.out.below ba)
                have s1 := cell_at HSA.out 1
                simp at s1
                clear ba HJ HBT HJC
                go_wp2_with fail
                clear c0 c1 s1
                generalize wr.alloc (.cells #[.int .i64 rn, .slice roa rln rcap] 42) = ws at *
                generalize wr.heap.size = bs at *
                clear hb2
                go_loopw [29, 179] (fun _ v179 wr => ∃ i : Nat, i ≤ rln ∧ v179 = .int .i64 i ∧ Hid (JunkAll w4 wr bz ds) ∧ Hid (obj wr bt = some (.cells #[.int .i64 qp, .slice qoa qon qoc, .slice qta qtn qtc, .slice (some ⟨b2, o2, none⟩) qsn qsc] 27 (0, 0))) ∧ Hid (obj wr bs = some (.cells #[.int .i64 rn, .slice roa rln rcap] 42 (0, 0))) ∧ Hid (JunkC wr w4.heap.size 32 .u8 32 roa rln)) (fun _ i _ => rln - (intOf i).toNat)
                case atStart => exact ⟨0, Nat.zero_le _, rfl, HJA, HBA, HSA, HCA⟩
                case round =>
                  clear HJA HBA HSA HCA
                  obtain ⟨i, hi, rfl, HJ, HBT, HST, HJC⟩ := hrel
                  by_cases hli : i < rln
                  case neg =>
                    go_wp2_with fail
                    go_roundw
                    case rel => exact ⟨j + 1, by omega, by go_num, HJ, HBT⟩
                    case measure => first | exact meas_step' hlj | (simp [intOf]; omega)
                  have hib := HJC.out.1
                  rcases HJC.out.2 with h0 | ⟨g, cur, hga, hgb, ho, hc⟩
                  · omega
                  · subst hga
                    obtain ⟨nv, hn⟩ := hc (i * 32) (by omega)
                    have cx : wr.cell? ⟨g, i * 32, none⟩ = some (.int .u8 nv) := (cell_at ho (i * 32)).trans hn
                    have fx := frozen_at ho (i * 32)
                    have gl := lt_of_obj ho
                    have bl := lt_of_obj HST.out
                    have s1 := cell_at HST.out 1
                    simp at s1
                    have hii : (i : Int) < rln := by omega
                    have HO := Lib.hid ho
                    clear hc hn ho
                    go_wp2_with fail
                    have HSC : Hid (∀ wx : World, wx = wr.drew → wx.cell? ⟨bs, 1, none⟩ = some (.slice (some ⟨g, 0, none⟩) rln rcap) ∧ wx.cell? ⟨g, i * 32, none⟩ = some (.int .u8 nv)) := Lib.hid (fun wx e => by subst e; exact ⟨s1, cx⟩)
                    have hS : wr.drew = wr.drew := rfl
                    refine wp_region_heldT 9 (fun W => W = wr.drew) (by kernel_rfl) ?_
                    refine wpAnyT_take (i := 0) (oi := { dst := some 182, op := Op.fieldAddr 42 (Operand.tmp 28) 1, type := 0, pos := _, after := _, guard := none }) (v := (.pointer (some ⟨bs, 1, none⟩))) rfl (by kernel_rfl) (by kernel_rfl) (by kernel_rfl) (by kernel_rfl) (fun _ _ _ h => h) (.inl ⟨by kernel_rfl, fun W' hW => by go_simp⟩) hS ?_
                    try simp only [Act.put, List.setIfInBounds_toArray, List.set_cons_zero, List.set_cons_succ]
                    refine wpAnyT_take (i := 1) (oi := { dst := some 183, op := Op.load 24 (Operand.tmp 182), type := 24, pos := _, after := _, guard := none }) (v := (.slice (some ⟨g, 0, none⟩) rln rcap)) rfl (by kernel_rfl) (by kernel_rfl) (by kernel_rfl) (by kernel_rfl) (fun _ _ _ h => h) (.inl ⟨by kernel_rfl, fun W' hW => by obtain ⟨f1, f2⟩ := HSC.out W' hW; go_simp⟩) hS ?_
                    try simp only [Act.put, List.setIfInBounds_toArray, List.set_cons_zero, List.set_cons_succ]
                    refine wpAnyT_take (i := 2) (oi := { dst := some 184, op := Op.move (Operand.tmp 29), type := 3, pos := _, after := _, guard := none }) (v := (.int .i64 (i : Int))) rfl (by kernel_rfl) (by kernel_rfl) (by kernel_rfl) (by kernel_rfl) (fun _ _ _ h => h) (yieldsIf_mv (by kernel_rfl) (.tmp 29) (by kernel_rfl) (by kernel_rfl)) hS ?_
                    try simp only [Act.put, List.setIfInBounds_toArray, List.set_cons_zero, List.set_cons_succ]
                    refine wpAnyT_take (i := 3) (oi := { dst := some 185, op := Op.indexAddr 24 (Operand.tmp 183) (Operand.tmp 184), type := 0, pos := _, after := _, guard := none }) (v := (.pointer (some ⟨g, i * 32, none⟩))) rfl (by kernel_rfl) (by kernel_rfl) (by kernel_rfl) (by kernel_rfl) (fun _ _ _ h => h) (.inl ⟨by kernel_rfl, fun W' hW => by go_simp⟩) hS ?_
                    try simp only [Act.put, List.setIfInBounds_toArray, List.set_cons_zero, List.set_cons_succ]
                    refine wpAnyT_take (i := 4) (oi := { dst := some 186, op := Op.indexAddr 32 (Operand.tmp 185) (Operand.const (Value.int IntKind.i64 0)), type := 0, pos := _, after := _, guard := none }) (v := (.pointer (some ⟨g, i * 32, none⟩))) rfl (by kernel_rfl) (by kernel_rfl) (by kernel_rfl) (by kernel_rfl) (fun _ _ _ h => h) (.inl ⟨by kernel_rfl, fun W' hW => by go_simp⟩) hS ?_
                    try simp only [Act.put, List.setIfInBounds_toArray, List.set_cons_zero, List.set_cons_succ]
                    refine wpAnyT_take (i := 5) (oi := { dst := some 187, op := Op.load 5 (Operand.tmp 186), type := 5, pos := _, after := _, guard := none }) (v := (.int .u8 nv)) rfl (by kernel_rfl) (by kernel_rfl) (by kernel_rfl) (by kernel_rfl) (fun _ _ _ h => h) (.inl ⟨by kernel_rfl, fun W' hW => by obtain ⟨f1, f2⟩ := HSC.out W' hW; go_simp⟩) hS ?_
                    try simp only [Act.put, List.setIfInBounds_toArray, List.set_cons_zero, List.set_cons_succ]
                    refine wpAnyT_take (i := 6) (oi := { dst := some 188, op := Op.binOp BinOp.xor 5 (Operand.tmp 187) (Operand.const (Value.int IntKind.u8 1)) 5, type := 5, pos := _, after := _, guard := none }) (v := (.int .u8 (bits .xor .u8 nv 1))) rfl (by kernel_rfl) (by kernel_rfl) (by kernel_rfl) (by kernel_rfl) (fun _ _ _ h => h) (.inl ⟨by kernel_rfl, fun W' hW => by go_simp⟩) hS ?_
                    try simp only [Act.put, List.setIfInBounds_toArray, List.set_cons_zero, List.set_cons_succ]
                    refine wpAnyT_ready (rs := [7]) (by kernel_rfl) (by simp) (AllReadyT.cons (o := { dst := some 189, op := Op.indexAddr 24 (Operand.tmp 183) (Operand.tmp 184), type := 0, pos := _, after := _, guard := none }) rfl (fun K hK => ?_) AllReadyT.nil)
                    go_simp
                    have hS7 := hS
                    refine hK.out _ _ (.inr hS7) ?_
                    clear hK K
                    try simp only [Act.put, List.setIfInBounds_toArray, List.set_cons_zero, List.set_cons_succ]
                    refine wpAnyT_take (i := 8) (oi := { dst := some 190, op := Op.indexAddr 32 (Operand.tmp 189) (Operand.const (Value.int IntKind.i64 0)), type := 0, pos := _, after := _, guard := none }) (v := (.pointer (some ⟨g, i * 32, none⟩))) rfl (by kernel_rfl) (by kernel_rfl) (by kernel_rfl) (by kernel_rfl) (fun _ _ _ h => h) (.inl ⟨by kernel_rfl, fun W' hW => by go_simp⟩) hS7 ?_
                    try simp only [Act.put, List.setIfInBounds_toArray, List.set_cons_zero, List.set_cons_succ]
                    refine wpAnyT_ready (rs := [9]) (by kernel_rfl) (by simp) (AllReadyT.cons (o := { dst := none, op := Op.store 5 (Operand.tmp 190) (Operand.tmp 188), type := 0, pos := _, after := _, guard := none }) rfl (fun K hK => ?_) AllReadyT.nil)
                    go_simp
                    refine hK.out _ _ (.inl rfl) ?_
                    clear hK K
                    try simp only [Act.put, List.setIfInBounds_toArray, List.set_cons_zero, List.set_cons_succ]
                    refine wpAnyT_done (by kernel_rfl) ?_ _
                    go_wp2_with fail
                    go_roundw
                    case rel => exact ⟨i + 1, by omega, by go_num, Lib.hid (HJ.out.drew.setB hgb HO.out (i * 32) _), Lib.hid (box_set HBT.out HO.out (by decide) (i * 32) _), Lib.hid (box_set HST.out HO.out (by decide) (i * 32) _), Lib.hid (HJC.out.set HO.out (fun _ => rfl) (i * 32) _)⟩
                    case measure => first | exact meas_step' hli | (simp [intOf]; omega))
end Go.Proofs.YtmgpfmgmpmkkaaaGreat
