import Derived.Test.YtmgpfmgmpmkkaaaEndP
import Derived.Test.YtmgpfmgmpmkkaaaSm
import Derived.Test.YtmgpfmgmpmkkaaaLiv
namespace Go.Proofs.Ytmgpfmgmpmkkaaa
open Go.RowKit Go.Shelf Go.Sort

def byteL (n : Int) : List Value := [.int .u8 n]
theorem byteL_length (n : Int) : (byteL n).length = 1 := rfl
theorem frAt_keeps {w0 w W : World} {d : FrD} {m : FrM} (h : FrAt w0 d m) (hb : Below w0.heap.size w0 W) : FrAt W d m := h.below hb
set_option maxRecDepth 100000 in
set_option maxHeartbeats 8000000 in
theorem endsLaw_any (w : World) (v vs va vo : Value) (l : List Vd) (zs : List Int) (xs : List AnsD) (av : List AnsM) (os : List Int) (hl : SlIn w v 2 vdL l) (hs : SlIn w vs 1 intL zs) (hzl : zs.length ≤ 17592186043904) (ha : SlIn w va 34 ansL xs) (hA : AsAt w xs av)
    (ho : SlIn w vo 1 byteL os) (hob : ∀ x ∈ os, 0 ≤ x ∧ x ≤ 255) : Calls Try.prog 3 #[v, vs, va, vo] w fun e w' => e = .returned (.bool true) ∧ Below w.heap.size w w' := by
  have HL := Lib.hid hl
  have HX := Lib.hid ha
  have HA := Lib.hid hA
  have HO := Lib.hid ho
  have HOB := Lib.hid hob
  have HN := Lib.hid (new_act w v vs l zs hl hs hzl)
  have HOK : Hid ((newR l zs).2 = 0 → chk l = 0 ∧ placesB l.length (openOf zs) = true ∧ openOf zs ≠ [] ∧ (newR l zs).1 = ⟨1, openOf zs, [], []⟩) := Lib.hid new_ok
  obtain ⟨la, lc, rfl, -, hlm, -⟩ := hl
  obtain ⟨sa, sc, rfl, -, hsm, -⟩ := hs
  obtain ⟨oa, oc, rfl, -, hom, ho3⟩ := ho
  have HO3 := Lib.hid ho3
  unfold maxLen at hlm hsm hom
  generalize newR l zs = RN at *
  obtain ⟨M, E⟩ := RN
  simp only at HN HOK
  clear ha hA ho3 hob
  go_enter Try.func3, Try.ntmps3
  go_wp2_with fail
  refine HN.out.mono ?_
  rintro e w1 ⟨d1, rfl, hf1, b1⟩
  have b2 : Below w1.heap.size w1 (w1.alloc (.cells (frC d1) 29)) := (Below.refl _ _).alloc (Nat.le_refl _) _
  have OF := Lib.hid (fr_box w1 d1)
  have AF := Lib.hid ((hf1.mono (base := 0) (Nat.zero_le _)).below b2)
  have B2 : Hid (Below w.heap.size w (w1.alloc (.cells (frC d1) 29))) := Lib.hid (b1.trans (b2.mono b1.size))
  have hz1 := b1.size
  clear HN hf1 b1 b2
  obtain ⟨ap, aoa, aon, aoc, ata, atn, atc, asa, asn, asc⟩ := d1
  go_wp2_with fail
  generalize w1.alloc (.cells (frC ⟨ap, aoa, aon, aoc, ata, atn, atc, asa, asn, asc⟩) 29) = w2 at *
  generalize w1.heap.size = bf at *
  refine (live_any _).mono ?_
  rintro e w3 ⟨rfl, b3⟩
  have OF3 := Lib.hid ((obj_below b3 (lt_of_obj OF.out)).trans OF.out)
  have AF3 := Lib.hid (AF.out.below b3)
  have B3 : Hid (Below w.heap.size w w3) := Lib.hid (B2.out.trans (b3.mono B2.out.size))
  clear b3 OF AF B2
  by_cases hE : E = 0
  case neg =>
    go_wp2_with fail
    refine (live_any _).mono ?_
    rintro e wz ⟨rfl, bz⟩
    go_wp2_with fail
    go_ret
    exact ⟨rfl, B3.out.trans (bz.mono B3.out.size)⟩
  subst hE
  obtain ⟨hchk, hpl, hne, rfl⟩ := HOK.out rfl
  generalize openOf zs = base at *
  have HCH := Lib.hid hchk
  have HPL := Lib.hid hpl
  have HNE := Lib.hid hne
  clear hchk hpl hne HOK
  go_wp2_with fail
  refine (fewN_any _ _ l (HL.out.below B3.out)).mono ?_
  rintro e w4 ⟨⟨b, rfl⟩, b4⟩
  have OF4 := Lib.hid ((obj_below b4 (lt_of_obj OF3.out)).trans OF3.out)
  have AF4 := Lib.hid (AF3.out.below b4)
  have B4 : Hid (Below w.heap.size w w4) := Lib.hid (B3.out.trans (b4.mono B3.out.size))
  clear b4 OF3 AF3 B3
  cases b with
  | false =>
    go_wp2_with fail
    refine (live_any _).mono ?_
    rintro e wz ⟨rfl, bz⟩
    go_wp2_with fail
    go_ret
    exact ⟨rfl, B4.out.trans (bz.mono B4.out.size)⟩
  | true =>
  go_wp2_with fail
  refine (short_any _ _ xs (HX.out.below B4.out)).mono ?_
  rintro e w5 ⟨⟨b, rfl, -⟩, b5⟩
  have OF5 := Lib.hid ((obj_below b5 (lt_of_obj OF4.out)).trans OF4.out)
  have AF5 := Lib.hid (AF4.out.below b5)
  have B5 : Hid (Below w.heap.size w w5) := Lib.hid (B4.out.trans (b5.mono B4.out.size))
  clear b5 OF4 AF4 B4
  cases b with
  | false =>
    go_wp2_with fail
    refine (live_any _).mono ?_
    rintro e wz ⟨rfl, bz⟩
    go_wp2_with fail
    go_ret
    exact ⟨rfl, B5.out.trans (bz.mono B5.out.size)⟩
  | true =>
  by_cases hs2 : (200 : Int) < zs.length
  case pos =>
    go_wp2_with fail
    refine (live_any _).mono ?_
    rintro e wz ⟨rfl, bz⟩
    go_wp2_with fail
    go_ret
    exact ⟨rfl, B5.out.trans (bz.mono B5.out.size)⟩
  by_cases ho2 : (200 : Int) < os.length
  case pos =>
    go_wp2_with fail
    refine (live_any _).mono ?_
    rintro e wz ⟨rfl, bz⟩
    go_wp2_with fail
    go_ret
    exact ⟨rfl, B5.out.trans (bz.mono B5.out.size)⟩
  have hb6 : Below w5.heap.size w5 (w5.alloc (.cells (frC ⟨ap, aoa, aon, aoc, ata, atn, atc, asa, asn, asc⟩) 29)) := (Below.refl _ _).alloc (Nat.le_refl _) _
  have OG6 : Hid (obj (w5.alloc (.cells (frC ⟨ap, aoa, aon, aoc, ata, atn, atc, asa, asn, asc⟩) 29)) w5.heap.size = some (.cells (frC ⟨ap, aoa, aon, aoc, ata, atn, atc, asa, asn, asc⟩) 29 (0, 0))) := Lib.hid (obj_alloc_at _ _ _ rfl)
  have hbf := lt_of_obj OF5.out
  have OF6 := Lib.hid ((obj_below hb6 hbf).trans OF5.out)
  have AF6 := Lib.hid (AF5.out.below hb6)
  have B6 : Hid (Below w.heap.size w (w5.alloc (.cells (frC ⟨ap, aoa, aon, aoc, ata, atn, atc, asa, asn, asc⟩) 29))) := Lib.hid (B5.out.trans (hb6.mono B5.out.size))
  have HAN : Hid (base.length = aon) := Lib.hid AF5.out.at_.op.n.symm
  have h32 := (chk_32 HCH.out).2.1
  have h321 := (chk_32 HCH.out).1
  have hpl := places_len HPL.out
  have hwn : IntKind.i64.wrap ((aon : Int) + (l.length : Int)) = ((aon + l.length : Nat) : Int) := by have := HAN.out; simp [IntKind.wrap, IntKind.signed, IntKind.bits]; omega
  have HJ0 : Hid (J l.length base av 0 ⟨1, base, [], []⟩) := Lib.hid (J.start HNE.out)
  have hbg : bf ≠ w5.heap.size := by omega
  have hwb : w.heap.size ≤ w5.heap.size := B5.out.size
  have x0 := cell_at OF5.out 0
  have x1 := cell_at OF5.out 1
  have x2 := cell_at OF5.out 2
  have x3 := cell_at OF5.out 3
  simp at x0 x1 x2 x3
  clear hb6 OF5 AF5 B5
  go_wp2_with fail
  generalize w5.alloc (.cells (frC ⟨ap, aoa, aon, aoc, ata, atn, atc, asa, asn, asc⟩) 29) = w6 at *
  generalize w5.heap.size = bg at *
  clear x0 x1 x2 x3
  have HKN : Hid (base.length + l.length = aon + l.length) := Lib.hid (by rw [HAN.out])
  generalize hnn : aon + l.length = nn at *
  clear hwn
  go_loopw [13, 14, 15, 57] (fun _ _ _ v57 wr => ∃ (k : Nat) (mf mg : FrM) (df dg : FrD), k ≤ nn ∧ v57 = .int .i64 k ∧ Hid (J l.length base av k mf) ∧ Hid (J l.length base av k mg) ∧ Hid (obj wr bf = some (.cells (frC df) 29 (0, 0))) ∧ Hid (obj wr bg = some (.cells (frC dg) 29 (0, 0))) ∧ Hid (FrOwn wr 0 df mf) ∧ Hid (FrOwn wr 0 dg mg) ∧ Hid (Below w.heap.size w wr)) (fun _ _ _ i _ => nn - (intOf i).toNat)
  case atStart => exact ⟨0, _, _, ⟨ap, aoa, aon, aoc, ata, atn, atc, asa, asn, asc⟩, ⟨ap, aoa, aon, aoc, ata, atn, atc, asa, asn, asc⟩, Nat.zero_le _, rfl, HJ0, HJ0, OF6, OG6, AF6, AF6, B6⟩
  case round =>
    clear HJ0 OF6 OG6 AF6 B6
    obtain ⟨k, mf, mg, df, dg, hk, rfl, JF, JG, OF, OG, AF, AG, HB⟩ := hrel
    obtain ⟨pp, poa, pon, poc, pta, ptn, ptc, psa, psn, psc⟩ := df
    obtain ⟨qp, qoa, qon, qoc, qta, qtn, qtc, qsa, qsn, qsc⟩ := dg
    have HBN := Lib.hid (places_nodup HPL.out)
    have hbfl := lt_of_obj OF.out
    have hbgl := lt_of_obj OG.out
    by_cases hlt : k < nn
    case neg =>
      have hop : mf.op = [] := JF.out.ended (by have := HKN.out; omega) (by omega)
      obtain ⟨hmg, hph⟩ := JF.out.shut HBN.out JG.out hop
      obtain rfl : pp = 3 := AF.out.phase.trans hph
      obtain rfl : pon = 0 := (show pon = List.length _ from AF.out.at_.op.n).trans (by rw [hop]; rfl)
      have HSM := Lib.hid (same_any wr ⟨3, poa, 0, poc, pta, ptn, ptc, psa, psn, psc⟩ ⟨qp, qoa, qon, qoc, qta, qtn, qtc, qsa, qsn, qsc⟩ mf mg AF.out.at_ AG.out.at_)
      rw [hmg, sameB_refl] at HSM
      clear hmg hph hop
      have x0 := cell_at OF.out 0
      have x1 := cell_at OF.out 1
      have x2 := cell_at OF.out 2
      have x3 := cell_at OF.out 3
      simp at x0 x1 x2 x3
      have y0 := cell_at OG.out 0
      have y1 := cell_at OG.out 1
      have y2 := cell_at OG.out 2
      have y3 := cell_at OG.out 3
      simp at y0 y1 y2 y3
      go_wp2_with fail
      refine HSM.out.mono ?_
      rintro e wz ⟨rfl, bz⟩
      go_wp2_with fail
      go_ret
      exact ⟨rfl, HB.out.trans (bz.mono HB.out.size)⟩
    have hmf := may_small (JF.out.may HPL.out l HCH.out rfl)
    have hmgs := may_small (JG.out.may HPL.out l HCH.out rfl)
    have HMG := Lib.hid hmgs
    have HA1 := Lib.hid (answered_any wr _ _ l ⟨pp, poa, pon, poc, pta, ptn, ptc, psa, psn, psc⟩ mf 0 xs av (HL.out.below HB.out) AF.out hmf (HX.out.below HB.out) (HA.out.below HB.out) (by decide))
    clear hmf hmgs
    have hki : (k : Int) < nn := by omega
    have hnn64 : nn ≤ 64 := by have := HKN.out; omega
    have x0 := cell_at OF.out 0
    have x1 := cell_at OF.out 1
    have x2 := cell_at OF.out 2
    have x3 := cell_at OF.out 3
    simp at x0 x1 x2 x3
    by_cases hop : mf.op = []
    case pos =>
      rw [ans_empty 0 av hop] at HA1
      go_wp2_with fail
      refine HA1.out.mono ?_
      rintro e w7 ⟨⟨gp, goa, gon, goc, gta, gtn, gtc, gsa, gsn, gsc⟩, rfl, f7, b7⟩
      have OF7 := Lib.hid ((obj_below b7 hbfl).trans OF.out)
      have OG7 := Lib.hid ((obj_below b7 hbgl).trans OG.out)
      have AG7 := Lib.hid (AG.out.below b7)
      have B7 : Hid (Below w.heap.size w w7) := Lib.hid (HB.out.trans (b7.mono HB.out.size))
      have AF7 := Lib.hid f7
      clear b7 f7 HA1 x0 x1 x2 x3
      have OF8 : Hid (obj ((((w7.setCell ⟨bf, 0, none⟩ (.int .i64 gp)).setCell ⟨bf, 1, none⟩ (.slice goa gon goc)).setCell ⟨bf, 2, none⟩ (.slice gta gtn gtc)).setCell ⟨bf, 3, none⟩ (.slice gsa gsn gsc)) bf = some (.cells #[(.int .i64 gp), (.slice goa gon goc), (.slice gta gtn gtc), (.slice gsa gsn gsc)] 29 (0, 0))) := Lib.hid (obj_setCell_at (.slice gsa gsn gsc) (i := 3) (obj_setCell_at (.slice gta gtn gtc) (i := 2) (obj_setCell_at (.slice goa gon goc) (i := 1) (obj_setCell_at (.int .i64 gp) (i := 0) OF7.out))))
      have OG8 : Hid (obj ((((w7.setCell ⟨bf, 0, none⟩ (.int .i64 gp)).setCell ⟨bf, 1, none⟩ (.slice goa gon goc)).setCell ⟨bf, 2, none⟩ (.slice gta gtn gtc)).setCell ⟨bf, 3, none⟩ (.slice gsa gsn gsc)) bg = _) := Lib.hid ((obj_setCell_ne _ ⟨bf, 3, none⟩ _ _ (Ne.symm hbg)).trans ((obj_setCell_ne _ ⟨bf, 2, none⟩ _ _ (Ne.symm hbg)).trans ((obj_setCell_ne _ ⟨bf, 1, none⟩ _ _ (Ne.symm hbg)).trans ((obj_setCell_ne _ ⟨bf, 0, none⟩ _ _ (Ne.symm hbg)).trans OG7.out))))
      have BF8 : Hid (Below w.heap.size w ((((w7.setCell ⟨bf, 0, none⟩ (.int .i64 gp)).setCell ⟨bf, 1, none⟩ (.slice goa gon goc)).setCell ⟨bf, 2, none⟩ (.slice gta gtn gtc)).setCell ⟨bf, 3, none⟩ (.slice gsa gsn gsc))) := Lib.hid ((((B7.out.setCell hz1 _).setCell hz1 _).setCell hz1 _).setCell hz1 _)
      have KZF8 : Hid (((((w7.setCell ⟨bf, 0, none⟩ (.int .i64 gp)).setCell ⟨bf, 1, none⟩ (.slice goa gon goc)).setCell ⟨bf, 2, none⟩ (.slice gta gtn gtc)).setCell ⟨bf, 3, none⟩ (.slice gsa gsn gsc)).heap.size = w7.heap.size) := Lib.hid (by simp)
      have AF8 := Lib.hid ((((AF7.out.setBox OF7.out 0 (.int .i64 gp)).setBox (obj_setCell_at (.int .i64 gp) (i := 0) OF7.out) 1 (.slice goa gon goc)).setBox (obj_setCell_at (.slice goa gon goc) (i := 1) (obj_setCell_at (.int .i64 gp) (i := 0) OF7.out)) 2 (.slice gta gtn gtc)).setBox (obj_setCell_at (.slice gta gtn gtc) (i := 2) (obj_setCell_at (.slice goa gon goc) (i := 1) (obj_setCell_at (.int .i64 gp) (i := 0) OF7.out))) 3 (.slice gsa gsn gsc))
      have AG8 := Lib.hid ((((AG7.out.setBox OF7.out 0 (.int .i64 gp)).setBox (obj_setCell_at (.int .i64 gp) (i := 0) OF7.out) 1 (.slice goa gon goc)).setBox (obj_setCell_at (.slice goa gon goc) (i := 1) (obj_setCell_at (.int .i64 gp) (i := 0) OF7.out)) 2 (.slice gta gtn gtc)).setBox (obj_setCell_at (.slice gta gtn gtc) (i := 2) (obj_setCell_at (.slice goa gon goc) (i := 1) (obj_setCell_at (.int .i64 gp) (i := 0) OF7.out))) 3 (.slice gsa gsn gsc))
      have y0 := cell_at OF7.out 0
      have y1 := cell_at OF7.out 1
      have y2 := cell_at OF7.out 2
      have y3 := cell_at OF7.out 3
      simp at y0 y1 y2 y3
      have yf := frozen_at OF7.out
      have hbfl7 := lt_of_obj OF7.out
      have hop7 := hop
      clear AF AG OF OG
      obtain ⟨hmg, hph⟩ := JF.out.shut HBN.out JG.out hop
      obtain rfl : gp = 3 := AF8.out.phase.trans hph
      obtain rfl : gon = 0 := (show gon = List.length _ from AF8.out.at_.op.n).trans (by rw [hop]; rfl)
      have HSM := Lib.hid (same_any ((((w7.setCell ⟨bf, 0, none⟩ (.int .i64 3)).setCell ⟨bf, 1, none⟩ (.slice goa 0 goc)).setCell ⟨bf, 2, none⟩ (.slice gta gtn gtc)).setCell ⟨bf, 3, none⟩ (.slice gsa gsn gsc)) ⟨3, goa, 0, goc, gta, gtn, gtc, gsa, gsn, gsc⟩ ⟨qp, qoa, qon, qoc, qta, qtn, qtc, qsa, qsn, qsc⟩ mf mg AF8.out.at_ AG8.out.at_)
      rw [hmg, sameB_refl] at HSM
      clear hmg hph hop
      have x0 := cell_at OF8.out 0
      have x1 := cell_at OF8.out 1
      have x2 := cell_at OF8.out 2
      have x3 := cell_at OF8.out 3
      simp at x0 x1 x2 x3
      have y0 := cell_at OG8.out 0
      have y1 := cell_at OG8.out 1
      have y2 := cell_at OG8.out 2
      have y3 := cell_at OG8.out 3
      simp at y0 y1 y2 y3
      go_wp2_with fail
      refine HSM.out.mono ?_
      rintro e wz ⟨rfl, bz⟩
      go_wp2_with fail
      go_ret
      exact ⟨rfl, BF8.out.trans (bz.mono BF8.out.size)⟩
    obtain ⟨m1, hr1, hj1⟩ := ans_step HCH.out HPL.out JF.out 0 hop
    have hopg : mg.op ≠ [] := fun e => hop (by obtain ⟨e1, -⟩ := JG.out.shut HBN.out JF.out e; rw [e1]; exact e)
    rw [hr1] at HA1
    have HJ1 := Lib.hid hj1
    have HOPG := Lib.hid hopg
    clear hj1 hopg hop hr1
    go_wp2_with fail
    refine HA1.out.mono ?_
    rintro e w7 ⟨⟨gp, goa, gon, goc, gta, gtn, gtc, gsa, gsn, gsc⟩, rfl, f7, b7⟩
    have OF7 := Lib.hid ((obj_below b7 hbfl).trans OF.out)
    have OG7 := Lib.hid ((obj_below b7 hbgl).trans OG.out)
    have AG7 := Lib.hid (AG.out.below b7)
    have B7 : Hid (Below w.heap.size w w7) := Lib.hid (HB.out.trans (b7.mono HB.out.size))
    have AF7 := Lib.hid f7
    clear b7 f7 HA1 x0 x1 x2 x3
    have OF8 : Hid (obj ((((w7.setCell ⟨bf, 0, none⟩ (.int .i64 gp)).setCell ⟨bf, 1, none⟩ (.slice goa gon goc)).setCell ⟨bf, 2, none⟩ (.slice gta gtn gtc)).setCell ⟨bf, 3, none⟩ (.slice gsa gsn gsc)) bf = some (.cells #[(.int .i64 gp), (.slice goa gon goc), (.slice gta gtn gtc), (.slice gsa gsn gsc)] 29 (0, 0))) := Lib.hid (obj_setCell_at (.slice gsa gsn gsc) (i := 3) (obj_setCell_at (.slice gta gtn gtc) (i := 2) (obj_setCell_at (.slice goa gon goc) (i := 1) (obj_setCell_at (.int .i64 gp) (i := 0) OF7.out))))
    have OG8 : Hid (obj ((((w7.setCell ⟨bf, 0, none⟩ (.int .i64 gp)).setCell ⟨bf, 1, none⟩ (.slice goa gon goc)).setCell ⟨bf, 2, none⟩ (.slice gta gtn gtc)).setCell ⟨bf, 3, none⟩ (.slice gsa gsn gsc)) bg = _) := Lib.hid ((obj_setCell_ne _ ⟨bf, 3, none⟩ _ _ (Ne.symm hbg)).trans ((obj_setCell_ne _ ⟨bf, 2, none⟩ _ _ (Ne.symm hbg)).trans ((obj_setCell_ne _ ⟨bf, 1, none⟩ _ _ (Ne.symm hbg)).trans ((obj_setCell_ne _ ⟨bf, 0, none⟩ _ _ (Ne.symm hbg)).trans OG7.out))))
    have BF8 : Hid (Below w.heap.size w ((((w7.setCell ⟨bf, 0, none⟩ (.int .i64 gp)).setCell ⟨bf, 1, none⟩ (.slice goa gon goc)).setCell ⟨bf, 2, none⟩ (.slice gta gtn gtc)).setCell ⟨bf, 3, none⟩ (.slice gsa gsn gsc))) := Lib.hid ((((B7.out.setCell hz1 _).setCell hz1 _).setCell hz1 _).setCell hz1 _)
    have KZF8 : Hid (((((w7.setCell ⟨bf, 0, none⟩ (.int .i64 gp)).setCell ⟨bf, 1, none⟩ (.slice goa gon goc)).setCell ⟨bf, 2, none⟩ (.slice gta gtn gtc)).setCell ⟨bf, 3, none⟩ (.slice gsa gsn gsc)).heap.size = w7.heap.size) := Lib.hid (by simp)
    have AF8 := Lib.hid ((((AF7.out.setBox OF7.out 0 (.int .i64 gp)).setBox (obj_setCell_at (.int .i64 gp) (i := 0) OF7.out) 1 (.slice goa gon goc)).setBox (obj_setCell_at (.slice goa gon goc) (i := 1) (obj_setCell_at (.int .i64 gp) (i := 0) OF7.out)) 2 (.slice gta gtn gtc)).setBox (obj_setCell_at (.slice gta gtn gtc) (i := 2) (obj_setCell_at (.slice goa gon goc) (i := 1) (obj_setCell_at (.int .i64 gp) (i := 0) OF7.out))) 3 (.slice gsa gsn gsc))
    have AG8 := Lib.hid ((((AG7.out.setBox OF7.out 0 (.int .i64 gp)).setBox (obj_setCell_at (.int .i64 gp) (i := 0) OF7.out) 1 (.slice goa gon goc)).setBox (obj_setCell_at (.slice goa gon goc) (i := 1) (obj_setCell_at (.int .i64 gp) (i := 0) OF7.out)) 2 (.slice gta gtn gtc)).setBox (obj_setCell_at (.slice gta gtn gtc) (i := 2) (obj_setCell_at (.slice goa gon goc) (i := 1) (obj_setCell_at (.int .i64 gp) (i := 0) OF7.out))) 3 (.slice gsa gsn gsc))
    have y0 := cell_at OF7.out 0
    have y1 := cell_at OF7.out 1
    have y2 := cell_at OF7.out 2
    have y3 := cell_at OF7.out 3
    simp at y0 y1 y2 y3
    have yf := frozen_at OF7.out
    have hbfl7 := lt_of_obj OF7.out
    clear AF AG OF OG
    have u0 := cell_at OG8.out 0
    have u1 := cell_at OG8.out 1
    have u2 := cell_at OG8.out 2
    have u3 := cell_at OG8.out 3
    simp at u0 u1 u2 u3
    by_cases hko : k < os.length
    case pos =>
      obtain ⟨bo, oo, rfl, hbo, hro⟩ := HO3.out (by omega)
      have hs9 := hro k hko
      have cx : w.cell? ⟨bo, oo + k * 1, none⟩ = some (.int .u8 os[k]) := by
        have := subOf_cell hs9 (j := 0) (by decide)
        simpa [byteL] using this
      rw [Nat.mul_one] at cx
      have hr := HOB.out os[k] (List.getElem_mem hko)
      generalize os[k] = ov at *
      obtain ⟨kk, rfl⟩ : ∃ kk : Nat, ov = kk := ⟨ov.toNat, by omega⟩
      have cy : w7.cell? ⟨bo, oo + k, none⟩ = some (.int .u8 kk) := (B7.out.cell (p := ⟨bo, oo + k, none⟩) hbo).trans cx
      have hnb : bo ≠ bf := by omega
      have hkoi : (k : Int) < os.length := by omega
      have hwk := wrapN kk (by omega)
      clear hro hs9 cx
      go_wp2_with fail
      generalize (((w7.setCell ⟨bf, 0, none⟩ (.int .i64 gp)).setCell ⟨bf, 1, none⟩ (.slice goa gon goc)).setCell ⟨bf, 2, none⟩ (.slice gta gtn gtc)).setCell ⟨bf, 3, none⟩ (.slice gsa gsn gsc) = w8 at *
      have HA2 := Lib.hid (answered_any w8 _ _ l ⟨qp, qoa, qon, qoc, qta, qtn, qtc, qsa, qsn, qsc⟩ mg kk xs av (HL.out.below BF8.out) AG8.out HMG.out (HX.out.below BF8.out) (HA.out.below BF8.out) (by omega))
      obtain ⟨m2, hr2, hj2⟩ := ans_step HCH.out HPL.out JG.out kk HOPG.out
      rw [hr2] at HA2
      have HPE := Lib.hid (HJ1.out.phase_eq (by omega) hj2)
      have HJ2 := Lib.hid hj2
      clear hj2 hr2
      refine HA2.out.mono ?_
      rintro e w9 ⟨⟨hp, hoa, hon, hoc, hta, htn, htc, hsa, hsn, hsc⟩, rfl, f9, b9⟩
      have OF9 := Lib.hid ((obj_below b9 (lt_of_obj OF8.out)).trans OF8.out)
      have OG9 := Lib.hid ((obj_below b9 (lt_of_obj OG8.out)).trans OG8.out)
      have AF9 := Lib.hid (AF8.out.below b9)
      have B9 : Hid (Below w.heap.size w w9) := Lib.hid (BF8.out.trans (b9.mono BF8.out.size))
      obtain rfl : gp = hp := AF9.out.phase.trans (HPE.out.trans f9.phase.symm)
      have AG9 := Lib.hid f9
      clear b9 f9 HA2 OF8 OG8 AF8 AG8 BF8
      have OG10 : Hid (obj ((((w9.setCell ⟨bg, 0, none⟩ (.int .i64 gp)).setCell ⟨bg, 1, none⟩ (.slice hoa hon hoc)).setCell ⟨bg, 2, none⟩ (.slice hta htn htc)).setCell ⟨bg, 3, none⟩ (.slice hsa hsn hsc)) bg = some (.cells #[(.int .i64 gp), (.slice hoa hon hoc), (.slice hta htn htc), (.slice hsa hsn hsc)] 29 (0, 0))) := Lib.hid (obj_setCell_at (.slice hsa hsn hsc) (i := 3) (obj_setCell_at (.slice hta htn htc) (i := 2) (obj_setCell_at (.slice hoa hon hoc) (i := 1) (obj_setCell_at (.int .i64 gp) (i := 0) OG9.out))))
      have OF10 : Hid (obj ((((w9.setCell ⟨bg, 0, none⟩ (.int .i64 gp)).setCell ⟨bg, 1, none⟩ (.slice hoa hon hoc)).setCell ⟨bg, 2, none⟩ (.slice hta htn htc)).setCell ⟨bg, 3, none⟩ (.slice hsa hsn hsc)) bf = _) := Lib.hid ((obj_setCell_ne _ ⟨bg, 3, none⟩ _ _ hbg).trans ((obj_setCell_ne _ ⟨bg, 2, none⟩ _ _ hbg).trans ((obj_setCell_ne _ ⟨bg, 1, none⟩ _ _ hbg).trans ((obj_setCell_ne _ ⟨bg, 0, none⟩ _ _ hbg).trans OF9.out))))
      have BG10 : Hid (Below w.heap.size w ((((w9.setCell ⟨bg, 0, none⟩ (.int .i64 gp)).setCell ⟨bg, 1, none⟩ (.slice hoa hon hoc)).setCell ⟨bg, 2, none⟩ (.slice hta htn htc)).setCell ⟨bg, 3, none⟩ (.slice hsa hsn hsc))) := Lib.hid ((((B9.out.setCell hwb _).setCell hwb _).setCell hwb _).setCell hwb _)
      have KZG10 : Hid (((((w9.setCell ⟨bg, 0, none⟩ (.int .i64 gp)).setCell ⟨bg, 1, none⟩ (.slice hoa hon hoc)).setCell ⟨bg, 2, none⟩ (.slice hta htn htc)).setCell ⟨bg, 3, none⟩ (.slice hsa hsn hsc)).heap.size = w9.heap.size) := Lib.hid (by simp)
      have AF10 := Lib.hid ((((AF9.out.setBox OG9.out 0 (.int .i64 gp)).setBox (obj_setCell_at (.int .i64 gp) (i := 0) OG9.out) 1 (.slice hoa hon hoc)).setBox (obj_setCell_at (.slice hoa hon hoc) (i := 1) (obj_setCell_at (.int .i64 gp) (i := 0) OG9.out)) 2 (.slice hta htn htc)).setBox (obj_setCell_at (.slice hta htn htc) (i := 2) (obj_setCell_at (.slice hoa hon hoc) (i := 1) (obj_setCell_at (.int .i64 gp) (i := 0) OG9.out))) 3 (.slice hsa hsn hsc))
      have AG10 := Lib.hid ((((AG9.out.setBox OG9.out 0 (.int .i64 gp)).setBox (obj_setCell_at (.int .i64 gp) (i := 0) OG9.out) 1 (.slice hoa hon hoc)).setBox (obj_setCell_at (.slice hoa hon hoc) (i := 1) (obj_setCell_at (.int .i64 gp) (i := 0) OG9.out)) 2 (.slice hta htn htc)).setBox (obj_setCell_at (.slice hta htn htc) (i := 2) (obj_setCell_at (.slice hoa hon hoc) (i := 1) (obj_setCell_at (.int .i64 gp) (i := 0) OG9.out))) 3 (.slice hsa hsn hsc))
      have hbgl9 := lt_of_obj OG9.out
      have hbfl9 := lt_of_obj OF9.out
      have y0 := cell_at OG9.out 0
      have y1 := cell_at OG9.out 1
      have y2 := cell_at OG9.out 2
      have y3 := cell_at OG9.out 3
      simp at y0 y1 y2 y3
      have yf := frozen_at OG9.out
      have e0 := cell_at OF10.out 0
      have e1 := cell_at OG10.out 0
      simp at e0 e1
      go_wp2_with fail
      go_roundw
      case rel => exact ⟨k + 1, m1, m2, ⟨gp, goa, gon, goc, gta, gtn, gtc, gsa, gsn, gsc⟩, ⟨gp, hoa, hon, hoc, hta, htn, htc, hsa, hsn, hsc⟩, by omega, by go_num, HJ1, HJ2, OF10, OG10, AF10, AG10, BG10⟩
      case measure => first | exact meas_step' hlt | exact meas_step hlt (wrapS64 k (by omega))
    have hko1 : ¬ (k : Int) < os.length := by omega
    go_wp2_with fail
    generalize (((w7.setCell ⟨bf, 0, none⟩ (.int .i64 gp)).setCell ⟨bf, 1, none⟩ (.slice goa gon goc)).setCell ⟨bf, 2, none⟩ (.slice gta gtn gtc)).setCell ⟨bf, 3, none⟩ (.slice gsa gsn gsc) = w8 at *
    have HA2 := Lib.hid (answered_any w8 _ _ l ⟨qp, qoa, qon, qoc, qta, qtn, qtc, qsa, qsn, qsc⟩ mg 0 xs av (HL.out.below BF8.out) AG8.out HMG.out (HX.out.below BF8.out) (HA.out.below BF8.out) (by omega))
    obtain ⟨m2, hr2, hj2⟩ := ans_step HCH.out HPL.out JG.out 0 HOPG.out
    rw [hr2] at HA2
    have HPE := Lib.hid (HJ1.out.phase_eq (by omega) hj2)
    have HJ2 := Lib.hid hj2
    clear hj2 hr2
    refine HA2.out.mono ?_
    rintro e w9 ⟨⟨hp, hoa, hon, hoc, hta, htn, htc, hsa, hsn, hsc⟩, rfl, f9, b9⟩
    have OF9 := Lib.hid ((obj_below b9 (lt_of_obj OF8.out)).trans OF8.out)
    have OG9 := Lib.hid ((obj_below b9 (lt_of_obj OG8.out)).trans OG8.out)
    have AF9 := Lib.hid (AF8.out.below b9)
    have B9 : Hid (Below w.heap.size w w9) := Lib.hid (BF8.out.trans (b9.mono BF8.out.size))
    obtain rfl : gp = hp := AF9.out.phase.trans (HPE.out.trans f9.phase.symm)
    have AG9 := Lib.hid f9
    clear b9 f9 HA2 OF8 OG8 AF8 AG8 BF8
    have OG10 : Hid (obj ((((w9.setCell ⟨bg, 0, none⟩ (.int .i64 gp)).setCell ⟨bg, 1, none⟩ (.slice hoa hon hoc)).setCell ⟨bg, 2, none⟩ (.slice hta htn htc)).setCell ⟨bg, 3, none⟩ (.slice hsa hsn hsc)) bg = some (.cells #[(.int .i64 gp), (.slice hoa hon hoc), (.slice hta htn htc), (.slice hsa hsn hsc)] 29 (0, 0))) := Lib.hid (obj_setCell_at (.slice hsa hsn hsc) (i := 3) (obj_setCell_at (.slice hta htn htc) (i := 2) (obj_setCell_at (.slice hoa hon hoc) (i := 1) (obj_setCell_at (.int .i64 gp) (i := 0) OG9.out))))
    have OF10 : Hid (obj ((((w9.setCell ⟨bg, 0, none⟩ (.int .i64 gp)).setCell ⟨bg, 1, none⟩ (.slice hoa hon hoc)).setCell ⟨bg, 2, none⟩ (.slice hta htn htc)).setCell ⟨bg, 3, none⟩ (.slice hsa hsn hsc)) bf = _) := Lib.hid ((obj_setCell_ne _ ⟨bg, 3, none⟩ _ _ hbg).trans ((obj_setCell_ne _ ⟨bg, 2, none⟩ _ _ hbg).trans ((obj_setCell_ne _ ⟨bg, 1, none⟩ _ _ hbg).trans ((obj_setCell_ne _ ⟨bg, 0, none⟩ _ _ hbg).trans OF9.out))))
    have BG10 : Hid (Below w.heap.size w ((((w9.setCell ⟨bg, 0, none⟩ (.int .i64 gp)).setCell ⟨bg, 1, none⟩ (.slice hoa hon hoc)).setCell ⟨bg, 2, none⟩ (.slice hta htn htc)).setCell ⟨bg, 3, none⟩ (.slice hsa hsn hsc))) := Lib.hid ((((B9.out.setCell hwb _).setCell hwb _).setCell hwb _).setCell hwb _)
    have KZG10 : Hid (((((w9.setCell ⟨bg, 0, none⟩ (.int .i64 gp)).setCell ⟨bg, 1, none⟩ (.slice hoa hon hoc)).setCell ⟨bg, 2, none⟩ (.slice hta htn htc)).setCell ⟨bg, 3, none⟩ (.slice hsa hsn hsc)).heap.size = w9.heap.size) := Lib.hid (by simp)
    have AF10 := Lib.hid ((((AF9.out.setBox OG9.out 0 (.int .i64 gp)).setBox (obj_setCell_at (.int .i64 gp) (i := 0) OG9.out) 1 (.slice hoa hon hoc)).setBox (obj_setCell_at (.slice hoa hon hoc) (i := 1) (obj_setCell_at (.int .i64 gp) (i := 0) OG9.out)) 2 (.slice hta htn htc)).setBox (obj_setCell_at (.slice hta htn htc) (i := 2) (obj_setCell_at (.slice hoa hon hoc) (i := 1) (obj_setCell_at (.int .i64 gp) (i := 0) OG9.out))) 3 (.slice hsa hsn hsc))
    have AG10 := Lib.hid ((((AG9.out.setBox OG9.out 0 (.int .i64 gp)).setBox (obj_setCell_at (.int .i64 gp) (i := 0) OG9.out) 1 (.slice hoa hon hoc)).setBox (obj_setCell_at (.slice hoa hon hoc) (i := 1) (obj_setCell_at (.int .i64 gp) (i := 0) OG9.out)) 2 (.slice hta htn htc)).setBox (obj_setCell_at (.slice hta htn htc) (i := 2) (obj_setCell_at (.slice hoa hon hoc) (i := 1) (obj_setCell_at (.int .i64 gp) (i := 0) OG9.out))) 3 (.slice hsa hsn hsc))
    have hbgl9 := lt_of_obj OG9.out
    have hbfl9 := lt_of_obj OF9.out
    have y0 := cell_at OG9.out 0
    have y1 := cell_at OG9.out 1
    have y2 := cell_at OG9.out 2
    have y3 := cell_at OG9.out 3
    simp at y0 y1 y2 y3
    have yf := frozen_at OG9.out
    have e0 := cell_at OF10.out 0
    have e1 := cell_at OG10.out 0
    simp at e0 e1
    go_wp2_with fail
    go_roundw
    case rel => exact ⟨k + 1, m1, m2, ⟨gp, goa, gon, goc, gta, gtn, gtc, gsa, gsn, gsc⟩, ⟨gp, hoa, hon, hoc, hta, htn, htc, hsa, hsn, hsc⟩, by omega, by go_num, HJ1, HJ2, OF10, OG10, AF10, AG10, BG10⟩
    case measure => first | exact meas_step' hlt | exact meas_step hlt (wrapS64 k (by omega))
end Go.Proofs.Ytmgpfmgmpmkkaaa
