import Derived.Test.YtmgpfmgmpmkkaaaGreatFewF
import Derived.Test.YtmgpfmgmpmkkaaaGreatEndP
import Derived.Test.YtmgpfmgmpmkkaaaGreatLiv
import Derived.Test.YtmgpfmgmpmkkaaaGreatWhoT
import Derived.Test.YtmgpfmgmpmkkaaaGreatEnTo
namespace Go.Proofs.YtmgpfmgmpmkkaaaGreat
open Go.RowKit Go.Shelf Go.Sort

theorem ansW_fail {l : List Vd} {av : List AnsM} {id : ID} {i : Nat} {a : AnsM} (h : ansAt av (i : Int) = a) (hf : a.fails = true) : ansW l av id (i + 1) = ansW l av id i := by
  have : ansW l av id (i + 1) = ansW l av id i + if (ansAt av i).fails = false ∧ id ∈ (ansAt av i).ids then wtAt l i else 0 := rfl
  rw [this, h, if_neg (by rw [hf]; simp)]; omega
theorem ansW_yes {l : List Vd} {av : List AnsM} {id : ID} {i : Nat} {a : AnsM} (h : ansAt av (i : Int) = a) (hf : a.fails = false) (hi : id ∈ a.ids) : ansW l av id (i + 1) = ansW l av id i + wtAt l i := by
  have : ansW l av id (i + 1) = ansW l av id i + if (ansAt av i).fails = false ∧ id ∈ (ansAt av i).ids then wtAt l i else 0 := rfl
  rw [this, h, if_pos ⟨hf, hi⟩]
theorem ansW_no {l : List Vd} {av : List AnsM} {id : ID} {i : Nat} {a : AnsM} (h : ansAt av (i : Int) = a) (hi : id ∉ a.ids) : ansW l av id (i + 1) = ansW l av id i := by
  have : ansW l av id (i + 1) = ansW l av id i + if (ansAt av i).fails = false ∧ id ∈ (ansAt av i).ids then wtAt l i else 0 := rfl
  rw [this, h, if_neg (fun hh => hi hh.2)]; omega
theorem ansTip_fail {zs : List Int} {av : List AnsM} {id : ID} {i : Nat} {a : AnsM} (h : ansAt av (i : Int) = a) (hf : a.fails = true) : ansTip zs av id (i + 1) = ansTip zs av id i := by
  have : ansTip zs av id (i + 1) = (ansTip zs av id i || decide ((ansAt av i).fails = false ∧ (ansAt av i).tip = id ∧ (i : Int) ∈ zs)) := rfl
  rw [this, h]; simp [hf]
theorem ansTip_ok {zs : List Int} {av : List AnsM} {id : ID} {i : Nat} {a : AnsM} (h : ansAt av (i : Int) = a) (hf : a.fails = false) : ansTip zs av id (i + 1) = (ansTip zs av id i || (decide (a.tip = id) && decide ((i : Int) ∈ zs))) := by
  have : ansTip zs av id (i + 1) = (ansTip zs av id i || decide ((ansAt av i).fails = false ∧ (ansAt av i).tip = id ∧ (i : Int) ∈ zs)) := rfl
  rw [this, h]; simp [hf]
theorem eg60 : ∀ args w, (callFunc 60 args).run Tryz.prog w = .ok (.enter 60 args) w := enters_of Tryz.func60 (by kernel_rfl) rfl
/-- told of what Who hands back -/
theorem told_who {w w0 : World} {lb : Nat} {v : Value} {xs : List Int} (h1 : obj w lb = some (.cells #[v] 23 (0, 0))) (h2 : OwnC w w0.heap.size 3 1 intL v xs) (hlen : xs.length ≤ 100) :
    Calls Tryz.prog 28 #[.func (.func 60) #[] #[.pointer (some ⟨lb, 0, none⟩)], .int .i64 100] w (RetOwn w 3 1 intL xs) := by
  have hD : ∀ k, (k = lb ∨ v.ownBlock = some k) → k < w.heap.size := fun k hk => by
    rcases hk with rfl | hk
    · exact lt_of_obj h1
    · exact (h2.lt hk).2
  have hV : ValAt 23 1 intL (fun k => k = lb ∨ v.ownBlock = some k) w lb v xs := ⟨h1, h2.slIn intL_length, .inl rfl, fun a l c e => .inr (by rw [e]; rfl)⟩
  have := told_any w w 60 #[.pointer (some ⟨lb, 0, none⟩)] xs hD eg60 (who_seq 4 (by omega) hD hV) (Agree.refl _ _) (by omega) 100
  rwa [List.take_of_length_le (by simpa using hlen)] at this
theorem whoS_len {l : List Vd} {m : FrM} (h : mayB l m = true) (id : ID) : (whoS m id).length ≤ 100 := by
  have h1 := (may_small h).said
  have h2 := whoP_len id m.said
  have h3 : m.said.length ≤ 32 := by
    unfold mayB saidB at h
    simp only [Bool.and_eq_true, decide_eq_true_eq, List.all_eq_true] at h
    obtain ⟨⟨⟨⟨⟨hc, -⟩, -⟩, -⟩, hsd⟩, -⟩ := h
    have := places_len hsd.2
    have := (chk_32 hc).2.1
    rw [List.length_map] at *
    omega
  unfold whoS
  rw [List.length_mergeSort]
  omega
theorem mem_whoS {m : FrM} {id : ID} {n : Int} : n ∈ whoS m id ↔ n ∈ whoL m id := by unfold whoS whoP whoL; exact (List.mergeSort_perm _ _).mem_iff
theorem any_snoc {xs : List Int} {k : Nat} (p : Int → Bool) (h : k < xs.length) : (xs.take (k + 1)).any p = ((xs.take k).any p || p xs[k]) := by
  rw [List.take_succ_eq_append_getElem h, List.any_append]; simp
theorem OwnS.slIn' {w : World} {base : Nat} {v : Value} {xs : List Int} (h : OwnS w base 3 1 intL v xs) : SlIn w v 1 intL xs := h.slIn intL_length
set_option maxRecDepth 100000 in
set_option maxHeartbeats 16000000 in
theorem stakeLaw_any (w : World) (v vs va : Value) (l : List Vd) (zs : List Int) (xs : List AnsD) (av : List AnsM) (alpha : Int) (hl : SlIn w v 2 vdL l) (hs : SlIn w vs 1 intL zs) (hzl : zs.length ≤ 17592186043904) (ha : SlIn w va 34 ansL xs) (hA : AsAt w xs av) :
    Calls Tryz.prog 5 #[v, vs, va, .int .i64 alpha] w fun e w' => e = .returned (.bool true) ∧ Below w.heap.size w w' := by
  have HL := Lib.hid hl
  have HX := Lib.hid ha
  have HA := Lib.hid hA
  have HSL := Lib.hid hs
  have HN := Lib.hid (new_act w v vs l zs hl hs hzl)
  have HOK : Hid ((newR l zs).2 = 0 → chk l = 0 ∧ placesB l.length (openOf zs) = true ∧ openOf zs ≠ [] ∧ (newR l zs).1 = ⟨1, openOf zs, [], []⟩) := Lib.hid new_ok
  have HOZ : Hid (∀ x ∈ openOf zs, x ∈ zs) := Lib.hid (fun x hx => ((openOf_spec zs).2 x).1 hx)
  obtain ⟨la, lc, rfl, -, hlm, -⟩ := hl
  obtain ⟨sa, sc, rfl, -, hsm, -⟩ := hs
  obtain ⟨xa, xc, rfl, -, hxm, -⟩ := ha
  unfold maxLen at hlm hsm hxm
  generalize newR l zs = RN at *
  obtain ⟨M, E⟩ := RN
  simp only at HN HOK
  clear hA hzl
  go_enter Tryz.func5, Tryz.ntmps5
  go_wp2_with fail
  refine HN.out.mono ?_
  rintro e w1 ⟨d1, rfl, hf1, b1⟩
  have b2 : Below w1.heap.size w1 (w1.alloc (.cells (frC d1) 27)) := (Below.refl _ _).alloc (Nat.le_refl _) _
  have OF := Lib.hid (fr_box w1 d1)
  have AF := Lib.hid ((hf1.mono (base := 0) (Nat.zero_le _)).below b2)
  have B2 : Hid (Below w.heap.size w (w1.alloc (.cells (frC d1) 27))) := Lib.hid (b1.trans (b2.mono b1.size))
  have HBF : Hid (w.heap.size ≤ w1.heap.size) := Lib.hid b1.size
  clear HN hf1 b1 b2
  obtain ⟨ap, aoa, aon, aoc, ata, atn, atc, asa, asn, asc⟩ := d1
  go_wp2_with fail
  generalize w1.alloc (.cells (frC ⟨ap, aoa, aon, aoc, ata, atn, atc, asa, asn, asc⟩) 27) = w2 at *
  generalize w1.heap.size = bf at *
  refine (live_any _).mono ?_
  rintro e w3 ⟨rfl, b3⟩
  have OF3 := Lib.hid ((obj_below b3 (lt_of_obj OF.out)).trans OF.out)
  have AF3 := Lib.hid (AF.out.below b3)
  have B3 : Hid (Below w.heap.size w w3) := Lib.hid (B2.out.trans (b3.mono B2.out.size))
  clear b3 OF AF B2
  by_cases hE : E = 0
  case neg =>
    go_wp2_with fail
    refine (live_any _).mono ?_
    rintro e wz ⟨rfl, bz⟩
    go_wp2_with fail
    go_ret
    exact ⟨rfl, B3.out.trans (bz.mono B3.out.size)⟩
  subst hE
  obtain ⟨hchk, hpl, hne, rfl⟩ := HOK.out rfl
  generalize openOf zs = base at *
  have HCH := Lib.hid hchk
  have HPL := Lib.hid hpl
  have HNE := Lib.hid hne
  clear hchk hpl hne HOK
  have HFW := Lib.hid (few_any w3 (.slice la l.length lc) (.slice none 0 0) l [] [] (HL.out.below B3.out) ((show OwnC w3 0 27 4 frL (.slice none 0 0) [] from World.ownsRow_nil _ _ _ _).slIn frL_length) ⟨rfl, fun i d m h1 _ => by simp at h1⟩)
  go_wp2_with fail
  refine HFW.out.mono ?_
  rintro e w4 ⟨⟨b, rfl, hbb⟩, b4⟩
  have OF4 := Lib.hid ((obj_below b4 (lt_of_obj OF3.out)).trans OF3.out)
  have AF4 := Lib.hid (AF3.out.below b4)
  have B4 : Hid (Below w.heap.size w w4) := Lib.hid (B3.out.trans (b4.mono B3.out.size))
  clear b4 OF3 AF3 B3 HFW
  cases b with
  | false =>
    go_wp2_with fail
    refine (live_any _).mono ?_
    rintro e wz ⟨rfl, bz⟩
    go_wp2_with fail
    go_ret
    exact ⟨rfl, B4.out.trans (bz.mono B4.out.size)⟩
  | true =>
  have HNM : Hid (∀ x ∈ l, x.name.size ≤ 300) := Lib.hid (hbb rfl).2.1
  clear hbb
  go_wp2_with fail
  refine (short_any _ _ xs (HX.out.below B4.out)).mono ?_
  rintro e w5 ⟨⟨b, rfl, hbb⟩, b5⟩
  have OF5 := Lib.hid ((obj_below b5 (lt_of_obj OF4.out)).trans OF4.out)
  have AF5 := Lib.hid (AF4.out.below b5)
  have B5 : Hid (Below w.heap.size w w5) := Lib.hid (B4.out.trans (b5.mono B4.out.size))
  clear b5 OF4 AF4 B4
  cases b with
  | false =>
    clear hbb
    go_wp2_with fail
    refine (live_any _).mono ?_
    rintro e wz ⟨rfl, bz⟩
    go_wp2_with fail
    go_ret
    exact ⟨rfl, B5.out.trans (bz.mono B5.out.size)⟩
  | true =>
  have hx50 : xs.length ≤ 50 := (hbb rfl).1
  clear hbb
  by_cases hs2 : (200 : Int) < zs.length
  case pos =>
    go_wp2_with fail
    refine (live_any _).mono ?_
    rintro e wz ⟨rfl, bz⟩
    go_wp2_with fail
    go_ret
    exact ⟨rfl, B5.out.trans (bz.mono B5.out.size)⟩
  have HAN : Hid (base.length = aon) := Lib.hid AF5.out.at_.op.n.symm
  have h32 := (chk_32 HCH.out).2.1
  have h321 := (chk_32 HCH.out).1
  have hpl := places_len HPL.out
  obtain ⟨nn, hnn⟩ : ∃ n : Nat, n = aon + l.length := ⟨_, rfl⟩
  have hwn : IntKind.i64.wrap ((aon : Int) + (l.length : Int)) = (nn : Int) := by have := HAN.out; simp [IntKind.wrap, IntKind.signed, IntKind.bits]; omega
  have HKN : Hid (base.length + l.length = nn) := Lib.hid (by rw [HAN.out, hnn])
  have hnn64 : nn ≤ 64 := by have := HAN.out; omega
  clear hnn
  have HJ0 : Hid (J l.length base av 0 ⟨1, base, [], []⟩) := Lib.hid (J.start HNE.out)
  have hbf := lt_of_obj OF5.out
  obtain ⟨x0, x1, x2, x3⟩ := fr_cells OF5.out
  simp only at x0 x1 x2 x3
  go_wp2_with fail
  clear x0 x1 x2 x3 hbf
  clear hwn
  go_loopw [11, 12, 61] (fun _ _ v61 wr => ∃ (k : Nat) (mf : FrM) (df : FrD), k ≤ nn ∧ v61 = .int .i64 k ∧ Hid (J l.length base av k mf) ∧ Hid (obj wr bf = some (.cells (frC df) 27 (0, 0))) ∧ Hid (FrOwn wr 0 df mf) ∧ Hid (Below w.heap.size w wr)) (fun _ _ i _ => nn - (intOf i).toNat)
  case atStart => exact ⟨0, _, ⟨ap, aoa, aon, aoc, ata, atn, atc, asa, asn, asc⟩, Nat.zero_le _, rfl, HJ0, OF5, AF5, B5⟩
  case round =>
    clear HJ0 OF5 AF5 B5
    obtain ⟨k, mf, df, hk, rfl, JF, OF, AF, HB⟩ := hrel
    obtain ⟨pp, poa, pon, poc, pta, ptn, ptc, psa, psn, psc⟩ := df
    have HBN := Lib.hid (places_nodup HPL.out)
    have hbfl := lt_of_obj OF.out
    have HMB := Lib.hid (JF.out.may HPL.out l HCH.out rfl)
    have HSM := Lib.hid (may_small HMB.out)
    have HA1 := Lib.hid (answered_any wr (.slice la l.length lc) (.slice xa xs.length xc) l ⟨pp, poa, pon, poc, pta, ptn, ptc, psa, psn, psc⟩ mf 0 xs av (HL.out.below HB.out) AF.out HSM.out (HX.out.below HB.out) (HA.out.below HB.out) (by decide))
    by_cases hex : k < nn ∧ mf.op ≠ []
    case pos =>
      obtain ⟨hlt, hop⟩ := hex
      have hki : (k : Int) < nn := by omega
      obtain ⟨m', e9, j9⟩ := ans_step HCH.out HPL.out JF.out 0 hop
      have HJN := Lib.hid j9
      rw [e9] at HA1
      simp only at HA1
      obtain ⟨x0, x1, x2, x3⟩ := fr_cells OF.out
      simp only at x0 x1 x2 x3
      clear e9 j9 hop
      go_wp2_with fail
      refine HA1.out.mono ?_
      rintro e w7 ⟨⟨gp, goa, gon, goc, gta, gtn, gtc, gsa, gsn, gsc⟩, rfl, f7, b7⟩
      have OF7 := Lib.hid ((obj_below b7 hbfl).trans OF.out)
      have B7 : Hid (Below w.heap.size w w7) := Lib.hid (HB.out.trans (b7.mono HB.out.size))
      have AF7 := Lib.hid f7
      clear b7 f7 HA1 x0 x1 x2 x3
      have OF9 : Hid (obj (((((w7.setCell ⟨bf, 0, none⟩ (.int .i64 gp)).setCell ⟨bf, 1, none⟩ (.slice goa gon goc)).setCell ⟨bf, 2, none⟩ (.slice gta gtn gtc)).setCell ⟨bf, 3, none⟩ (.slice gsa gsn gsc))) bf = some (.cells #[(.int .i64 gp), (.slice goa gon goc), (.slice gta gtn gtc), (.slice gsa gsn gsc)] 27 (0, 0))) := Lib.hid (obj_setCell_at (.slice gsa gsn gsc) (i := 3) (obj_setCell_at (.slice gta gtn gtc) (i := 2) (obj_setCell_at (.slice goa gon goc) (i := 1) (obj_setCell_at (.int .i64 gp) (i := 0) OF7.out))))
      have AF9 := Lib.hid ((((AF7.out.setBox OF7.out 0 (.int .i64 gp)).setBox (obj_setCell_at (.int .i64 gp) (i := 0) OF7.out) 1 (.slice goa gon goc)).setBox (obj_setCell_at (.slice goa gon goc) (i := 1) (obj_setCell_at (.int .i64 gp) (i := 0) OF7.out)) 2 (.slice gta gtn gtc)).setBox (obj_setCell_at (.slice gta gtn gtc) (i := 2) (obj_setCell_at (.slice goa gon goc) (i := 1) (obj_setCell_at (.int .i64 gp) (i := 0) OF7.out))) 3 (.slice gsa gsn gsc))
      have B9 : Hid (Below w.heap.size w (((((w7.setCell ⟨bf, 0, none⟩ (.int .i64 gp)).setCell ⟨bf, 1, none⟩ (.slice goa gon goc)).setCell ⟨bf, 2, none⟩ (.slice gta gtn gtc)).setCell ⟨bf, 3, none⟩ (.slice gsa gsn gsc)))) := Lib.hid ((((B7.out.setCell HBF.out _).setCell HBF.out _).setCell HBF.out _).setCell HBF.out _)
      have l7 := lt_of_obj OF7.out
      have yf := frozen_at OF7.out
      obtain ⟨x0, x1, x2, x3⟩ := fr_cells OF7.out
      simp only at x0 x1 x2 x3
      go_wp2_with fail
      clear x0 x1 x2 x3 yf l7 OF7 AF7 B7
      generalize ((((w7.setCell ⟨bf, 0, none⟩ (.int .i64 gp)).setCell ⟨bf, 1, none⟩ (.slice goa gon goc)).setCell ⟨bf, 2, none⟩ (.slice gta gtn gtc)).setCell ⟨bf, 3, none⟩ (.slice gsa gsn gsc)) = w8 at *
      have BX : Hid (Below w8.heap.size w8 (w8.alloc (.cells (frC ⟨gp, goa, gon, goc, gta, gtn, gtc, gsa, gsn, gsc⟩) 27))) := Lib.hid ((Below.refl _ _).alloc (Nat.le_refl _) _)
      have OFX := Lib.hid ((obj_below BX.out (lt_of_obj OF9.out)).trans OF9.out)
      have AFX := Lib.hid (AF9.out.below BX.out)
      have HBX : Hid (Below w.heap.size w (w8.alloc (.cells (frC ⟨gp, goa, gon, goc, gta, gtn, gtc, gsa, gsn, gsc⟩) 27))) := Lib.hid (B9.out.trans (BX.out.mono B9.out.size))
      go_roundw
      case rel => exact ⟨k + 1, m', ⟨gp, goa, gon, goc, gta, gtn, gtc, gsa, gsn, gsc⟩, by omega, by go_num, HJN, OFX, AFX, HBX⟩
      case measure => first | exact meas_step' hlt | (simp [intOf]; omega)
    have HEN : Hid (∀ al W, Below wr.heap.size wr W → Calls Tryz.prog 23 #[(.slice la l.length lc), frV ⟨pp, poa, pon, poc, pta, ptn, ptc, psa, psn, psc⟩, .int .i64 al] W (RetIds W (enoughL l mf al))) := Lib.hid (fun al W hW => enough_any W (.slice la l.length lc) l ⟨pp, poa, pon, poc, pta, ptn, ptc, psa, psn, psc⟩ mf al (HL.out.below (HB.out.trans (hW.mono HB.out.size))) (AF.out.at_.below hW) HSM.out)
    have HSK : Hid (∀ id W, Below wr.heap.size wr W → Calls Tryz.prog 26 #[(.slice la l.length lc), frV ⟨pp, poa, pon, poc, pta, ptn, ptc, psa, psn, psc⟩, .agg (idL id).toArray] W fun e w' => e = .returned (.int .i64 (stake l mf id)) ∧ Below W.heap.size W w') := Lib.hid (fun id W hW => stake_any W (.slice la l.length lc) l ⟨pp, poa, pon, poc, pta, ptn, ptc, psa, psn, psc⟩ mf id (HL.out.below (HB.out.trans (hW.mono HB.out.size))) (AF.out.at_.below hW) HSM.out)
    have HWH : Hid (∀ id W, Below wr.heap.size wr W → Calls Tryz.prog 29 #[frV ⟨pp, poa, pon, poc, pta, ptn, ptc, psa, psn, psc⟩, .agg (idL id).toArray] W (RetWho W (whoS mf id))) := Lib.hid (fun id W hW => who_any W ⟨pp, poa, pon, poc, pta, ptn, ptc, psa, psn, psc⟩ mf id (AF.out.at_.below hW) HSM.out)
    obtain ⟨wf, hwf⟩ : ∃ x, x = wr := ⟨_, rfl⟩
    have OFf := OF
    have HBf := HB
    rw [← hwf] at HEN HSK HWH OFf HBf
    by_cases hlt : k < nn
    all_goals (first
      | (have hop : mf.op = [] := Classical.byContradiction fun h => hex ⟨hlt, h⟩
         have hki : (k : Int) < nn := by omega
         rw [ans_empty 0 av hop] at HA1
         simp only at HA1
         obtain ⟨x0, x1, x2, x3⟩ := fr_cells OF.out
         simp only at x0 x1 x2 x3
         clear hop
         go_wp2_with fail
         refine HA1.out.mono ?_
         rintro e w7 ⟨⟨gp, goa, gon, goc, gta, gtn, gtc, gsa, gsn, gsc⟩, rfl, -, b7⟩
         have BX : Hid (Below wf.heap.size wf (w7.alloc (.cells (frC ⟨gp, goa, gon, goc, gta, gtn, gtc, gsa, gsn, gsc⟩) 27))) := Lib.hid (by rw [hwf]; exact b7.alloc b7.size _)
         have b7' := b7
         clear b7 HA1 x0 x1 x2 x3
         have OX := Lib.hid ((obj_below b7' (lt_of_obj OF.out)).trans OF.out)
         have lx := lt_of_obj OX.out
         clear b7'
         obtain ⟨x0, x1, x2, x3⟩ := fr_cells OX.out
         simp only at x0 x1 x2 x3
         have HE1 := Lib.hid (HEN.out alpha _ BX.out)
         clear hwf
         go_wp2_with fail
         clear x0 x1 x2 x3 lx hki OX
         generalize w7.alloc (.cells (frC ⟨gp, goa, gon, goc, gta, gtn, gtc, gsa, gsn, gsc⟩) 27) = wg at *)
      | (have hki : ¬ (k : Int) < nn := by omega
         have BX : Hid (Below wf.heap.size wf wf) := Lib.hid (Below.refl _ _)
         have HE1 := Lib.hid (HEN.out alpha _ BX.out)
         obtain ⟨x0, x1, x2, x3⟩ := fr_cells OF.out
         simp only at x0 x1 x2 x3
         clear HA1
         rw [hwf] at HE1 BX
         go_wp2_with fail
         rw [← hwf] at HE1 BX
         rw [← hwf]
         clear x0 x1 x2 x3 hwf hki
         obtain ⟨wg, hwg⟩ : ∃ x, x = wf := ⟨_, rfl⟩
         have BX : Hid (Below wf.heap.size wf wg) := Lib.hid (by rw [hwg]; exact Below.refl _ _)
         rw [← hwg] at HE1
         rw [← hwg]
         clear hwg))
    all_goals (
      clear OF HB AF hbfl hex hlt
      have HEP : Hid (∀ id ∈ enoughL l mf alpha, ansTip zs av id (min xs.length l.length) = true ∧ ansW l av id (min xs.length l.length) = stake l mf id ∧ alpha ≤ stake l mf id) := Lib.hid (by rw [HA.out.1]; exact fun id hid => enough_told HMB.out HPL.out HOZ.out JF.out hid)
      have HBO : Hid (∀ a ∈ enoughL l mf (sumW l / 2 + 1), ∀ b ∈ enoughL l mf (sumW l / 2 + 1), ∃ n, n ∈ whoS mf a ∧ n ∈ whoS mf b) := Lib.hid (fun a ha b hb => by obtain ⟨n, h1, h2⟩ := enough_both HMB.out ha hb; exact ⟨n, mem_whoS.2 h1, mem_whoS.2 h2⟩)
      have HWL : Hid (∀ id, (whoS mf id).length ≤ 100) := Lib.hid (fun id => whoS_len HMB.out id)
      generalize hE1 : enoughL l mf alpha = E1 at *
      clear hE1
      have HTG : Hid (Below wf.heap.size wf wg) := BX
      clear BX
      refine HE1.out.mono ?_
      rintro e w8 ⟨ve, rfl, hve, b8⟩
      have B8 : Hid (Below wf.heap.size wf w8) := Lib.hid (HTG.out.trans (b8.mono HTG.out.size))
      obtain ⟨ea, ec, rfl, hel, hem, he3⟩ := hve
      have HE3 := Lib.hid he3
      unfold maxLen at hem
      clear b8 he3 HE1 HTG
      obtain ⟨mn, hmn⟩ : ∃ m, m = min xs.length l.length := ⟨_, rfl⟩
      have hmx : mn ≤ xs.length := by omega
      have hml : mn ≤ l.length := by omega
      have hmi : (mn : Int) = min (xs.length : Int) (l.length : Int) := by omega
      have HR := fun W => run_lo24 HX.out hmx W
      rw [hmi] at HR
      rw [← hmn] at HEP
      clear hmn hmi
      go_wp2_with fail
      go_loopw [14, 15, 16, 17, 18, 79] (fun _ _ _ _ _ v79 wr => ∃ k : Nat, k ≤ E1.length ∧ v79 = .int .i64 k ∧ Hid (Below w8.heap.size w8 wr)) (fun _ _ _ _ _ i _ => E1.length - (intOf i).toNat)
      case atStart => exact ⟨0, Nat.zero_le _, rfl, Lib.hid (Below.refl _ _)⟩
      case round =>
        obtain ⟨k, hk, rfl, HB⟩ := hrel
        by_cases hlt : k < E1.length
        case pos =>
          obtain ⟨b, off, rfl, hbb, hrow⟩ := HE3.out (by omega)
          have hs1 := hrow k hlt
          rw [← obj_below HB.out hbb] at hs1
          have hbl : b < wr.heap.size := Nat.lt_of_lt_of_le hbb HB.out.size
          have HID := Lib.hid (HEP.out E1[k] (List.getElem_mem hlt))
          generalize E1[k] = id at *
          clear hrow
          have hki : (k : Int) < E1.length := by omega
          have BI : Hid (Below wr.heap.size wr (wr.alloc (.cells (idL id).toArray 32))) := Lib.hid ((Below.refl _ _).alloc (Nat.le_refl _) _)
          have OI : Hid (obj (wr.alloc (.cells (idL id).toArray 32)) wr.heap.size = some (.cells (idL id).toArray 32 (0, 0))) := Lib.hid (obj_alloc_at _ _ _ rfl)
          have BI8 : Hid (Below w8.heap.size w8 (wr.alloc (.cells (idL id).toArray 32))) := Lib.hid (HB.out.trans (BI.out.mono HB.out.size))
          go_wp2_with fail
          clear hs1 hbl
          generalize wr.alloc (.cells (idL id).toArray 32) = wi at *
          generalize wr.heap.size = bi at *
          go_loopw [15, 16, 17, 18, 91] (fun v15 v16 _ _ v91 wr => ∃ i : Nat, i ≤ mn ∧ v91 = .int .i64 i ∧ v15 = .bool (ansTip zs av id i) ∧ v16 = .int .i64 (ansW l av id i) ∧ Hid (Below wi.heap.size wi wr)) (fun _ _ _ _ i _ => mn - (intOf i).toNat)
          case atStart => exact ⟨0, Nat.zero_le _, rfl, rfl, rfl, Lib.hid (Below.refl _ _)⟩
          case round =>
            obtain ⟨i, hi, rfl, rfl, rfl, HBR⟩ := hrel
            have BR8 : Hid (Below w8.heap.size w8 wr) := Lib.hid (BI8.out.trans (HBR.out.mono BI8.out.size))
            have BRf : Hid (Below wf.heap.size wf wr) := Lib.hid (B8.out.trans (BR8.out.mono B8.out.size))
            have BRw : Hid (Below w.heap.size w wr) := Lib.hid (HBf.out.trans (BRf.out.mono HBf.out.size))
            have OIr := Lib.hid ((obj_below HBR.out (lt_of_obj OI.out)).trans OI.out)
            by_cases hli : i < mn
            case neg =>
              obtain rfl : i = mn := by omega
              obtain ⟨t1, t2, t3⟩ := HID.out
              rw [t1, t2]
              have HK := Lib.hid (HSK.out id wr BRf.out)
              have OFr := Lib.hid ((obj_below BRf.out (lt_of_obj OFf.out)).trans OFf.out)
              obtain ⟨x0, x1, x2, x3⟩ := fr_cells OFr.out
              simp only at x0 x1 x2 x3
              have pi : subOf (obj wr bi) 0 32 = some (idL id).toArray := by rw [OIr.out, subOf_cells (by simp), subA_all (by simp)]
              have lf := lt_of_obj OFr.out
              have li := lt_of_obj OIr.out
              have hsa : ¬ stake l mf id < alpha := by omega
              generalize stake l mf id = S at *
              clear t1 t2 t3
              go_wp2_with fail
              refine HK.out.mono ?_
              rintro e w9 ⟨rfl, b9⟩
              have B9 : Hid (Below w8.heap.size w8 w9) := Lib.hid (BR8.out.trans (b9.mono BR8.out.size))
              clear b9 HK x0 x1 x2 x3 pi
              go_wp2_with fail
              go_roundw
              case rel => exact ⟨k + 1, by omega, by go_num, B9⟩
              case measure => first | exact meas_step' hlt | (simp [intOf]; omega)
            have hii : (i : Int) < mn := by omega
            have hix : i < xs.length := by omega
            have hia : i < av.length := by have := HA.out.1; omega
            have hil : i < l.length := by omega
            have HAA : Hid (ansAt av (i : Int) = av[i]) := Lib.hid (by unfold ansAt; rw [if_neg (by omega)]; simp [List.getElem?_eq_getElem hia])
            have hq := HA.out.2 i xs[i] av[i] (List.getElem?_eq_getElem hix) (List.getElem?_eq_getElem hia)
            obtain ⟨oa', cap', e0, -, hcm, hax⟩ := HX.out
            injection e0 with e1 e2 e3
            obtain ⟨bx, ox, e4, hbx, hrx⟩ := hax (by omega)
            subst e1
            subst e4
            have hs2 := hrx i hix
            rw [← obj_below BRw.out hbx] at hs2
            have hbx2 : bx < wr.heap.size := Nat.lt_of_lt_of_le hbx BRw.out.size
            generalize xs[i] = x at *
            generalize av[i] = a at *
            obtain ⟨hfa, hta, hida⟩ := hq
            have HFA := Lib.hid hfa
            have HTA := Lib.hid hta
            have HIA := Lib.hid hida
            clear hax hrx hida hta hfa e2 e3 hcm
            have BX : Hid (Below wr.heap.size wr (wr.alloc (.cells (ansL x).toArray 54))) := Lib.hid ((Below.refl _ _).alloc (Nat.le_refl _) _)
            have OXX : Hid (obj (wr.alloc (.cells (ansL x).toArray 54)) wr.heap.size = some (.cells (ansL x).toArray 54 (0, 0))) := Lib.hid (obj_alloc_at _ _ _ rfl)
            have OIX := Lib.hid ((obj_below BX.out (lt_of_obj OIr.out)).trans OIr.out)
            have BXi : Hid (Below wi.heap.size wi (wr.alloc (.cells (ansL x).toArray 54))) := Lib.hid (HBR.out.trans (BX.out.mono HBR.out.size))
            have BXw : Hid (Below w.heap.size w (wr.alloc (.cells (ansL x).toArray 54))) := Lib.hid (BRw.out.trans (BX.out.mono BRw.out.size))
            have hzx : (wr.alloc (.cells (ansL x).toArray 54)).heap.size = wr.heap.size + 1 := by simp
            obtain ⟨c0, c1, c33⟩ := ans_box OXX.out
            have pi : subOf (obj wr bi) 0 32 = some (idL id).toArray := by rw [OIr.out, subOf_cells (by simp), subA_all (by simp)]
            have li : bi < wr.heap.size := lt_of_obj OIr.out
            cases hxf : x.fails with
            | true =>
              have HT1 := Lib.hid (ansTip_fail (zs := zs) (id := id) HAA.out (by rw [← HFA.out, hxf]))
              have HW1 := Lib.hid (ansW_fail (l := l) (id := id) HAA.out (by rw [← HFA.out, hxf]))
              rw [hxf] at c0
              generalize ansTip zs av id i = tb at *
              generalize ansW l av id i = S0 at *
              go_wp2_with fail
              go_roundw
              case rel => exact ⟨i + 1, by omega, by go_num, by rw [HT1.out], by rw [HW1.out], BXi⟩
              case measure => first | exact meas_step' hli | (simp [intOf]; omega)
            | false =>
            have HT1 := Lib.hid (ansTip_ok (zs := zs) (id := id) HAA.out (by rw [← HFA.out, hxf]))
            have HWY : Hid (id ∈ a.ids → ansW l av id (i + 1) = ansW l av id i + wtAt l i) := Lib.hid (fun h => ansW_yes HAA.out (by rw [← HFA.out, hxf]) h)
            have HWN : Hid (id ∉ a.ids → ansW l av id (i + 1) = ansW l av id i) := Lib.hid (fun h => ansW_no HAA.out h)
            have HM1 := Lib.hid (ansW_max HCH.out av id (i := i + 1) (by omega))
            have HM0 := Lib.hid (ansW_max HCH.out av id (i := i) (by omega))
            have HCI := Lib.hid (contains_any (wr.alloc (.cells (ansL x).toArray 54)) (.slice x.oa x.n x.cap) a.ids id (HIA.out.below BXw.out))
            have HHI := Lib.hid (has_int (wr.alloc (.cells (ansL x).toArray 54)) (.slice sa zs.length sc) zs (i : Int) (HSL.out.below BXw.out))
            have HTT : Hid (x.tip = a.tip) := HTA
            have HWT : Hid (wtAt l (i : Int) = l[i].wt) := Lib.hid (by unfold wtAt; rw [if_neg (by omega)]; simp [List.getElem?_eq_getElem hil])
            rw [hxf] at c0
            rw [← HTT.out] at HT1
            obtain ⟨tb1, htb1⟩ : ∃ x, x = ansTip zs av id (i + 1) := ⟨_, rfl⟩
            obtain ⟨S1, hS1⟩ : ∃ x, x = ansW l av id (i + 1) := ⟨_, rfl⟩
            rw [← htb1] at HT1
            rw [← hS1] at HWY HWN HM1
            have HTB1 := Lib.hid htb1
            have HS1 := Lib.hid hS1
            clear htb1 hS1
            generalize ansTip zs av id i = tb at *
            generalize ansW l av id i = S0 at *
            rw [HWT.out] at HWY
            obtain ⟨lb, lo, e5, hlb, hlrow⟩ := (show ∃ b off, la = some ⟨b, off, none⟩ ∧ b < w.heap.size ∧ RowAt w b off 2 vdL l by obtain ⟨oa, cp, e, _, _, g⟩ := HL.out; simp only [Value.slice.injEq] at e; obtain ⟨rfl, -, -⟩ := e; exact g (by omega))
            subst e5
            have hls := hlrow i hil
            have HLC : Hid (w.cell? ⟨lb, lo + i * 2 + 1, none⟩ = some (.int .i64 l[i].wt)) := Lib.hid (by have := subOf_cell hls (j := 1) (by decide); simpa [vdL] using this)
            generalize l[i].wt = wt at *
            clear hlrow hls HWT
            have hzq : zs.length ≤ 200 := by omega
            have HGO : Hid (tb1 = (tb || (decide (x.tip = id) && decide ((i : Int) ∈ zs)))) := HT1
            have hall : (tb = false ∧ x.tip = id) ∨ tb = true ∨ (tb = false ∧ ¬ x.tip = id) := by
              cases tb with
              | true => exact .inr (.inl rfl)
              | false =>
                by_cases h : x.tip = id
                · exact .inl ⟨rfl, h⟩
                · exact .inr (.inr ⟨rfl, h⟩)
            rcases hall with ⟨rfl, htp⟩ | rfl | ⟨rfl, hne⟩
            all_goals (first
              | (have hd : decide (x.tip = id) = true := decide_eq_true htp
                 have HQ : Hid (tb1 = decide ((i : Int) ∈ zs)) := Lib.hid (by have := HGO.out; rw [hd] at this; simpa using this)
                 clear htp
                 generalize decide ((i : Int) ∈ zs) = zb at *
                 go_wp2_with fail
                 refine HHI.out.mono ?_
                 rintro e wq ⟨rfl, rfl⟩
                 obtain rfl : tb1 = zb := HQ.out
                 go_wp2_with fail
                 clear hd)
              | (have hd : decide (x.tip = id) = false := decide_eq_false hne
                 have HQ : Hid (tb1 = false) := Lib.hid (by have := HGO.out; rw [hd] at this; simpa using this)
                 clear hne
                 obtain rfl : tb1 = false := HQ.out
                 go_wp2_with fail
                 clear hd)
              | (have HQ : Hid (tb1 = true) := Lib.hid (by have := HGO.out; simpa using this)
                 obtain rfl : tb1 = true := HQ.out
                 go_wp2_with fail))
            all_goals (
              refine HCI.out.mono ?_
              rintro e wc ⟨rfl, bc⟩
              have BCi : Hid (Below wi.heap.size wi wc) := Lib.hid (BXi.out.trans (bc.mono BXi.out.size))
              have BCw : Hid (Below w.heap.size w wc) := Lib.hid (BXw.out.trans (bc.mono BXw.out.size))
              have cw : wc.cell? ⟨lb, lo + i * 2 + 1, none⟩ = some (.int .i64 wt) := (BCw.out.cell (p := ⟨lb, lo + i * 2 + 1, none⟩) hlb).trans HLC.out
              have lbl : lb < wc.heap.size := Nat.lt_of_lt_of_le hlb BCw.out.size
              clear bc c0 c1 c33 pi hs2 hbx2
              by_cases hin : id ∈ a.ids
              · have hd2 : decide (id ∈ a.ids) = true := decide_eq_true hin
                have HS2 := Lib.hid (HWY.out hin)
                have hwr : IntKind.i64.wrap (S0 + wt) = S1 := by have := HS2.out; have := HM1.out; simp [IntKind.wrap, IntKind.signed, IntKind.bits]; omega
                clear hin
                go_wp2_with fail
                go_roundw
                case rel => exact ⟨i + 1, by omega, by go_num, congrArg Value.bool HTB1.out, by rw [HS1.out], BCi⟩
                case measure => first | exact meas_step' hli | (simp [intOf]; omega)
              · have hd2 : decide (id ∈ a.ids) = false := decide_eq_false hin
                have HS2 := Lib.hid (HWN.out hin)
                clear hin
                go_wp2_with fail
                go_roundw
                case rel => exact ⟨i + 1, by omega, by go_num, congrArg Value.bool HTB1.out, by rw [← HS1.out, HS2.out], BCi⟩
                case measure => first | exact meas_step' hli | (simp [intOf]; omega))
        case neg =>
          have hkn : k = E1.length := by omega
          have hki : ¬ (k : Int) < E1.length := by omega
          have BRf : Hid (Below wf.heap.size wf wr) := Lib.hid (B8.out.trans (HB.out.mono B8.out.size))
          have BRw : Hid (Below w.heap.size w wr) := Lib.hid (HBf.out.trans (BRf.out.mono HBf.out.size))
          have HTT := Lib.hid (total_any wr (.slice la l.length lc) l (HL.out.below BRw.out) HNM.out HCH.out)
          clear HB
          go_wp2_with fail
          clear hki hkn
          refine HTT.out.mono ?_
          rintro e w9 ⟨rfl, b9⟩
          have B9 : Hid (Below wf.heap.size wf w9) := Lib.hid (BRf.out.trans (b9.mono BRf.out.size))
          have hsm0 := sumW_nonneg (sumW_max HCH.out).1
          have hsm1 := (sumW_max HCH.out).2
          generalize sumW l = S at *
          clear b9 HTT BRf BRw
          have hq1 : S.tdiv 2 = S / 2 := by rw [Int.tdiv_eq_ediv_of_nonneg hsm0]
          have hq2 : IntKind.i64.wrap (S / 2) = S / 2 := by simp [IntKind.wrap, IntKind.signed, IntKind.bits]; omega
          have hq3 : IntKind.i64.wrap (S / 2 + 1) = S / 2 + 1 := by simp [IntKind.wrap, IntKind.signed, IntKind.bits]; omega
          have OF9 := Lib.hid ((obj_below B9.out (lt_of_obj OFf.out)).trans OFf.out)
          have HE2 := Lib.hid (HEN.out (S / 2 + 1) w9 B9.out)
          obtain ⟨x0, x1, x2, x3⟩ := fr_cells OF9.out
          simp only at x0 x1 x2 x3
          have l9 := lt_of_obj OF9.out
          go_wp2_with fail
          refine HE2.out.mono ?_
          rintro e w10 ⟨v2, rfl, hv2, b10⟩
          have B10 : Hid (Below wf.heap.size wf w10) := Lib.hid (B9.out.trans (b10.mono B9.out.size))
          obtain ⟨ea2, ec2, rfl, hel2, hem2, he32⟩ := hv2
          have HE32 := Lib.hid he32
          unfold maxLen at hem2
          have HEX : Hid (∀ W, Below wf.heap.size wf W → Calls Tryz.prog 23 #[(.slice la l.length lc), frV ⟨pp, poa, pon, poc, pta, ptn, ptc, psa, psn, psc⟩, .int .i64 (S / 2 + 1)] W (RetIds W (enoughL l mf (S / 2 + 1)))) := Lib.hid (fun W hW => HEN.out _ W hW)
          clear b10 he32 HE2 x0 x1 x2 x3 hq1 hq2 hq3 l9 OF9 B9 hsm0 hsm1 HEN HSK
          generalize enoughL l mf (S / 2 + 1) = E2 at *
          generalize S / 2 + 1 = half at *
          go_wp2_with fail
          go_loopw [21, 23, 24, 26, 147] (fun _ _ _ _ v147 wr => ∃ k2 : Nat, k2 ≤ E2.length ∧ v147 = .int .i64 k2 ∧ Hid (Below w10.heap.size w10 wr)) (fun _ _ _ _ i _ => E2.length - (intOf i).toNat)
          case atStart => exact ⟨0, Nat.zero_le _, rfl, Lib.hid (Below.refl _ _)⟩
          case round =>
            obtain ⟨k2, hk2, rfl, HB2⟩ := hrel
            have BRf : Hid (Below wf.heap.size wf wr) := Lib.hid (B10.out.trans (HB2.out.mono B10.out.size))
            have BRw : Hid (Below w.heap.size w wr) := Lib.hid (HBf.out.trans (BRf.out.mono HBf.out.size))
            by_cases hlt2 : k2 < E2.length
            case neg =>
              have hki : ¬ (k2 : Int) < E2.length := by omega
              go_wp2_with fail
              go_ret
              exact ⟨rfl, BRw.out⟩
            have hki : (k2 : Int) < E2.length := by omega
            obtain ⟨b, off, rfl, hbb, hrow⟩ := HE32.out (by omega)
            have hs1 := hrow k2 hlt2
            rw [← obj_below HB2.out hbb] at hs1
            have hbl : b < wr.heap.size := Nat.lt_of_lt_of_le hbb HB2.out.size
            have HMA : Hid (E2[k2] ∈ E2) := Lib.hid (List.getElem_mem hlt2)
            generalize E2[k2] = ia at *
            clear hrow
            have BI : Hid (Below wr.heap.size wr (wr.alloc (.cells (idL ia).toArray 32))) := Lib.hid ((Below.refl _ _).alloc (Nat.le_refl _) _)
            have OA : Hid (obj (wr.alloc (.cells (idL ia).toArray 32)) wr.heap.size = some (.cells (idL ia).toArray 32 (0, 0))) := Lib.hid (obj_alloc_at _ _ _ rfl)
            have BI10 : Hid (Below w10.heap.size w10 (wr.alloc (.cells (idL ia).toArray 32))) := Lib.hid (HB2.out.trans (BI.out.mono HB2.out.size))
            have BIf : Hid (Below wf.heap.size wf (wr.alloc (.cells (idL ia).toArray 32))) := Lib.hid (BRf.out.trans (BI.out.mono BRf.out.size))
            have OFr := Lib.hid ((obj_below BRf.out (lt_of_obj OFf.out)).trans OFf.out)
            obtain ⟨x0, x1, x2, x3⟩ := fr_cells OFr.out
            simp only at x0 x1 x2 x3
            have lf := lt_of_obj OFr.out
            have HE4 := Lib.hid (HEX.out _ BIf.out)
            go_wp2_with fail
            clear x0 x1 x2 x3 hs1 hbl lf OFr
            generalize wr.alloc (.cells (idL ia).toArray 32) = wa at *
            generalize wr.heap.size = ba at *
            refine HE4.out.mono ?_
            rintro e w11 ⟨v3, rfl, hv3, b11⟩
            obtain ⟨ea3, ec3, rfl, hel3, hem3, he33⟩ := hv3
            have HE33 := Lib.hid he33
            unfold maxLen at hem3
            have B1110 : Hid (Below w10.heap.size w10 w11) := Lib.hid (BI10.out.trans (b11.mono BI10.out.size))
            have B11f : Hid (Below wf.heap.size wf w11) := Lib.hid (BIf.out.trans (b11.mono BIf.out.size))
            have OA11 := Lib.hid ((obj_below b11 (lt_of_obj OA.out)).trans OA.out)
            clear b11 he33 HE4 OA BI BI10 BIf BRf BRw HB2
            go_wp2_with fail
            go_loopw [23, 24, 26, 156] (fun _ _ _ v156 wr => ∃ j2 : Nat, j2 ≤ E2.length ∧ v156 = .int .i64 j2 ∧ Hid (Below w11.heap.size w11 wr)) (fun _ _ _ i _ => E2.length - (intOf i).toNat)
            case atStart => exact ⟨0, Nat.zero_le _, rfl, Lib.hid (Below.refl _ _)⟩
            case round =>
              obtain ⟨j2, hj2, rfl, HB3⟩ := hrel
              by_cases hlt3 : j2 < E2.length
              case neg =>
                have hkj : ¬ (j2 : Int) < E2.length := by omega
                go_wp2_with fail
                go_roundw
                case rel => exact ⟨k2 + 1, by omega, by go_num, Lib.hid (B1110.out.trans (HB3.out.mono B1110.out.size))⟩
                case measure => first | exact meas_step' hlt2 | (simp [intOf]; omega)
              have hkj : (j2 : Int) < E2.length := by omega
              obtain ⟨b, off, rfl, hbb, hrow⟩ := HE33.out (by omega)
              have hs1 := hrow j2 hlt3
              rw [← obj_below HB3.out hbb] at hs1
              have hbl : b < wr.heap.size := Nat.lt_of_lt_of_le hbb HB3.out.size
              have HMB2 : Hid (E2[j2] ∈ E2) := Lib.hid (List.getElem_mem hlt3)
              generalize E2[j2] = ib at *
              have HBB := Lib.hid (HBO.out ia HMA.out ib HMB2.out)
              clear hrow
              have BRf : Hid (Below wf.heap.size wf wr) := Lib.hid (B11f.out.trans (HB3.out.mono B11f.out.size))
              have BI : Hid (Below wr.heap.size wr (wr.alloc (.cells (idL ib).toArray 32))) := Lib.hid ((Below.refl _ _).alloc (Nat.le_refl _) _)
              have OB : Hid (obj (wr.alloc (.cells (idL ib).toArray 32)) wr.heap.size = some (.cells (idL ib).toArray 32 (0, 0))) := Lib.hid (obj_alloc_at _ _ _ rfl)
              have BI11 : Hid (Below w11.heap.size w11 (wr.alloc (.cells (idL ib).toArray 32))) := Lib.hid (HB3.out.trans (BI.out.mono HB3.out.size))
              have BIf : Hid (Below wf.heap.size wf (wr.alloc (.cells (idL ib).toArray 32))) := Lib.hid (BRf.out.trans (BI.out.mono BRf.out.size))
              have OFr := Lib.hid ((obj_below BRf.out (lt_of_obj OFf.out)).trans OFf.out)
              have OAr := Lib.hid ((obj_below HB3.out (lt_of_obj OA11.out)).trans OA11.out)
              obtain ⟨x0, x1, x2, x3⟩ := fr_cells OFr.out
              simp only at x0 x1 x2 x3
              have lf := lt_of_obj OFr.out
              have la' := lt_of_obj OAr.out
              have pa : subOf (obj wr ba) 0 32 = some (idL ia).toArray := by rw [OAr.out, subOf_cells (by simp), subA_all (by simp)]
              have HW1 := Lib.hid (HWH.out ia _ BIf.out)
              go_wp2_with fail
              clear x0 x1 x2 x3 hs1 hbl lf OFr la' pa OAr
              generalize wr.alloc (.cells (idL ib).toArray 32) = wb at *
              generalize wr.heap.size = bb at *
              refine HW1.out.mono ?_
              rintro e w12 ⟨lb, v, rfl, hob, hown, b12⟩
              have HTL := Lib.hid (told_who hob hown (HWL.out ia))
              have B12f : Hid (Below wf.heap.size wf w12) := Lib.hid (BIf.out.trans (b12.mono BIf.out.size))
              have B1211 : Hid (Below w11.heap.size w11 w12) := Lib.hid (BI11.out.trans (b12.mono BI11.out.size))
              have OB12 := Lib.hid ((obj_below b12 (lt_of_obj OB.out)).trans OB.out)
              clear b12 hob hown HW1 OB BI BI11 BIf BRf HB3
              go_wp2_with fail
              refine HTL.out.mono ?_
              rintro e w13 ⟨v4, rfl, hown4, b13⟩
              obtain ⟨na, nc, rfl, -, hnm, hn3⟩ := hown4.slIn'
              have HN3 := Lib.hid hn3
              unfold maxLen at hnm
              have B13f : Hid (Below wf.heap.size wf w13) := Lib.hid (B12f.out.trans (b13.mono B12f.out.size))
              have B1311 : Hid (Below w11.heap.size w11 w13) := Lib.hid (B1211.out.trans (b13.mono B1211.out.size))
              have OB13 := Lib.hid ((obj_below b13 (lt_of_obj OB12.out)).trans OB12.out)
              clear b13 hown4 hn3 HTL OB12 B12f B1211
              have hnl := HWL.out ia
              generalize whoS mf ia = NA at *
              have HOW : Hid (∀ W, Below wf.heap.size wf W → Calls Tryz.prog 29 #[frV ⟨pp, poa, pon, poc, pta, ptn, ptc, psa, psn, psc⟩, .agg (idL ib).toArray] W (RetWho W (whoS mf ib))) := Lib.hid (fun W hW => HWH.out ib W hW)
              have HNL := Lib.hid (HWL.out ib)
              generalize whoS mf ib = NB at *
              go_wp2_with fail
              go_loopw [24, 26, 165] (fun v24 _ v165 wr => ∃ (i : Nat) (bv : Bool), i ≤ NA.length ∧ v165 = .int .i64 i ∧ v24 = .bool bv ∧ Hid (bv = (NA.take i).any fun n => decide (n ∈ NB)) ∧ Hid (Below w13.heap.size w13 wr)) (fun _ _ i _ => NA.length - (intOf i).toNat)
              case atStart => exact ⟨0, false, Nat.zero_le _, rfl, rfl, Lib.hid (by simp), Lib.hid (Below.refl _ _)⟩
              case round =>
                obtain ⟨i, bv, hi, rfl, rfl, HBV, HB4⟩ := hrel
                by_cases hlt4 : i < NA.length
                case neg =>
                  have hni : ¬ (i : Int) < NA.length := by omega
                  obtain rfl : bv = true := by
                    obtain ⟨n, h1, h2⟩ := HBB.out
                    rw [HBV.out, List.take_of_length_le (by omega), List.any_eq_true]
                    exact ⟨n, h1, decide_eq_true h2⟩
                  go_wp2_with fail
                  go_roundw
                  case rel => exact ⟨j2 + 1, by omega, by go_num, Lib.hid (B1311.out.trans (HB4.out.mono B1311.out.size))⟩
                  case measure => first | exact meas_step' hlt3 | (simp [intOf]; omega)
                have hni : (i : Int) < NA.length := by omega
                obtain ⟨b, off, rfl, hbb, hrow⟩ := HN3.out (by omega)
                have hs2 := hrow i hlt4
                rw [← obj_below HB4.out hbb] at hs2
                have hbl : b < wr.heap.size := Nat.lt_of_lt_of_le hbb HB4.out.size
                have HSN := Lib.hid (any_snoc (fun n => decide (n ∈ NB)) hlt4)
                have cx : wr.cell? ⟨b, off + i * 1, none⟩ = some (.int .i64 NA[i]) := by have := subOf_cell hs2 (j := 0) (by decide); simpa [intL] using this
                rw [Nat.mul_one] at cx
                generalize NA[i] = n at *
                clear hrow hs2
                cases bv with
                | true =>
                  have HBN2 : Hid (true = (NA.take (i + 1)).any fun n => decide (n ∈ NB)) := Lib.hid (by rw [HSN.out, ← HBV.out]; rfl)
                  go_wp2_with fail
                  go_roundw
                  case rel => exact ⟨i + 1, true, by omega, by go_num, rfl, HBN2, HB4⟩
                  case measure => first | exact meas_step' hlt4 | (simp [intOf]; omega)
                | false =>
                  have HBN2 : Hid (decide (n ∈ NB) = (NA.take (i + 1)).any fun n => decide (n ∈ NB)) := Lib.hid (by rw [HSN.out, ← HBV.out]; rfl)
                  have B4f : Hid (Below wf.heap.size wf wr) := Lib.hid (B13f.out.trans (HB4.out.mono B13f.out.size))
                  have OFr := Lib.hid ((obj_below B4f.out (lt_of_obj OFf.out)).trans OFf.out)
                  have OBr := Lib.hid ((obj_below HB4.out (lt_of_obj OB13.out)).trans OB13.out)
                  obtain ⟨x0, x1, x2, x3⟩ := fr_cells OFr.out
                  simp only at x0 x1 x2 x3
                  have pb : subOf (obj wr bb) 0 32 = some (idL ib).toArray := by rw [OBr.out, subOf_cells (by simp), subA_all (by simp)]
                  have HW1 := Lib.hid (HOW.out wr B4f.out)
                  go_wp2_with fail
                  refine HW1.out.mono ?_
                  rintro e w14 ⟨lb2, v5, rfl, hob, hown, b14⟩
                  have HTL := Lib.hid (told_who hob hown HNL.out)
                  have B14 : Hid (Below w13.heap.size w13 w14) := Lib.hid (HB4.out.trans (b14.mono HB4.out.size))
                  clear b14 hob hown HW1 x0 x1 x2 x3 pb cx
                  go_wp2_with fail
                  refine HTL.out.mono ?_
                  rintro e w15 ⟨v6, rfl, hown6, b15⟩
                  have HHN := Lib.hid (has_int w15 v6 NB n hown6.slIn')
                  have B15 : Hid (Below w13.heap.size w13 w15) := Lib.hid (B14.out.trans (b15.mono B14.out.size))
                  obtain ⟨nb, nd, rfl, -, -, -⟩ := hown6.slIn'
                  clear b15 hown6 HTL B14
                  go_wp2_with fail
                  refine HHN.out.mono ?_
                  rintro e w16 ⟨rfl, rfl⟩
                  generalize decide (n ∈ NB) = zb at *
                  go_wp2_with fail
                  go_roundw
                  case rel => exact ⟨i + 1, zb, by omega, by go_num, rfl, HBN2, B15⟩
                  case measure => first | exact meas_step' hlt4 | (simp [intOf]; omega))
end Go.Proofs.YtmgpfmgmpmkkaaaGreat
