import Derived.Test.YtmgpfmgmpmkkaaaGreatRefF
import Derived.Test.YtmgpfmgmpmkkaaaGreatSm
namespace Go.Proofs.YtmgpfmgmpmkkaaaGreat
open Go.RowKit Go.Shelf Go.Sort

theorem int_row_cell {w W : World} {b off : Nat} {xs : List Int} {k : Nat} (hlt : k < xs.length) (hs : subOf (obj W b) (off + k * 1) 1 = some (intL xs[k]).toArray) : W.cell? ⟨b, off + k, none⟩ = some (.int .i64 xs[k]) := by
  have := subOf_cell hs (j := 0) (by decide)
  simpa [intL] using this
set_option maxRecDepth 100000 in
set_option maxHeartbeats 4000000 in
/-- the reference's Same -/
theorem sameR_any (w : World) (d1 d2 : FrD) (a b : FrM) (h : FrAt w d1 a) (h' : FrAt w d2 b) :
    Calls Tryz.prog 15 #[frV d1, frV d2] w fun e w' => e = .returned (.bool (sameB a b)) ∧ Below w.heap.size w w' := by
  have hb0 : Below w.heap.size w ((w.alloc (.cells (frC d1) 27)).alloc (.cells (frC d2) 27)) := ((Below.refl _ w).alloc (Nat.le_refl _) _).alloc (by simp) _
  have o1 : obj ((w.alloc (.cells (frC d1) 27)).alloc (.cells (frC d2) 27)) w.heap.size = some (.cells (frC d1) 27 (0, 0)) := (obj_alloc_past _ _ _ (by simp)).trans (fr_box w d1)
  have o2 : obj ((w.alloc (.cells (frC d1) 27)).alloc (.cells (frC d2) 27)) (w.heap.size + 1) = some (.cells (frC d2) 27 (0, 0)) := obj_alloc_at _ _ _ (by simp)
  have hz : ((w.alloc (.cells (frC d1) 27)).alloc (.cells (frC d2) 27)).heap.size = w.heap.size + 2 := by simp
  have HA := Lib.hid h
  have HB := Lib.hid h'
  have HP1 := Lib.hid h.phase
  have HP2 := Lib.hid h'.phase
  have hon := h.op.n
  have hon' := h'.op.n
  obtain ⟨r1, q1, s1⟩ := h.said
  obtain ⟨r2, q2, s2⟩ := h'.said
  have hsn := q1.n
  have hsn' := q2.n
  have hsl : r1.length = a.said.length := s1.1
  have hsl' : r2.length = b.said.length := s2.1
  obtain ⟨ap, aoa, aon, aoc, ata, atn, atc, asa, asn, asc⟩ := d1
  obtain ⟨bp, boa, bon, boc, bta, btn, btc, bsa, bsn, bsc⟩ := d2
  simp only at hon hon' hsn hsn'
  subst hon hon' hsn hsn'
  obtain ⟨oa1, oc1, e1, g1, g2, g3⟩ := h.op
  injection e1 with e1 _ e2
  subst e1 e2
  obtain ⟨oa2, oc2, e1, k1, k2, k3⟩ := h'.op
  injection e1 with e1 _ e2
  subst e1 e2
  obtain ⟨oa3, oc3, e1, m1, m2, m3⟩ := q1
  injection e1 with e1 _ e2
  subst e1 e2
  obtain ⟨oa4, oc4, e1, n1, n2, n3⟩ := q2
  injection e1 with e1 _ e2
  subst e1 e2
  unfold maxLen at g2 k2 m2 n2
  have G3 := Lib.hid g3
  have K3 := Lib.hid k3
  have M3 := Lib.hid m3
  have N3 := Lib.hid n3
  have S1 := Lib.hid s1
  have S2 := Lib.hid s2
  have HSL := Lib.hid hsl
  have HSL' := Lib.hid hsl'
  have B0 := Lib.hid hb0
  have O1 := Lib.hid o1
  have O2 := Lib.hid o2
  have HZ := Lib.hid hz
  have HE : Hid (sameB a b = (decide (a.phase = b.phase) && decide (a.op = b.op) && decide (a.tips = b.tips) && decide (a.said = b.said))) := Lib.hid rfl
  generalize sameB a b = T at *
  have HN1 : Hid (a.op ≠ b.op → T = false) := Lib.hid (fun e => by rw [HE.out, decide_eq_false e]; simp)
  have HN2 : Hid (a.tips ≠ b.tips → T = false) := Lib.hid (fun e => by rw [HE.out, decide_eq_false e]; simp)
  have HN3 : Hid (a.said ≠ b.said → T = false) := Lib.hid (fun e => by rw [HE.out, decide_eq_false e]; simp)
  clear h h' hb0 o1 o2 hz g3 k3 m3 n3 s1 s2 hsl hsl'
  have x0 := cell_at O1.out 0
  have x1 := cell_at O1.out 1
  have x2 := cell_at O1.out 2
  have y0 := cell_at O2.out 0
  have y1 := cell_at O2.out 1
  have y2 := cell_at O2.out 2
  simp at x0 x1 x2 y0 y1 y2
  have HQ := Lib.hid (sameIDs_any _ _ _ a.tips b.tips (HA.out.tips.below B0.out) (HB.out.tips.below B0.out))
  by_cases hp : ap = bp
  case neg =>
    obtain rfl : T = false := by rw [HE.out, decide_eq_false (fun e => hp (HP1.out.trans (e.trans HP2.out.symm)))]; rfl
    have hpb : (ap != bp) = true := by simp [hp]
    go_enter Tryz.func15, Tryz.ntmps15
    go_wp2_with fail
    go_ret
    exact ⟨rfl, B0.out⟩
  have HPH : Hid (a.phase = b.phase) := Lib.hid (HP1.out.symm.trans (hp.trans HP2.out))
  clear HP1 HP2
  subst hp
  by_cases ho : a.op.length = b.op.length
  case neg =>
    obtain rfl : T = false := HN1.out (fun e => ho (by rw [e]))
    have hob : ((a.op.length : Int) != (b.op.length : Int)) = true := by simp; omega
    go_enter Tryz.func15, Tryz.ntmps15
    go_wp2_with fail
    go_ret
    exact ⟨rfl, B0.out⟩
  have hob : ((a.op.length : Int) != (b.op.length : Int)) = false := by simp [ho]
  have HO := Lib.hid ho
  clear ho
  go_enter Tryz.func15, Tryz.ntmps15
  go_wp2_with fail
  generalize (w.alloc (.cells (frC ⟨ap, aoa, a.op.length, aoc, ata, atn, atc, asa, r1.length, asc⟩) 27)).alloc (.cells (frC ⟨ap, boa, b.op.length, boc, bta, btn, btc, bsa, r2.length, bsc⟩) 27) = w1 at *
  clear x0 x1 x2 y0 y1 y2
  have hz := HZ.out
  refine HQ.out.mono ?_
  rintro e w2 ⟨rfl, b2⟩
  have hz2 := b2.size
  have O12 := Lib.hid ((obj_below b2 (lt_of_obj O1.out)).trans O1.out)
  have O22 := Lib.hid ((obj_below b2 (lt_of_obj O2.out)).trans O2.out)
  have B2 : Hid (Below w.heap.size w w2) := Lib.hid (B0.out.trans (b2.mono (by omega)))
  clear b2 HQ O1 O2 B0
  have x1 := cell_at O12.out 1
  have x3 := cell_at O12.out 3
  have y3 := cell_at O22.out 3
  simp at x1 x3 y3
  by_cases ht : a.tips = b.tips
  case neg =>
    obtain rfl : T = false := HN2.out ht
    have hd : decide (a.tips = b.tips) = false := decide_eq_false ht
    generalize decide (a.tips = b.tips) = D at *
    subst hd
    clear ht
    go_wp2_with fail
    go_ret
    exact ⟨rfl, B2.out⟩
  have HT := Lib.hid ht
  have hd : decide (a.tips = b.tips) = true := decide_eq_true ht
  generalize decide (a.tips = b.tips) = D at *
  subst hd
  clear ht
  by_cases hr : r1.length = r2.length
  case neg =>
    obtain rfl : T = false := HN3.out (fun e => hr (by rw [HSL.out, HSL'.out, e]))
    have hrb : ((r1.length : Int) != (r2.length : Int)) = true := by simp; omega
    go_wp2_with fail
    go_ret
    exact ⟨rfl, B2.out⟩
  have hrb : ((r1.length : Int) != (r2.length : Int)) = false := by simp [hr]
  have HR := Lib.hid hr
  clear hr
  go_wp2_with fail
  go_loopw [5] (fun v5 wr => ∃ k : Nat, k ≤ a.op.length ∧ v5 = .int .i64 k ∧ Hid (∀ j (h1 : j < a.op.length) (h2 : j < b.op.length), j < k → a.op[j] = b.op[j]) ∧ Hid (Below w2.heap.size w2 wr)) (fun i _ => a.op.length - (intOf i).toNat)
  case atStart => exact ⟨0, Nat.zero_le _, rfl, Lib.hid (by omega), Lib.hid (Below.refl _ _)⟩
  case round =>
    obtain ⟨k, hk, rfl, HK, HBR⟩ := hrel
    have hzr := HBR.out.size
    have OXR := Lib.hid ((obj_below HBR.out (by omega)).trans O12.out)
    have OYR := Lib.hid ((obj_below HBR.out (by omega)).trans O22.out)
    have BR : Hid (Below w.heap.size w wr) := Lib.hid (B2.out.trans (HBR.out.mono (by omega)))
    have hxl := lt_of_obj OXR.out
    have hyl := lt_of_obj OYR.out
    have u1 := cell_at OXR.out 1
    have v1 := cell_at OYR.out 1
    have u3 := cell_at OXR.out 3
    simp at u1 v1 u3
    by_cases hlt : k < a.op.length
    · have hlt' : k < b.op.length := by have := HO.out; omega
      obtain ⟨p, off, hoa, hbb, hrow⟩ := G3.out (by omega)
      obtain ⟨p', off', hoa', hbb', hrow'⟩ := K3.out (by omega)
      subst hoa
      subst hoa'
      have hs1 := hrow k hlt
      have hs2 := hrow' k hlt'
      rw [← obj_below BR.out hbb] at hs1
      rw [← obj_below BR.out hbb'] at hs2
      have hbl : p < wr.heap.size := by omega
      have hbl' : p' < wr.heap.size := by omega
      have NX : Hid (a.op[k] = b.op[k] → ∀ j (h1 : j < a.op.length) (h2 : j < b.op.length), j < k + 1 → a.op[j] = b.op[j]) := Lib.hid (fun h j h1 h2 hlt' => by
          by_cases e : j = k
          · subst e; exact h
          · exact HK.out j h1 h2 (by omega))
      have NO : Hid (a.op[k] ≠ b.op[k] → T = false) := Lib.hid (fun h => HN1.out (fun e => h (by simp only [e])))
      have cx := int_row_cell (w := w) hlt hs1
      have cy := int_row_cell (w := w) hlt' hs2
      have hki : (k : Int) < a.op.length := by omega
      have hkj : (k : Int) < b.op.length := by omega
      generalize a.op[k] = x at *
      generalize b.op[k] = y at *
      clear hrow hrow' hs1 hs2
      by_cases hxy : x = y
      · have hd : (x != y) = false := by simpa using hxy
        have HN := Lib.hid (NX.out hxy)
        clear hxy
        go_wp2
        go_quiet (fail)
        go_wp2
        go_roundw
        case rel => exact ⟨k + 1, by omega, by go_num, HN, Lib.hid (below_drewN HBR.out _)⟩
        case measure => first | exact meas_step' hlt | (simp [intOf]; omega)
      · have hd : (x != y) = true := by simpa using hxy
        obtain rfl : T = false := NO.out hxy
        clear hxy
        go_wp2
        go_quiet (fail)
        go_wp2
        go_ret
        exact ⟨rfl, below_drewN BR.out _⟩
    · have HOE : Hid (a.op = b.op) := Lib.hid (List.ext_getElem HO.out fun j h1 h2 => HK.out j h1 h2 (by omega))
      have HTE : Hid (a.said = b.said → T = true) := Lib.hid (fun e => by rw [HE.out, decide_eq_true HPH.out, decide_eq_true HOE.out, decide_eq_true e]; rfl)
      clear HK
      go_wp2_with fail
      go_loopw [6] (fun v6 wr' => ∃ k : Nat, k ≤ r1.length ∧ v6 = .int .i64 k ∧ Hid (∀ j (h1 : j < a.said.length) (h2 : j < b.said.length), j < k → a.said[j] = b.said[j]) ∧ Hid (Below w2.heap.size w2 wr')) (fun i _ => r1.length - (intOf i).toNat)
      case atStart => exact ⟨0, Nat.zero_le _, rfl, Lib.hid (by omega), HBR⟩
      case round =>
        obtain ⟨k2, hk2, rfl, HK2, HBQ⟩ := hrel
        have hzq := HBQ.out.size
        have OXQ := Lib.hid ((obj_below HBQ.out (by omega)).trans O12.out)
        have OYQ := Lib.hid ((obj_below HBQ.out (by omega)).trans O22.out)
        have BQ : Hid (Below w.heap.size w wr) := Lib.hid (B2.out.trans (HBQ.out.mono (by omega)))
        have hxq := lt_of_obj OXQ.out
        have hyq := lt_of_obj OYQ.out
        have u4 := cell_at OXQ.out 3
        have v4 := cell_at OYQ.out 3
        simp at u4 v4
        clear u1 v1 u3
        by_cases hlt2 : k2 < r1.length
        case neg =>
          have HSE : Hid (a.said = b.said) := Lib.hid (List.ext_getElem (by rw [← HSL.out, ← HSL'.out]; exact HR.out) fun j h1 h2 => HK2.out j h1 h2 (by have := HSL.out; omega))
          obtain rfl : T = true := HTE.out HSE.out
          go_wp2_with fail
          go_ret
          exact ⟨rfl, BQ.out⟩
        have hlt2' : k2 < r2.length := by have := HR.out; omega
        have hs1 : k2 < a.said.length := by have := HSL.out; omega
        have hs2 : k2 < b.said.length := by have := HSL'.out; omega
        obtain ⟨p, off, hoa, hbb, hrow⟩ := M3.out (by omega)
        obtain ⟨p', off', hoa', hbb', hrow'⟩ := N3.out (by omega)
        subst hoa
        subst hoa'
        have z1 := hrow k2 hlt2
        have z2 := hrow' k2 hlt2'
        rw [← obj_below BQ.out hbb] at z1
        rw [← obj_below BQ.out hbb'] at z2
        have hbl : p < wr.heap.size := by omega
        have hbl' : p' < wr.heap.size := by omega
        have q1 := S1.out.2 k2 r1[k2] a.said[k2] (List.getElem?_eq_getElem hlt2) (List.getElem?_eq_getElem hs1)
        have q2 := S2.out.2 k2 r2[k2] b.said[k2] (List.getElem?_eq_getElem hlt2') (List.getElem?_eq_getElem hs2)
        have NX : Hid (a.said[k2] = b.said[k2] → ∀ j (h1 : j < a.said.length) (h2 : j < b.said.length), j < k2 + 1 → a.said[j] = b.said[j]) := Lib.hid (fun h j h1 h2 hlt' => by
            by_cases e : j = k2
            · subst e; exact h
            · exact HK2.out j h1 h2 (by omega))
        have NO : Hid (a.said[k2] ≠ b.said[k2] → T = false) := Lib.hid (fun h => HN3.out (fun e => h (by simp only [e])))
        have hki : (k2 : Int) < r1.length := by omega
        have hkj : (k2 : Int) < r2.length := by omega
        generalize r1[k2] = x at *
        generalize r2[k2] = y at *
        generalize a.said[k2] = s at *
        generalize b.said[k2] = t at *
        clear hrow hrow'
        obtain ⟨an, ao, al, ac⟩ := x
        obtain ⟨cn, co, cl, cc⟩ := y
        have c0 : wr.cell? ⟨p, off + k2 * 2, none⟩ = some (.int .i64 an) := by have := subOf_cell z1 (j := 0) (by decide); simpa [sdL] using this
        have c1 : wr.cell? ⟨p, off + k2 * 2 + 1, none⟩ = some (.slice ao al ac) := by have := subOf_cell z1 (j := 1) (by decide); simpa [sdL] using this
        have d0 : wr.cell? ⟨p', off' + k2 * 2, none⟩ = some (.int .i64 cn) := by have := subOf_cell z2 (j := 0) (by decide); simpa [sdL] using this
        have d1 : wr.cell? ⟨p', off' + k2 * 2 + 1, none⟩ = some (.slice co cl cc) := by have := subOf_cell z2 (j := 1) (by decide); simpa [sdL] using this
        obtain ⟨sn, si⟩ := s
        obtain ⟨tn, ti⟩ := t
        obtain ⟨q1n, q1s⟩ := q1
        obtain ⟨q2n, q2s⟩ := q2
        simp only at q1n q2n q1s q2s
        subst q1n q2n
        have HL : Hid (∀ z : Later wr, Calls Tryz.prog 44 #[.slice ao al ac, .slice co cl cc] z.w fun e w' => e = .returned (.bool (decide (si = ti))) ∧ Below z.w.heap.size z.w w') := Lib.hid (fun z => sameIDs_any z.w _ _ si ti ((q1s.below BQ.out).below z.h) ((q2s.below BQ.out).below z.h))
        clear z1 z2 q1s q2s
        by_cases hn : an = cn
        · have hnb : (an != cn) = false := by simp [hn]
          have HS : Hid (si = ti → ∀ j (h1 : j < a.said.length) (h2 : j < b.said.length), j < k2 + 1 → a.said[j] = b.said[j]) := Lib.hid (fun e => NX.out (by rw [hn, e]))
          have HF : Hid (si ≠ ti → T = false) := Lib.hid (fun e => NO.out (fun h => e (by injection h)))
          clear NX NO
          go_wp2_with fail
          refine wp_region_later wr (Below.refl _ _) (by kernel_rfl) (by kernel_rfl) ?_
          repeat (go_big_quiet_step (first | (go_at_call 44; with_reducible exact Calls.later (HL.out _))))
          refine wpQuiet_nil ?_
          intro _ hx
          obtain ⟨⟨w6, b6⟩, hx⟩ := hx
          subst hx
          rename_i w6
          have B6 := Lib.hid (HBQ.out.trans (b6.mono HBQ.out.size))
          have BW6 : Hid (Below w.heap.size w w6) := Lib.hid (B2.out.trans (B6.out.mono (by omega)))
          clear b6
          by_cases hst : si = ti
          · have hd : decide (si = ti) = true := decide_eq_true hst
            have HN := Lib.hid (HS.out hst)
            generalize decide (si = ti) = D at *
            subst hd
            clear hst
            go_wp2_with fail
            go_roundw
            case rel => exact ⟨k2 + 1, by omega, by go_num, HN, B6⟩
            case measure => first | exact meas_step' hlt2 | (simp [intOf]; omega)
          · have hd : decide (si = ti) = false := decide_eq_false hst
            obtain rfl : T = false := HF.out hst
            generalize decide (si = ti) = D at *
            subst hd
            clear hst
            go_wp2_with fail
            go_ret
            exact ⟨rfl, BW6.out⟩
        · have hnb : (an != cn) = true := by simp [hn]
          obtain rfl : T = false := NO.out (fun h => hn (by injection h))
          clear NX NO
          go_wp2_with fail
          refine wp_region_later wr (Below.refl _ _) (by kernel_rfl) (by kernel_rfl) ?_
          repeat (go_big_quiet_step (fail))
          refine wpQuiet_nil ?_
          intro _ hx
          obtain ⟨⟨w6, b6⟩, hx⟩ := hx
          subst hx
          rename_i w6
          have BW6 : Hid (Below w.heap.size w w6) := Lib.hid (BQ.out.trans (b6.mono (by omega)))
          clear b6
          go_wp2_with fail
          go_ret
          exact ⟨rfl, BW6.out⟩
end Go.Proofs.YtmgpfmgmpmkkaaaGreat
