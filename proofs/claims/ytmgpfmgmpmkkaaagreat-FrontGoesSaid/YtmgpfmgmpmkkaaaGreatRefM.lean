import Derived.Test.YtmgpfmgmpmkkaaaGreatRefF
namespace Go.Proofs.YtmgpfmgmpmkkaaaGreat
open Go.RowKit

theorem int_row_cell {w W : World} {b off : Nat} {xs : List Int} {k : Nat} (hlt : k < xs.length) (hs : subOf (obj W b) (off + k * 1) 1 = some (intL xs[k]).toArray) : W.cell? ⟨b, off + k, none⟩ = some (.int .i64 xs[k]) := by
  have := subOf_cell hs (j := 0) (by decide)
  simpa [intL] using this
theorem saidB_pl {n : Int} {m : FrM} {i : Nat} (hi : i < (m.said.map (·.node)).length) (h : (m.said.map (·.node))[i] < 0 ∨ n ≤ (m.said.map (·.node))[i] ∨ ∃ j, ∃ hj : j + 1 = i, (m.said.map (·.node))[i] ≤ (m.said.map (·.node))[j]'(by omega)) : saidB n m = false := by
  unfold saidB
  rw [placesB_no hi h, Bool.and_false]
def mayRB (n : Int) (m : FrM) : Bool := placesB n m.op && risB m.tips && decide (m.tips.length ≤ 32) && saidB n m && phaseB m
theorem mayB_split (l : List Vd) (m : FrM) : mayB l m = (decide (chk l = 0) && mayRB l.length m) := by
  unfold mayB mayRB
  simp only [Bool.and_assoc]
theorem phaseB_lo {m : FrM} (h : m.phase < 1) : phaseB m = false := by
  unfold phaseB
  rw [if_neg (by omega), if_neg (by omega), if_neg (by omega)]
theorem phaseB_hi {m : FrM} (h : 3 < m.phase) : phaseB m = false := by
  unfold phaseB
  rw [if_neg (by omega), if_neg (by omega), if_neg (by omega)]
theorem phaseB_o {m : FrM} (h : m.op.length = 0) (h3 : ¬ m.phase = 3) : phaseB m = false := by
  unfold phaseB
  rw [if_neg h3]
  simp [h]
theorem phaseB_3 {m : FrM} (h : ¬ m.op.length = 0) (h3 : m.phase = 3) : phaseB m = false := by
  unfold phaseB
  rw [if_neg (by omega), if_neg (by omega), if_pos h3]
  simp [h]
theorem placesB_pw {n : Int} {l : List Int} (h : ¬ l.Pairwise (· < ·)) : placesB n l = false := by
  unfold placesB
  simp [h]
set_option maxRecDepth 100000 in
set_option maxHeartbeats 8000000 in
/-- the reference's may -/
theorem may_ref (w : World) (la : Option Addr) (ln lc : Nat) (d : FrD) (m : FrM) (h : FrAt w d m) (hol : m.op.length ≤ 4096) (htl : m.tips.length ≤ 1048576) (hlen : m.said.length ≤ 4096) (hids : ∀ s ∈ m.said, s.ids.length ≤ 1048576) :
    Calls Tryz.prog 53 #[.slice la ln lc, frV d] w fun e w' => e = .returned (.bool (mayRB ln m)) ∧ Below w.heap.size w w' := by
  have hb0 : Below w.heap.size w (w.alloc (.cells (frC d) 27)) := (Below.refl _ w).alloc (Nat.le_refl _) _
  have o1 := fr_box w d
  have hzz : (w.alloc (.cells (frC d) 27)).heap.size = w.heap.size + 1 := by simp
  have HF := Lib.hid (h.below hb0)
  obtain ⟨rows, hr, hat⟩ := HF.out.said
  have hrn := hr.n
  have hon := h.op.n
  have htn := h.tips.n
  have hdp := h.phase
  obtain ⟨dp, doa, don, doc, dta, dtn, dtc, dsa, dsn, dsc⟩ := d
  simp only at hrn hon htn hdp
  subst hrn hon htn hdp
  obtain ⟨oa1, oc1, e1, k1, k2, k3⟩ := HF.out.op
  injection e1 with e1 _ e2
  subst e1 e2
  obtain ⟨oa2, oc2, e1, g1, g2, g3⟩ := hr
  injection e1 with e1 _ e2
  subst e1 e2
  unfold maxLen at g2 k2
  have K3 := Lib.hid k3
  have G3 := Lib.hid g3
  have HAT := Lib.hid hat
  have HIDS := Lib.hid hids
  have HRL : Hid (rows.length = m.said.length) := Lib.hid hat.1
  have hrl : rows.length ≤ 4096 := by rw [HRL.out]; exact hlen
  have HE : Hid (mayRB ln m = (placesB ln m.op && risB m.tips && decide (m.tips.length ≤ 32) && saidB ln m && phaseB m)) := Lib.hid rfl
  generalize mayRB ln m = T at *
  have HNS : Hid (saidB ln m = false → T = false) := Lib.hid (fun h => by rw [HE.out, h]; simp)
  have HNO : Hid (placesB ln m.op = false → T = false) := Lib.hid (fun h => by rw [HE.out, h]; simp)
  have HNT : Hid (risB m.tips = false → T = false) := Lib.hid (fun h => by rw [HE.out, h]; simp)
  have HN32 : Hid (¬ m.tips.length ≤ 32 → T = false) := Lib.hid (fun h => by rw [HE.out, decide_eq_false h]; simp)
  have HNF : Hid (phaseB m = false → T = false) := Lib.hid (fun h => by rw [HE.out, h]; simp)
  have HYES : Hid (placesB ln m.op = true → risB m.tips = true → m.tips.length ≤ 32 → saidB ln m = true → T = phaseB m) := Lib.hid (fun a b c d => by rw [HE.out, a, b, decide_eq_true c, d]; rfl)
  have O1 := Lib.hid o1
  have B0 := Lib.hid hb0
  have HZ := Lib.hid hzz
  have HRI := Lib.hid (risesInts_any _ _ m.op HF.out.op hol)
  have HLN := Lib.hid hlen
  clear h hb0 o1 hzz hat g3 k3 hids HE hlen
  have x0 := cell_at O1.out 0
  have x1 := cell_at O1.out 1
  have x2 := cell_at O1.out 2
  simp at x0 x1 x2
  by_cases h1 : m.phase < 1
  · obtain rfl : T = false := HNF.out (phaseB_lo h1)
    go_enter Tryz.func53, Tryz.ntmps53
    go_wp2_with fail
    go_ret
    exact ⟨rfl, B0.out⟩
  by_cases h3 : 3 < m.phase
  · obtain rfl : T = false := HNF.out (phaseB_hi h3)
    go_enter Tryz.func53, Tryz.ntmps53
    go_wp2_with fail
    go_ret
    exact ⟨rfl, B0.out⟩
  have H1 := Lib.hid h1
  have H3 := Lib.hid h3
  go_enter Tryz.func53, Tryz.ntmps53
  go_wp2_with fail
  generalize w.alloc (.cells (frC ⟨m.phase, doa, m.op.length, doc, dta, m.tips.length, dtc, dsa, rows.length, dsc⟩) 27) = w0 at *
  have hz0 := HZ.out
  have HX0 : Hid (w.heap.size ≤ w0.heap.size) := Lib.hid (by omega)
  have HX1 : Hid (w.heap.size < w0.heap.size) := Lib.hid (by omega)
  clear x0 x1 x2
  refine HRI.out.mono ?_
  rintro e w2 ⟨rfl, b2⟩
  have hz2 := b2.size
  have O2 := Lib.hid ((obj_below b2 (lt_of_obj O1.out)).trans O1.out)
  have B2 : Hid (Below w0.heap.size w0 w2) := Lib.hid b2
  have hx2 := lt_of_obj O2.out
  clear b2 HRI
  have x0 := cell_at O2.out 0
  have x1 := cell_at O2.out 1
  have x2 := cell_at O2.out 2
  simp at x0 x1 x2
  by_cases hpw : m.op.Pairwise (· < ·)
  case neg =>
    obtain rfl : T = false := HNO.out (placesB_pw hpw)
    have hd : decide (m.op.Pairwise (· < ·)) = false := decide_eq_false hpw
    generalize decide (m.op.Pairwise (· < ·)) = D at *
    subst hd
    clear hpw
    go_wp2_with fail
    go_ret
    exact ⟨rfl, B0.out.trans (B2.out.mono HX0.out)⟩
  have HPW := Lib.hid hpw
  have hd : decide (m.op.Pairwise (· < ·)) = true := decide_eq_true hpw
  generalize decide (m.op.Pairwise (· < ·)) = D at *
  subst hd
  clear hpw
  by_cases ho : m.op.length = 0
  · have hoB : ((m.op.length : Int) == 0) = true := by simp [ho]
    by_cases hp3 : m.phase = 3
    case neg =>
      obtain rfl : T = false := HNF.out (phaseB_o ho hp3)
      have hpB : (m.phase == 3) = false := by simp [hp3]
      go_wp2_with fail
      go_ret
      exact ⟨rfl, B0.out.trans (B2.out.mono HX0.out)⟩
    have hpB : (m.phase == 3) = true := by simp [hp3]
    have HP3 := Lib.hid hp3
    have HO := Lib.hid ho
    have HRT := Lib.hid (rises_any w2 (.slice dta m.tips.length dtc) m.tips (HF.out.tips.below B2.out) htl)
    go_wp2_with fail
    clear ho hoB hp3 hpB
    clear x0 x1 x2 h1 h3
    refine HRT.out.mono ?_
    rintro e w3 ⟨rfl, b3⟩
    have hz3 := b3.size
    have O3 := Lib.hid ((obj_below b3 hx2).trans O2.out)
    have B3 : Hid (Below w0.heap.size w0 w3) := Lib.hid (B2.out.trans (b3.mono B2.out.size))
    have hx3 := lt_of_obj O3.out
    clear b3 HRT
    have x1 := cell_at O3.out 1
    have x2 := cell_at O3.out 2
    simp at x1 x2
    cases hrb : risB m.tips with
    | false =>
      obtain rfl : T = false := HNT.out hrb
      go_wp2_with fail
      go_ret
      exact ⟨rfl, B0.out.trans (B3.out.mono HX0.out)⟩
    | true =>
      have HRT := Lib.hid hrb
      clear hrb
      by_cases h32 : m.tips.length ≤ 32
      case neg =>
        obtain rfl : T = false := HN32.out h32
        have hi32 : (32 : Int) < m.tips.length := by omega
        clear h32
        go_wp2_with fail
        go_ret
        exact ⟨rfl, B0.out.trans (B3.out.mono HX0.out)⟩
      have hi32 : ¬ (32 : Int) < m.tips.length := by omega
      have H32 := Lib.hid h32
      clear h32
      have hx0 : w.heap.size ≤ w0.heap.size := HX0.out
      have hx1 : w.heap.size < w0.heap.size := HX1.out
      go_wp2_with fail
      clear x1 x2
      go_loopw [5] (fun v5 wr => ∃ k : Nat, k ≤ m.op.length ∧ v5 = .int .i64 k ∧ Hid (∀ j (hj : j < m.op.length), j < k → 0 ≤ m.op[j] ∧ m.op[j] < (ln : Int)) ∧ Hid (Below w0.heap.size w0 wr)) (fun i _ => m.op.length - (intOf i).toNat)
      case atStart => exact ⟨0, Nat.zero_le _, rfl, Lib.hid (fun j hj h => by omega), B3⟩
      case round =>
        obtain ⟨k, hk, rfl, HM, HB⟩ := hrel
        have hz := HB.out.size
        have OX := Lib.hid ((obj_below HB.out hx1).trans O1.out)
        have hbx := lt_of_obj OX.out
        have x1 := cell_at OX.out 1
        have x3 := cell_at OX.out 3
        simp at x1 x3
        by_cases hlt : k < m.op.length
        · obtain ⟨b, off, rfl, hbb, hrow⟩ := K3.out (by omega)
          have hs1 := hrow k hlt
          rw [← obj_below HB.out hbb] at hs1
          have hbl : b < wr.heap.size := by omega
          have cx := int_row_cell (w := w) hlt hs1
          have hki : (k : Int) < m.op.length := by omega
          have HNX : Hid (0 ≤ m.op[k] → m.op[k] < (ln : Int) → ∀ j (hj : j < m.op.length), j < k + 1 → 0 ≤ m.op[j] ∧ m.op[j] < (ln : Int)) := Lib.hid (fun a1 a2 j hj hjk => by
            by_cases e : j = k
            · subst e; exact ⟨a1, a2⟩
            · exact HM.out j hj (by omega))
          have HNN : Hid (m.op[k] < 0 ∨ (ln : Int) ≤ m.op[k] → T = false) := Lib.hid (fun h => HNO.out (placesB_no hlt (by
            rcases h with h | h
            · exact .inl h
            · exact .inr (.inl h))))
          generalize m.op[k] = x at *
          clear hs1 hrow
          by_cases h0 : x < 0
          · obtain rfl : T = false := HNN.out (.inl h0)
            go_wp2_with fail
            go_ret
            exact ⟨rfl, B0.out.trans (HB.out.mono hx0)⟩
          by_cases h1 : (ln : Int) ≤ x
          · obtain rfl : T = false := HNN.out (.inr h1)
            go_wp2_with fail
            go_ret
            exact ⟨rfl, B0.out.trans (HB.out.mono hx0)⟩
          have HNY := Lib.hid (HNX.out (by omega) (by omega))
          go_wp2_with fail
          go_roundw
          case rel => exact ⟨k + 1, by omega, by go_num, HNY, HB⟩
          case measure => first | exact meas_step hlt | (simp [intOf]; omega)
        · have HPO : Hid (placesB ln m.op = true) := Lib.hid (by
            unfold placesB
            rw [Bool.and_eq_true, decide_eq_true_iff, decide_eq_true_iff]
            refine ⟨fun x hx => ?_, HPW.out⟩
            obtain ⟨j, hj, rfl⟩ := List.getElem_of_mem hx
            exact HM.out j hj (by omega))
          have BR := HB
          clear HM
          go_wp2_with fail
          clear x1 x3
          go_loopw [6, 7, 8] (fun v6 _ _ wr => ∃ k : Nat, k ≤ rows.length ∧ v6 = .int .i64 k ∧ Hid (∀ j (hj : j < m.said.length), j < k → sOne m m.said[j] = true) ∧ Hid (∀ j (hj : j < m.said.length), j < k → 0 ≤ m.said[j].node ∧ m.said[j].node < (ln : Int) ∧ ∀ i, (hi : i + 1 = j) → (m.said[i]'(by omega)).node < m.said[j].node) ∧ Hid (Below w0.heap.size w0 wr)) (fun i _ _ _ => rows.length - (intOf i).toNat)
          case atStart => exact ⟨0, Nat.zero_le _, rfl, Lib.hid (fun j hj h => by omega), Lib.hid (fun j hj h => by omega), BR⟩
          case round =>
            obtain ⟨k, hk, rfl, HM, HP, HB⟩ := hrel
            have hz := HB.out.size
            have OX := Lib.hid ((obj_below HB.out hx1).trans O1.out)
            have hbx := lt_of_obj OX.out
            have x0 := cell_at OX.out 0
            have x2 := cell_at OX.out 2
            have x3 := cell_at OX.out 3
            simp at x0 x2 x3
            by_cases hlt : k < rows.length
            case neg =>
              have HSD : Hid (saidB ln m = true) := Lib.hid (by
                rw [saidB_yes fun j hj => HM.out j hj (by have := HRL.out; omega)]
                refine placesB_yes fun i hi => ?_
                have hi' : i < m.said.length := by simpa using hi
                have := HP.out i hi' (by have := HRL.out; omega)
                refine ⟨by simpa using this.1, by simpa using this.2.1, fun j hj => by simpa using this.2.2 j hj⟩)
              have HTE : Hid (T = phaseB m) := Lib.hid (HYES.out HPO.out HRT.out H32.out HSD.out)
              clear HM HP
              obtain rfl : T = true := by rw [HTE.out]; unfold phaseB; rw [HP3.out]; simp [HO.out]
              have hp3 := HP3.out
              go_wp2_with fail
              go_ret
              exact ⟨rfl, B0.out.trans (HB.out.mono hx0)⟩
            have hks : k < m.said.length := by have := HRL.out; omega
            obtain ⟨b, off, rfl, hbb, hrow⟩ := G3.out (by omega)
            have hs1 := hrow k hlt
            rw [← obj_below HB.out hbb] at hs1
            have hra := HAT.out.2 k rows[k] m.said[k] (List.getElem?_eq_getElem hlt) (List.getElem?_eq_getElem hks)
            have hil := HIDS.out m.said[k] (List.getElem_mem hks)
            have HNX : Hid (sOne m m.said[k] = true → ∀ j (hj : j < m.said.length), j < k + 1 → sOne m m.said[j] = true) := Lib.hid (fun h j hj hjk => by
              by_cases e : j = k
              · subst e; exact h
              · exact HM.out j hj (by omega))
            have HPX : Hid ((0 ≤ m.said[k].node ∧ m.said[k].node < (ln : Int) ∧ ∀ i, (hi : i + 1 = k) → (m.said[i]'(by omega)).node < m.said[k].node) → ∀ j (hj : j < m.said.length), j < k + 1 → 0 ≤ m.said[j].node ∧ m.said[j].node < (ln : Int) ∧ ∀ i, (hi : i + 1 = j) → (m.said[i]'(by omega)).node < m.said[j].node) := Lib.hid (fun h j hj hjk => by
              by_cases e : j = k
              · subst e; exact h
              · exact HP.out j hj (by omega))
            have HNN : Hid (sOne m m.said[k] = false → T = false) := Lib.hid (fun h => HNS.out (saidB_no hks h))
            have HNP : Hid ((m.said[k].node < 0 ∨ (ln : Int) ≤ m.said[k].node ∨ ∃ i, ∃ hi : i + 1 = k, m.said[k].node ≤ (m.said[i]'(by omega)).node) → T = false) := Lib.hid (fun h => HNS.out (saidB_pl (i := k) (by simpa using hks) (by
                rcases h with h | h | ⟨i, hi, h⟩
                · exact .inl (by simpa using h)
                · exact .inr (.inl (by simpa using h))
                · exact .inr (.inr ⟨i, hi, by simpa using h⟩))))
            have HPR : Hid (∀ j, (hj : j + 1 = k) → wr.cell? ⟨b, off + j * 2, none⟩ = some (.int .i64 (m.said[j]'(by omega)).node)) := Lib.hid (fun j hj => by
              have z := hrow j (by omega)
              rw [← obj_below HB.out hbb] at z
              have q := (HAT.out.2 j (rows[j]'(by omega)) (m.said[j]'(by omega)) (List.getElem?_eq_getElem (by omega)) (List.getElem?_eq_getElem (by omega))).1
              rw [← q]
              have := subOf_cell z (j := 0) (by decide)
              simpa [sdL] using this)
            generalize hsk : m.said[k] = s at *
            generalize rows[k] = r at *
            obtain ⟨rn, roa, rln, rcap⟩ := r
            obtain ⟨sn, sids⟩ := s
            obtain ⟨hr1, hr2⟩ := hra
            simp only at hr1 hr2 hil HNP HPX
            subst hr1
            have c0 : wr.cell? ⟨b, off + k * 2, none⟩ = some (.int .i64 rn) := by have := subOf_cell hs1 (j := 0) (by decide); simpa [sdL] using this
            have c1 : wr.cell? ⟨b, off + k * 2 + 1, none⟩ = some (.slice roa rln rcap) := by have := subOf_cell hs1 (j := 1) (by decide); simpa [sdL] using this
            have HSI := Lib.hid hr2
            have hbl : b < wr.heap.size := by omega
            have hki : (k : Int) < rows.length := by omega
            clear hrow hs1 hr2
            have BA : Hid (Below w0.heap.size w0 (wr.alloc (.cells #[.int .i64 rn, .slice roa rln rcap] 42))) := Lib.hid (HB.out.alloc hz _)
            have OA : Hid (obj (wr.alloc (.cells #[.int .i64 rn, .slice roa rln rcap] 42)) wr.heap.size = some (.cells #[.int .i64 rn, .slice roa rln rcap] 42 (0, 0))) := Lib.hid (obj_alloc_at _ _ _ rfl)
            have OXA := Lib.hid ((obj_alloc_past wr (.cells #[.int .i64 rn, .slice roa rln rcap] 42) _ hbx).trans OX.out)
            have HPA : Hid (∀ j, (hj : j + 1 = k) → (wr.alloc (.cells #[.int .i64 rn, .slice roa rln rcap] 42)).cell? ⟨b, off + j * 2, none⟩ = some (.int .i64 (m.said[j]'(by omega)).node)) := Lib.hid (fun j hj => (World.cell?_of_block (a := ⟨b, off + j * 2, none⟩) (obj_alloc_past wr (.cells #[.int .i64 rn, .slice roa rln rcap] 42) b hbl)).trans (HPR.out j hj))
            have hzw : (wr.alloc (.cells #[.int .i64 rn, .slice roa rln rcap] 42)).heap.size = wr.heap.size + 1 := by simp
            go_wp2_with fail
            have aa0 := cell_at OA.out 0
            have aa1 := cell_at OA.out 1
            have ax1 := cell_at OXA.out 1
            have ax3 := cell_at OXA.out 3
            have hwz := lt_of_obj OA.out
            have hwx := lt_of_obj OXA.out
            have hwb : b < (wr.alloc (.cells #[.int .i64 rn, .slice roa rln rcap] 42)).heap.size := by omega
            have hzz : w0.heap.size ≤ (wr.alloc (.cells #[.int .i64 rn, .slice roa rln rcap] 42)).heap.size := by omega
            clear hzw x0 x2 x3 c0 c1 HPR
            generalize wr.alloc (.cells #[.int .i64 rn, .slice roa rln rcap] 42) = wa at *
            generalize wr.heap.size = za at *
            simp at aa0 aa1 ax1 ax3
            by_cases hn0 : rn < 0
            · obtain rfl : T = false := HNP.out (.inl hn0)
              have hd0 : decide (rn < 0) = true := decide_eq_true hn0
              clear hn0
              refine wp_region_later wa (Below.refl _ _) (by kernel_rfl) (by kernel_rfl) ?_
              repeat (go_big_quiet_step (fail))
              refine wpQuiet_nil ?_
              intro _ hx
              obtain ⟨⟨wb, bb⟩, hx⟩ := hx
              subst hx
              rename_i wb
              have BB : Hid (Below w0.heap.size w0 wb) := Lib.hid (BA.out.trans (bb.mono (by omega)))
              clear bb
              go_wp2_with fail
              go_ret
              exact ⟨rfl, B0.out.trans (BB.out.mono hx0)⟩
            have hd0 : decide (rn < 0) = false := decide_eq_false hn0
            by_cases hn1 : (ln : Int) ≤ rn
            · obtain rfl : T = false := HNP.out (.inr (.inl hn1))
              have hd1 : decide ((ln : Int) ≤ rn) = true := decide_eq_true hn1
              clear hn1 hn0
              refine wp_region_later wa (Below.refl _ _) (by kernel_rfl) (by kernel_rfl) ?_
              repeat (go_big_quiet_step (fail))
              refine wpQuiet_nil ?_
              intro _ hx
              obtain ⟨⟨wb, bb⟩, hx⟩ := hx
              subst hx
              rename_i wb
              have BB : Hid (Below w0.heap.size w0 wb) := Lib.hid (BA.out.trans (bb.mono (by omega)))
              clear bb
              go_wp2_with fail
              go_ret
              exact ⟨rfl, B0.out.trans (BB.out.mono hx0)⟩
            have hd1 : decide ((ln : Int) ≤ rn) = false := decide_eq_false hn1
            have HN0 := Lib.hid hn0
            have HN1 := Lib.hid hn1
            clear hn0 hn1
            have HPN0 : Hid (¬ 0 < k → 0 ≤ rn ∧ rn < (ln : Int) ∧ ∀ i, (hi : i + 1 = k) → (m.said[i]'(by omega)).node < rn) := Lib.hid (fun h0 => ⟨by have := HN0.out; omega, by have := HN1.out; omega, fun i hi => by omega⟩)
            by_cases hk0 : 0 < k
            · obtain ⟨pj, rfl⟩ : ∃ pj, k = pj + 1 := ⟨k - 1, by omega⟩
              have cp := HPA.out pj rfl
              have hdk : decide ((0 : Int) < ((pj + 1 : Nat) : Int)) = true := decide_eq_true (by omega)
              have hw := wrapN pj (by omega)
              have hjr : (pj : Int) < rows.length := by omega
              have HPV : Hid (m.said[pj].node < rn → 0 ≤ rn ∧ rn < (ln : Int) ∧ ∀ i, (hi : i + 1 = pj + 1) → (m.said[i]'(by omega)).node < rn) := Lib.hid (fun h => ⟨by have := HN0.out; omega, by have := HN1.out; omega, fun i hi => by
                obtain rfl : i = pj := by omega
                exact h⟩)
              have HPW : Hid (rn ≤ m.said[pj].node → T = false) := Lib.hid (fun h => HNP.out (.inr (.inr ⟨pj, rfl, h⟩)))
              generalize m.said[pj].node = pn at *
              by_cases hpn : rn ≤ pn
              · obtain rfl : T = false := HPW.out hpn
                have hdp : decide (rn ≤ pn) = true := decide_eq_true hpn
                clear hpn
                refine wp_region_later wa (Below.refl _ _) (by kernel_rfl) (by kernel_rfl) ?_
                repeat (go_big_quiet_step (fail))
                refine wpQuiet_nil ?_
                intro _ hx
                obtain ⟨⟨wb, bb⟩, hx⟩ := hx
                subst hx
                rename_i wb
                have BB : Hid (Below w0.heap.size w0 wb) := Lib.hid (BA.out.trans (bb.mono (by omega)))
                clear bb
                go_wp2_with fail
                go_ret
                exact ⟨rfl, B0.out.trans (BB.out.mono hx0)⟩
              have hdp : decide (rn ≤ pn) = false := decide_eq_false hpn
              have HPN := Lib.hid (HPV.out (by omega))
              clear hpn
              by_cases hno : rn ∈ m.op
              · obtain rfl : T = false := HNN.out (by unfold sOne; simp [hno])
                have HI : Hid (∀ z : Later wa, Calls Tryz.prog 38 #[.slice doa m.op.length doc, .int .i64 rn] z.w fun e w' => e = .returned (.bool true) ∧ Below z.w.heap.size z.w w') := Lib.hid (fun z => (hasInt_any z.w _ m.op rn ((HF.out.op.below BA.out).below z.h)).mono fun e w' h => by rw [h.1, h.2, decide_eq_true hno]; exact ⟨rfl, Below.refl _ _⟩)
                refine wp_region_later wa (Below.refl _ _) (by kernel_rfl) (by kernel_rfl) ?_
                repeat (go_big_quiet_step (first | (go_at_call 38; with_reducible exact Calls.later (HI.out _))))
                refine wpQuiet_nil ?_
                intro _ hx
                obtain ⟨⟨wb, bb⟩, hx⟩ := hx
                subst hx
                rename_i wb
                have BB : Hid (Below w0.heap.size w0 wb) := Lib.hid (BA.out.trans (bb.mono (by omega)))
                clear bb
                go_wp2_with fail
                go_ret
                exact ⟨rfl, B0.out.trans (BB.out.mono hx0)⟩
              · have HI : Hid (∀ z : Later wa, Calls Tryz.prog 38 #[.slice doa m.op.length doc, .int .i64 rn] z.w fun e w' => e = .returned (.bool false) ∧ Below z.w.heap.size z.w w') := Lib.hid (fun z => (hasInt_any z.w _ m.op rn ((HF.out.op.below BA.out).below z.h)).mono fun e w' h => by rw [h.1, h.2, decide_eq_false hno]; exact ⟨rfl, Below.refl _ _⟩)
                have HSO : Hid (sOne m ⟨rn, sids⟩ = (risB sids && sids.all fun id => decide (id ∈ m.tips))) := Lib.hid (by unfold sOne; simp [hno])
                have HR : Hid (∀ z : Later wa, Calls Tryz.prog 77 #[.slice roa rln rcap] z.w fun e w' => e = .returned (.bool (risB sids)) ∧ Below z.w.heap.size z.w w') := Lib.hid (fun z => rises_any z.w _ sids ((HSI.out.below BA.out).below z.h) hil)
                clear hno
                refine wp_region_later wa (Below.refl _ _) (by kernel_rfl) (by kernel_rfl) ?_
                repeat (go_big_quiet_step (first | (go_at_call 38; with_reducible exact Calls.later (HI.out _)) | (go_at_call 77; with_reducible exact Calls.later (HR.out _))))
                refine wpQuiet_nil ?_
                intro _ hx
                obtain ⟨⟨wb, bb⟩, hx⟩ := hx
                subst hx
                rename_i wb
                have BB : Hid (Below w0.heap.size w0 wb) := Lib.hid (BA.out.trans (bb.mono (by omega)))
                have OXB := Lib.hid ((obj_below bb hwx).trans OXA.out)
                have OAB := Lib.hid ((obj_below bb hwz).trans OA.out)
                have hzb := bb.size
                clear bb HI HR
                cases hrs : risB sids with
                | false =>
                  obtain rfl : T = false := HNN.out (by rw [HSO.out, hrs]; rfl)
                  go_wp2_with fail
                  go_ret
                  exact ⟨rfl, B0.out.trans (BB.out.mono hx0)⟩
                | true =>
                  have HRS := Lib.hid hrs
                  have ab1 := cell_at OAB.out 1
                  have hwb : za < wb.heap.size := by omega
                  have hwy : w.heap.size < wb.heap.size := by omega
                  simp at ab1
                  obtain ⟨sa2, sc2, e2, q1, q2, q3⟩ := HSI.out
                  injection e2 with e2 e3 e4
                  subst e2 e3 e4
                  have Q3 := Lib.hid q3
                  unfold maxLen at q2
                  clear q3 hrs aa0 aa1
                  go_wp2_with fail
                  go_loopw [8] (fun v8 wr => ∃ j : Nat, j ≤ sids.length ∧ v8 = .int .i64 j ∧ Hid (∀ i (hi : i < sids.length), i < j → sids[i] ∈ m.tips) ∧ Hid (Below wb.heap.size wb wr)) (fun i _ => sids.length - (intOf i).toNat)
                  case atStart => exact ⟨0, Nat.zero_le _, rfl, Lib.hid (fun i hi h => by omega), Lib.hid (Below.refl _ _)⟩
                  case round =>
                    obtain ⟨j, hj, rfl, HMJ, HBJ⟩ := hrel
                    have hzj := HBJ.out.size
                    have OXJ := Lib.hid ((obj_below HBJ.out hwy).trans OXB.out)
                    have OAJ := Lib.hid ((obj_below HBJ.out hwb).trans OAB.out)
                    have BJ : Hid (Below w0.heap.size w0 wr) := Lib.hid (BB.out.trans (HBJ.out.mono (by omega)))
                    have hxl := lt_of_obj OXJ.out
                    have hal := lt_of_obj OAJ.out
                    have aj1 := cell_at OAJ.out 1
                    have xj2 := cell_at OXJ.out 2
                    simp at aj1 xj2
                    by_cases hjl : j < sids.length
                    case neg =>
                      have HALL : Hid (sOne m ⟨rn, sids⟩ = true) := Lib.hid (by
                        rw [HSO.out, HRS.out, Bool.true_and, List.all_eq_true]
                        intro x hx
                        obtain ⟨i, hi, rfl⟩ := List.getElem_of_mem hx
                        exact decide_eq_true (HMJ.out i hi (by omega)))
                      have HM2 := Lib.hid (HNX.out HALL.out)
                      have HP2 := Lib.hid (HPX.out HPN.out)
                      go_wp2_with fail
                      go_roundw
                      case rel => exact ⟨pj + 1 + 1, by omega, by go_num, HM2, HP2, BJ⟩
                      case measure => simp [intOf]; omega
                    obtain ⟨bi, oi, rfl, hbi, hri⟩ := Q3.out (by omega)
                    have hsi := hri j hjl
                    rw [← obj_below BJ.out hbi] at hsi
                    have hbil : bi < wr.heap.size := by omega
                    have HNJ : Hid (sids[j] ∈ m.tips → ∀ i (hi : i < sids.length), i < j + 1 → sids[i] ∈ m.tips) := Lib.hid (fun h i hi hij => by
                      by_cases e : i = j
                      · subst e; exact h
                      · exact HMJ.out i hi (by omega))
                    have HNF : Hid (sids[j] ∉ m.tips → sOne m ⟨rn, sids⟩ = false) := Lib.hid (fun h => by
                      rw [HSO.out]
                      have : (sids.all fun id => decide (id ∈ m.tips)) = false := List.all_eq_false.2 ⟨_, List.getElem_mem hjl, by simp [h]⟩
                      rw [this, Bool.and_false])
                    have hji : (j : Int) < sids.length := by omega
                    generalize sids[j] = x at *
                    have HL : Hid (∀ z : Later wr, Calls Tryz.prog 43 #[.slice dta m.tips.length dtc, .agg (idL x).toArray] z.w fun e w' => e = .returned (.bool (decide (x ∈ m.tips))) ∧ Below z.w.heap.size z.w w') := Lib.hid (fun z => has_any z.w _ m.tips x ((HF.out.tips.below BJ.out).below z.h))
                    clear hri
                    go_wp2_with fail
                    refine wp_region_later wr (Below.refl _ _) (by kernel_rfl) (by kernel_rfl) ?_
                    repeat (go_big_quiet_step (first | (go_at_call 43; with_reducible exact Calls.later (HL.out _))))
                    refine wpQuiet_nil ?_
                    intro _ hx
                    obtain ⟨⟨wc, bc⟩, hx⟩ := hx
                    subst hx
                    rename_i wc
                    have BC : Hid (Below wb.heap.size wb wc) := Lib.hid (HBJ.out.trans (bc.mono (by omega)))
                    have BCW : Hid (Below w0.heap.size w0 wc) := Lib.hid (BJ.out.trans (bc.mono (by omega)))
                    clear bc HL
                    by_cases hin : x ∈ m.tips
                    · have hd2 : decide (x ∈ m.tips) = true := decide_eq_true hin
                      have HNY := Lib.hid (HNJ.out hin)
                      generalize decide (x ∈ m.tips) = D at *
                      subst hd2
                      clear hin
                      go_wp2_with fail
                      go_roundw
                      case rel => exact ⟨j + 1, by omega, by go_num, HNY, BC⟩
                      case measure => simp [intOf]; omega
                    · have hd2 : decide (x ∈ m.tips) = false := decide_eq_false hin
                      obtain rfl : T = false := HNN.out (HNF.out hin)
                      generalize decide (x ∈ m.tips) = D at *
                      subst hd2
                      clear hin
                      go_wp2_with fail
                      go_ret
                      exact ⟨rfl, B0.out.trans (BCW.out.mono hx0)⟩
            · have hdk : decide ((0 : Int) < (k : Int)) = false := decide_eq_false (by omega)
              have hdk' : decide (0 < k) = false := decide_eq_false hk0
              have HPN := Lib.hid (HPN0.out hk0)
              clear hk0
              by_cases hno : rn ∈ m.op
              · obtain rfl : T = false := HNN.out (by unfold sOne; simp [hno])
                have HI : Hid (∀ z : Later wa, Calls Tryz.prog 38 #[.slice doa m.op.length doc, .int .i64 rn] z.w fun e w' => e = .returned (.bool true) ∧ Below z.w.heap.size z.w w') := Lib.hid (fun z => (hasInt_any z.w _ m.op rn ((HF.out.op.below BA.out).below z.h)).mono fun e w' h => by rw [h.1, h.2, decide_eq_true hno]; exact ⟨rfl, Below.refl _ _⟩)
                refine wp_region_later wa (Below.refl _ _) (by kernel_rfl) (by kernel_rfl) ?_
                repeat (go_big_quiet_step (first | (go_at_call 38; with_reducible exact Calls.later (HI.out _))))
                refine wpQuiet_nil ?_
                intro _ hx
                obtain ⟨⟨wb, bb⟩, hx⟩ := hx
                subst hx
                rename_i wb
                have BB : Hid (Below w0.heap.size w0 wb) := Lib.hid (BA.out.trans (bb.mono (by omega)))
                clear bb
                go_wp2_with fail
                go_ret
                exact ⟨rfl, B0.out.trans (BB.out.mono hx0)⟩
              · have HI : Hid (∀ z : Later wa, Calls Tryz.prog 38 #[.slice doa m.op.length doc, .int .i64 rn] z.w fun e w' => e = .returned (.bool false) ∧ Below z.w.heap.size z.w w') := Lib.hid (fun z => (hasInt_any z.w _ m.op rn ((HF.out.op.below BA.out).below z.h)).mono fun e w' h => by rw [h.1, h.2, decide_eq_false hno]; exact ⟨rfl, Below.refl _ _⟩)
                have HSO : Hid (sOne m ⟨rn, sids⟩ = (risB sids && sids.all fun id => decide (id ∈ m.tips))) := Lib.hid (by unfold sOne; simp [hno])
                have HR : Hid (∀ z : Later wa, Calls Tryz.prog 77 #[.slice roa rln rcap] z.w fun e w' => e = .returned (.bool (risB sids)) ∧ Below z.w.heap.size z.w w') := Lib.hid (fun z => rises_any z.w _ sids ((HSI.out.below BA.out).below z.h) hil)
                clear hno
                refine wp_region_later wa (Below.refl _ _) (by kernel_rfl) (by kernel_rfl) ?_
                repeat (go_big_quiet_step (first | (go_at_call 38; with_reducible exact Calls.later (HI.out _)) | (go_at_call 77; with_reducible exact Calls.later (HR.out _))))
                refine wpQuiet_nil ?_
                intro _ hx
                obtain ⟨⟨wb, bb⟩, hx⟩ := hx
                subst hx
                rename_i wb
                have BB : Hid (Below w0.heap.size w0 wb) := Lib.hid (BA.out.trans (bb.mono (by omega)))
                have OXB := Lib.hid ((obj_below bb hwx).trans OXA.out)
                have OAB := Lib.hid ((obj_below bb hwz).trans OA.out)
                have hzb := bb.size
                clear bb HI HR
                cases hrs : risB sids with
                | false =>
                  obtain rfl : T = false := HNN.out (by rw [HSO.out, hrs]; rfl)
                  go_wp2_with fail
                  go_ret
                  exact ⟨rfl, B0.out.trans (BB.out.mono hx0)⟩
                | true =>
                  have HRS := Lib.hid hrs
                  have ab1 := cell_at OAB.out 1
                  have hwb : za < wb.heap.size := by omega
                  have hwy : w.heap.size < wb.heap.size := by omega
                  simp at ab1
                  obtain ⟨sa2, sc2, e2, q1, q2, q3⟩ := HSI.out
                  injection e2 with e2 e3 e4
                  subst e2 e3 e4
                  have Q3 := Lib.hid q3
                  unfold maxLen at q2
                  clear q3 hrs aa0 aa1
                  go_wp2_with fail
                  go_loopw [8] (fun v8 wr => ∃ j : Nat, j ≤ sids.length ∧ v8 = .int .i64 j ∧ Hid (∀ i (hi : i < sids.length), i < j → sids[i] ∈ m.tips) ∧ Hid (Below wb.heap.size wb wr)) (fun i _ => sids.length - (intOf i).toNat)
                  case atStart => exact ⟨0, Nat.zero_le _, rfl, Lib.hid (fun i hi h => by omega), Lib.hid (Below.refl _ _)⟩
                  case round =>
                    obtain ⟨j, hj, rfl, HMJ, HBJ⟩ := hrel
                    have hzj := HBJ.out.size
                    have OXJ := Lib.hid ((obj_below HBJ.out hwy).trans OXB.out)
                    have OAJ := Lib.hid ((obj_below HBJ.out hwb).trans OAB.out)
                    have BJ : Hid (Below w0.heap.size w0 wr) := Lib.hid (BB.out.trans (HBJ.out.mono (by omega)))
                    have hxl := lt_of_obj OXJ.out
                    have hal := lt_of_obj OAJ.out
                    have aj1 := cell_at OAJ.out 1
                    have xj2 := cell_at OXJ.out 2
                    simp at aj1 xj2
                    by_cases hjl : j < sids.length
                    case neg =>
                      have HALL : Hid (sOne m ⟨rn, sids⟩ = true) := Lib.hid (by
                        rw [HSO.out, HRS.out, Bool.true_and, List.all_eq_true]
                        intro x hx
                        obtain ⟨i, hi, rfl⟩ := List.getElem_of_mem hx
                        exact decide_eq_true (HMJ.out i hi (by omega)))
                      have HM2 := Lib.hid (HNX.out HALL.out)
                      have HP2 := Lib.hid (HPX.out HPN.out)
                      go_wp2_with fail
                      go_roundw
                      case rel => exact ⟨k + 1, by omega, by go_num, HM2, HP2, BJ⟩
                      case measure => simp [intOf]; omega
                    obtain ⟨bi, oi, rfl, hbi, hri⟩ := Q3.out (by omega)
                    have hsi := hri j hjl
                    rw [← obj_below BJ.out hbi] at hsi
                    have hbil : bi < wr.heap.size := by omega
                    have HNJ : Hid (sids[j] ∈ m.tips → ∀ i (hi : i < sids.length), i < j + 1 → sids[i] ∈ m.tips) := Lib.hid (fun h i hi hij => by
                      by_cases e : i = j
                      · subst e; exact h
                      · exact HMJ.out i hi (by omega))
                    have HNF : Hid (sids[j] ∉ m.tips → sOne m ⟨rn, sids⟩ = false) := Lib.hid (fun h => by
                      rw [HSO.out]
                      have : (sids.all fun id => decide (id ∈ m.tips)) = false := List.all_eq_false.2 ⟨_, List.getElem_mem hjl, by simp [h]⟩
                      rw [this, Bool.and_false])
                    have hji : (j : Int) < sids.length := by omega
                    generalize sids[j] = x at *
                    have HL : Hid (∀ z : Later wr, Calls Tryz.prog 43 #[.slice dta m.tips.length dtc, .agg (idL x).toArray] z.w fun e w' => e = .returned (.bool (decide (x ∈ m.tips))) ∧ Below z.w.heap.size z.w w') := Lib.hid (fun z => has_any z.w _ m.tips x ((HF.out.tips.below BJ.out).below z.h))
                    clear hri
                    go_wp2_with fail
                    refine wp_region_later wr (Below.refl _ _) (by kernel_rfl) (by kernel_rfl) ?_
                    repeat (go_big_quiet_step (first | (go_at_call 43; with_reducible exact Calls.later (HL.out _))))
                    refine wpQuiet_nil ?_
                    intro _ hx
                    obtain ⟨⟨wc, bc⟩, hx⟩ := hx
                    subst hx
                    rename_i wc
                    have BC : Hid (Below wb.heap.size wb wc) := Lib.hid (HBJ.out.trans (bc.mono (by omega)))
                    have BCW : Hid (Below w0.heap.size w0 wc) := Lib.hid (BJ.out.trans (bc.mono (by omega)))
                    clear bc HL
                    by_cases hin : x ∈ m.tips
                    · have hd2 : decide (x ∈ m.tips) = true := decide_eq_true hin
                      have HNY := Lib.hid (HNJ.out hin)
                      generalize decide (x ∈ m.tips) = D at *
                      subst hd2
                      clear hin
                      go_wp2_with fail
                      go_roundw
                      case rel => exact ⟨j + 1, by omega, by go_num, HNY, BC⟩
                      case measure => simp [intOf]; omega
                    · have hd2 : decide (x ∈ m.tips) = false := decide_eq_false hin
                      obtain rfl : T = false := HNN.out (HNF.out hin)
                      generalize decide (x ∈ m.tips) = D at *
                      subst hd2
                      clear hin
                      go_wp2_with fail
                      go_ret
                      exact ⟨rfl, B0.out.trans (BCW.out.mono hx0)⟩
  · have hoB : ((m.op.length : Int) == 0) = false := by rw [beq_eq_false_iff_ne]; omega
    have hoN : ¬ (m.op.length : Int) = 0 := by omega
    by_cases hp3 : m.phase = 3
    · obtain rfl : T = false := HNF.out (phaseB_3 ho hp3)
      have hpB : (m.phase == 3) = true := by simp [hp3]
      go_wp2_with fail
      go_ret
      exact ⟨rfl, B0.out.trans (B2.out.mono HX0.out)⟩
    have hpB : (m.phase == 3) = false := by simp [hp3]
    have HP3 := Lib.hid hp3
    have HO := Lib.hid ho
    have HRT := Lib.hid (rises_any w2 (.slice dta m.tips.length dtc) m.tips (HF.out.tips.below B2.out) htl)
    go_wp2_with fail
    clear ho hoB hoN hp3 hpB
    clear x0 x1 x2 h1 h3
    refine HRT.out.mono ?_
    rintro e w3 ⟨rfl, b3⟩
    have hz3 := b3.size
    have O3 := Lib.hid ((obj_below b3 hx2).trans O2.out)
    have B3 : Hid (Below w0.heap.size w0 w3) := Lib.hid (B2.out.trans (b3.mono B2.out.size))
    have hx3 := lt_of_obj O3.out
    clear b3 HRT
    have x1 := cell_at O3.out 1
    have x2 := cell_at O3.out 2
    simp at x1 x2
    cases hrb : risB m.tips with
    | false =>
      obtain rfl : T = false := HNT.out hrb
      go_wp2_with fail
      go_ret
      exact ⟨rfl, B0.out.trans (B3.out.mono HX0.out)⟩
    | true =>
      have HRT := Lib.hid hrb
      clear hrb
      by_cases h32 : m.tips.length ≤ 32
      case neg =>
        obtain rfl : T = false := HN32.out h32
        have hi32 : (32 : Int) < m.tips.length := by omega
        clear h32
        go_wp2_with fail
        go_ret
        exact ⟨rfl, B0.out.trans (B3.out.mono HX0.out)⟩
      have hi32 : ¬ (32 : Int) < m.tips.length := by omega
      have H32 := Lib.hid h32
      clear h32
      have hx0 : w.heap.size ≤ w0.heap.size := HX0.out
      have hx1 : w.heap.size < w0.heap.size := HX1.out
      go_wp2_with fail
      clear x1 x2
      go_loopw [5] (fun v5 wr => ∃ k : Nat, k ≤ m.op.length ∧ v5 = .int .i64 k ∧ Hid (∀ j (hj : j < m.op.length), j < k → 0 ≤ m.op[j] ∧ m.op[j] < (ln : Int)) ∧ Hid (Below w0.heap.size w0 wr)) (fun i _ => m.op.length - (intOf i).toNat)
      case atStart => exact ⟨0, Nat.zero_le _, rfl, Lib.hid (fun j hj h => by omega), B3⟩
      case round =>
        obtain ⟨k, hk, rfl, HM, HB⟩ := hrel
        have hz := HB.out.size
        have OX := Lib.hid ((obj_below HB.out hx1).trans O1.out)
        have hbx := lt_of_obj OX.out
        have x1 := cell_at OX.out 1
        have x3 := cell_at OX.out 3
        simp at x1 x3
        by_cases hlt : k < m.op.length
        · obtain ⟨b, off, rfl, hbb, hrow⟩ := K3.out (by omega)
          have hs1 := hrow k hlt
          rw [← obj_below HB.out hbb] at hs1
          have hbl : b < wr.heap.size := by omega
          have cx := int_row_cell (w := w) hlt hs1
          have hki : (k : Int) < m.op.length := by omega
          have HNX : Hid (0 ≤ m.op[k] → m.op[k] < (ln : Int) → ∀ j (hj : j < m.op.length), j < k + 1 → 0 ≤ m.op[j] ∧ m.op[j] < (ln : Int)) := Lib.hid (fun a1 a2 j hj hjk => by
            by_cases e : j = k
            · subst e; exact ⟨a1, a2⟩
            · exact HM.out j hj (by omega))
          have HNN : Hid (m.op[k] < 0 ∨ (ln : Int) ≤ m.op[k] → T = false) := Lib.hid (fun h => HNO.out (placesB_no hlt (by
            rcases h with h | h
            · exact .inl h
            · exact .inr (.inl h))))
          generalize m.op[k] = x at *
          clear hs1 hrow
          by_cases h0 : x < 0
          · obtain rfl : T = false := HNN.out (.inl h0)
            go_wp2_with fail
            go_ret
            exact ⟨rfl, B0.out.trans (HB.out.mono hx0)⟩
          by_cases h1 : (ln : Int) ≤ x
          · obtain rfl : T = false := HNN.out (.inr h1)
            go_wp2_with fail
            go_ret
            exact ⟨rfl, B0.out.trans (HB.out.mono hx0)⟩
          have HNY := Lib.hid (HNX.out (by omega) (by omega))
          go_wp2_with fail
          go_roundw
          case rel => exact ⟨k + 1, by omega, by go_num, HNY, HB⟩
          case measure => first | exact meas_step hlt | (simp [intOf]; omega)
        · have HPO : Hid (placesB ln m.op = true) := Lib.hid (by
            unfold placesB
            rw [Bool.and_eq_true, decide_eq_true_iff, decide_eq_true_iff]
            refine ⟨fun x hx => ?_, HPW.out⟩
            obtain ⟨j, hj, rfl⟩ := List.getElem_of_mem hx
            exact HM.out j hj (by omega))
          have BR := HB
          clear HM
          go_wp2_with fail
          clear x1 x3
          go_loopw [6, 7, 8] (fun v6 _ _ wr => ∃ k : Nat, k ≤ rows.length ∧ v6 = .int .i64 k ∧ Hid (∀ j (hj : j < m.said.length), j < k → sOne m m.said[j] = true) ∧ Hid (∀ j (hj : j < m.said.length), j < k → 0 ≤ m.said[j].node ∧ m.said[j].node < (ln : Int) ∧ ∀ i, (hi : i + 1 = j) → (m.said[i]'(by omega)).node < m.said[j].node) ∧ Hid (Below w0.heap.size w0 wr)) (fun i _ _ _ => rows.length - (intOf i).toNat)
          case atStart => exact ⟨0, Nat.zero_le _, rfl, Lib.hid (fun j hj h => by omega), Lib.hid (fun j hj h => by omega), BR⟩
          case round =>
            obtain ⟨k, hk, rfl, HM, HP, HB⟩ := hrel
            have hz := HB.out.size
            have OX := Lib.hid ((obj_below HB.out hx1).trans O1.out)
            have hbx := lt_of_obj OX.out
            have x0 := cell_at OX.out 0
            have x2 := cell_at OX.out 2
            have x3 := cell_at OX.out 3
            simp at x0 x2 x3
            by_cases hlt : k < rows.length
            case neg =>
              have HSD : Hid (saidB ln m = true) := Lib.hid (by
                rw [saidB_yes fun j hj => HM.out j hj (by have := HRL.out; omega)]
                refine placesB_yes fun i hi => ?_
                have hi' : i < m.said.length := by simpa using hi
                have := HP.out i hi' (by have := HRL.out; omega)
                refine ⟨by simpa using this.1, by simpa using this.2.1, fun j hj => by simpa using this.2.2 j hj⟩)
              have HTE : Hid (T = phaseB m) := Lib.hid (HYES.out HPO.out HRT.out H32.out HSD.out)
              clear HM HP
              by_cases hp1 : m.phase = 1
              · by_cases hs0 : rows.length = 0
                · obtain rfl : T = true := by
                    have h1 := HRL.out
                    have h2 := HO.out
                    rw [HTE.out]; unfold phaseB; rw [if_pos hp1, decide_eq_true (by omega), decide_eq_true (by omega)]; rfl
                  have hs1 : (rows.length : Int) = 0 := by omega
                  have hs2 : ((rows.length : Int) == 0) = true := by simp [hs0]
                  go_wp2_with fail
                  go_ret
                  exact ⟨rfl, B0.out.trans (HB.out.mono hx0)⟩
                · obtain rfl : T = false := by
                    have h1 := HRL.out
                    rw [HTE.out]; unfold phaseB; rw [if_pos hp1, decide_eq_false (by omega)]; rfl
                  have hs1 : ¬ (rows.length : Int) = 0 := by omega
                  have hs2 : ((rows.length : Int) == 0) = false := by rw [beq_eq_false_iff_ne]; omega
                  go_wp2_with fail
                  go_ret
                  exact ⟨rfl, B0.out.trans (HB.out.mono hx0)⟩
              have hp2 : m.phase = 2 := by have := H1.out; have := H3.out; have := HP3.out; omega
              by_cases ht0 : 0 < m.tips.length
              · obtain rfl : T = true := by
                  have h2 := HO.out
                  rw [HTE.out]; unfold phaseB; rw [if_neg hp1, if_pos hp2, decide_eq_true ht0, decide_eq_true (by omega)]; rfl
                have hs1 : (0 : Int) < m.tips.length := by omega
                have hs2 : decide ((0 : Int) < m.tips.length) = true := decide_eq_true hs1
                go_wp2_with fail
                go_ret
                exact ⟨rfl, B0.out.trans (HB.out.mono hx0)⟩
              · obtain rfl : T = false := by
                  rw [HTE.out]; unfold phaseB; rw [if_neg hp1, if_pos hp2, decide_eq_false ht0]; rfl
                have hs1 : ¬ (0 : Int) < m.tips.length := by omega
                have hs2 : decide ((0 : Int) < m.tips.length) = false := decide_eq_false hs1
                go_wp2_with fail
                go_ret
                exact ⟨rfl, B0.out.trans (HB.out.mono hx0)⟩
            have hks : k < m.said.length := by have := HRL.out; omega
            obtain ⟨b, off, rfl, hbb, hrow⟩ := G3.out (by omega)
            have hs1 := hrow k hlt
            rw [← obj_below HB.out hbb] at hs1
            have hra := HAT.out.2 k rows[k] m.said[k] (List.getElem?_eq_getElem hlt) (List.getElem?_eq_getElem hks)
            have hil := HIDS.out m.said[k] (List.getElem_mem hks)
            have HNX : Hid (sOne m m.said[k] = true → ∀ j (hj : j < m.said.length), j < k + 1 → sOne m m.said[j] = true) := Lib.hid (fun h j hj hjk => by
              by_cases e : j = k
              · subst e; exact h
              · exact HM.out j hj (by omega))
            have HPX : Hid ((0 ≤ m.said[k].node ∧ m.said[k].node < (ln : Int) ∧ ∀ i, (hi : i + 1 = k) → (m.said[i]'(by omega)).node < m.said[k].node) → ∀ j (hj : j < m.said.length), j < k + 1 → 0 ≤ m.said[j].node ∧ m.said[j].node < (ln : Int) ∧ ∀ i, (hi : i + 1 = j) → (m.said[i]'(by omega)).node < m.said[j].node) := Lib.hid (fun h j hj hjk => by
              by_cases e : j = k
              · subst e; exact h
              · exact HP.out j hj (by omega))
            have HNN : Hid (sOne m m.said[k] = false → T = false) := Lib.hid (fun h => HNS.out (saidB_no hks h))
            have HNP : Hid ((m.said[k].node < 0 ∨ (ln : Int) ≤ m.said[k].node ∨ ∃ i, ∃ hi : i + 1 = k, m.said[k].node ≤ (m.said[i]'(by omega)).node) → T = false) := Lib.hid (fun h => HNS.out (saidB_pl (i := k) (by simpa using hks) (by
                rcases h with h | h | ⟨i, hi, h⟩
                · exact .inl (by simpa using h)
                · exact .inr (.inl (by simpa using h))
                · exact .inr (.inr ⟨i, hi, by simpa using h⟩))))
            have HPR : Hid (∀ j, (hj : j + 1 = k) → wr.cell? ⟨b, off + j * 2, none⟩ = some (.int .i64 (m.said[j]'(by omega)).node)) := Lib.hid (fun j hj => by
              have z := hrow j (by omega)
              rw [← obj_below HB.out hbb] at z
              have q := (HAT.out.2 j (rows[j]'(by omega)) (m.said[j]'(by omega)) (List.getElem?_eq_getElem (by omega)) (List.getElem?_eq_getElem (by omega))).1
              rw [← q]
              have := subOf_cell z (j := 0) (by decide)
              simpa [sdL] using this)
            generalize hsk : m.said[k] = s at *
            generalize rows[k] = r at *
            obtain ⟨rn, roa, rln, rcap⟩ := r
            obtain ⟨sn, sids⟩ := s
            obtain ⟨hr1, hr2⟩ := hra
            simp only at hr1 hr2 hil HNP HPX
            subst hr1
            have c0 : wr.cell? ⟨b, off + k * 2, none⟩ = some (.int .i64 rn) := by have := subOf_cell hs1 (j := 0) (by decide); simpa [sdL] using this
            have c1 : wr.cell? ⟨b, off + k * 2 + 1, none⟩ = some (.slice roa rln rcap) := by have := subOf_cell hs1 (j := 1) (by decide); simpa [sdL] using this
            have HSI := Lib.hid hr2
            have hbl : b < wr.heap.size := by omega
            have hki : (k : Int) < rows.length := by omega
            clear hrow hs1 hr2
            have BA : Hid (Below w0.heap.size w0 (wr.alloc (.cells #[.int .i64 rn, .slice roa rln rcap] 42))) := Lib.hid (HB.out.alloc hz _)
            have OA : Hid (obj (wr.alloc (.cells #[.int .i64 rn, .slice roa rln rcap] 42)) wr.heap.size = some (.cells #[.int .i64 rn, .slice roa rln rcap] 42 (0, 0))) := Lib.hid (obj_alloc_at _ _ _ rfl)
            have OXA := Lib.hid ((obj_alloc_past wr (.cells #[.int .i64 rn, .slice roa rln rcap] 42) _ hbx).trans OX.out)
            have HPA : Hid (∀ j, (hj : j + 1 = k) → (wr.alloc (.cells #[.int .i64 rn, .slice roa rln rcap] 42)).cell? ⟨b, off + j * 2, none⟩ = some (.int .i64 (m.said[j]'(by omega)).node)) := Lib.hid (fun j hj => (World.cell?_of_block (a := ⟨b, off + j * 2, none⟩) (obj_alloc_past wr (.cells #[.int .i64 rn, .slice roa rln rcap] 42) b hbl)).trans (HPR.out j hj))
            have hzw : (wr.alloc (.cells #[.int .i64 rn, .slice roa rln rcap] 42)).heap.size = wr.heap.size + 1 := by simp
            go_wp2_with fail
            have aa0 := cell_at OA.out 0
            have aa1 := cell_at OA.out 1
            have ax1 := cell_at OXA.out 1
            have ax3 := cell_at OXA.out 3
            have hwz := lt_of_obj OA.out
            have hwx := lt_of_obj OXA.out
            have hwb : b < (wr.alloc (.cells #[.int .i64 rn, .slice roa rln rcap] 42)).heap.size := by omega
            have hzz : w0.heap.size ≤ (wr.alloc (.cells #[.int .i64 rn, .slice roa rln rcap] 42)).heap.size := by omega
            clear hzw x0 x2 x3 c0 c1 HPR
            generalize wr.alloc (.cells #[.int .i64 rn, .slice roa rln rcap] 42) = wa at *
            generalize wr.heap.size = za at *
            simp at aa0 aa1 ax1 ax3
            by_cases hn0 : rn < 0
            · obtain rfl : T = false := HNP.out (.inl hn0)
              have hd0 : decide (rn < 0) = true := decide_eq_true hn0
              clear hn0
              refine wp_region_later wa (Below.refl _ _) (by kernel_rfl) (by kernel_rfl) ?_
              repeat (go_big_quiet_step (fail))
              refine wpQuiet_nil ?_
              intro _ hx
              obtain ⟨⟨wb, bb⟩, hx⟩ := hx
              subst hx
              rename_i wb
              have BB : Hid (Below w0.heap.size w0 wb) := Lib.hid (BA.out.trans (bb.mono (by omega)))
              clear bb
              go_wp2_with fail
              go_ret
              exact ⟨rfl, B0.out.trans (BB.out.mono hx0)⟩
            have hd0 : decide (rn < 0) = false := decide_eq_false hn0
            by_cases hn1 : (ln : Int) ≤ rn
            · obtain rfl : T = false := HNP.out (.inr (.inl hn1))
              have hd1 : decide ((ln : Int) ≤ rn) = true := decide_eq_true hn1
              clear hn1 hn0
              refine wp_region_later wa (Below.refl _ _) (by kernel_rfl) (by kernel_rfl) ?_
              repeat (go_big_quiet_step (fail))
              refine wpQuiet_nil ?_
              intro _ hx
              obtain ⟨⟨wb, bb⟩, hx⟩ := hx
              subst hx
              rename_i wb
              have BB : Hid (Below w0.heap.size w0 wb) := Lib.hid (BA.out.trans (bb.mono (by omega)))
              clear bb
              go_wp2_with fail
              go_ret
              exact ⟨rfl, B0.out.trans (BB.out.mono hx0)⟩
            have hd1 : decide ((ln : Int) ≤ rn) = false := decide_eq_false hn1
            have HN0 := Lib.hid hn0
            have HN1 := Lib.hid hn1
            clear hn0 hn1
            have HPN0 : Hid (¬ 0 < k → 0 ≤ rn ∧ rn < (ln : Int) ∧ ∀ i, (hi : i + 1 = k) → (m.said[i]'(by omega)).node < rn) := Lib.hid (fun h0 => ⟨by have := HN0.out; omega, by have := HN1.out; omega, fun i hi => by omega⟩)
            by_cases hk0 : 0 < k
            · obtain ⟨pj, rfl⟩ : ∃ pj, k = pj + 1 := ⟨k - 1, by omega⟩
              have cp := HPA.out pj rfl
              have hdk : decide ((0 : Int) < ((pj + 1 : Nat) : Int)) = true := decide_eq_true (by omega)
              have hw := wrapN pj (by omega)
              have hjr : (pj : Int) < rows.length := by omega
              have HPV : Hid (m.said[pj].node < rn → 0 ≤ rn ∧ rn < (ln : Int) ∧ ∀ i, (hi : i + 1 = pj + 1) → (m.said[i]'(by omega)).node < rn) := Lib.hid (fun h => ⟨by have := HN0.out; omega, by have := HN1.out; omega, fun i hi => by
                obtain rfl : i = pj := by omega
                exact h⟩)
              have HPW : Hid (rn ≤ m.said[pj].node → T = false) := Lib.hid (fun h => HNP.out (.inr (.inr ⟨pj, rfl, h⟩)))
              generalize m.said[pj].node = pn at *
              by_cases hpn : rn ≤ pn
              · obtain rfl : T = false := HPW.out hpn
                have hdp : decide (rn ≤ pn) = true := decide_eq_true hpn
                clear hpn
                refine wp_region_later wa (Below.refl _ _) (by kernel_rfl) (by kernel_rfl) ?_
                repeat (go_big_quiet_step (fail))
                refine wpQuiet_nil ?_
                intro _ hx
                obtain ⟨⟨wb, bb⟩, hx⟩ := hx
                subst hx
                rename_i wb
                have BB : Hid (Below w0.heap.size w0 wb) := Lib.hid (BA.out.trans (bb.mono (by omega)))
                clear bb
                go_wp2_with fail
                go_ret
                exact ⟨rfl, B0.out.trans (BB.out.mono hx0)⟩
              have hdp : decide (rn ≤ pn) = false := decide_eq_false hpn
              have HPN := Lib.hid (HPV.out (by omega))
              clear hpn
              by_cases hno : rn ∈ m.op
              · obtain rfl : T = false := HNN.out (by unfold sOne; simp [hno])
                have HI : Hid (∀ z : Later wa, Calls Tryz.prog 38 #[.slice doa m.op.length doc, .int .i64 rn] z.w fun e w' => e = .returned (.bool true) ∧ Below z.w.heap.size z.w w') := Lib.hid (fun z => (hasInt_any z.w _ m.op rn ((HF.out.op.below BA.out).below z.h)).mono fun e w' h => by rw [h.1, h.2, decide_eq_true hno]; exact ⟨rfl, Below.refl _ _⟩)
                refine wp_region_later wa (Below.refl _ _) (by kernel_rfl) (by kernel_rfl) ?_
                repeat (go_big_quiet_step (first | (go_at_call 38; with_reducible exact Calls.later (HI.out _))))
                refine wpQuiet_nil ?_
                intro _ hx
                obtain ⟨⟨wb, bb⟩, hx⟩ := hx
                subst hx
                rename_i wb
                have BB : Hid (Below w0.heap.size w0 wb) := Lib.hid (BA.out.trans (bb.mono (by omega)))
                clear bb
                go_wp2_with fail
                go_ret
                exact ⟨rfl, B0.out.trans (BB.out.mono hx0)⟩
              · have HI : Hid (∀ z : Later wa, Calls Tryz.prog 38 #[.slice doa m.op.length doc, .int .i64 rn] z.w fun e w' => e = .returned (.bool false) ∧ Below z.w.heap.size z.w w') := Lib.hid (fun z => (hasInt_any z.w _ m.op rn ((HF.out.op.below BA.out).below z.h)).mono fun e w' h => by rw [h.1, h.2, decide_eq_false hno]; exact ⟨rfl, Below.refl _ _⟩)
                have HSO : Hid (sOne m ⟨rn, sids⟩ = (risB sids && sids.all fun id => decide (id ∈ m.tips))) := Lib.hid (by unfold sOne; simp [hno])
                have HR : Hid (∀ z : Later wa, Calls Tryz.prog 77 #[.slice roa rln rcap] z.w fun e w' => e = .returned (.bool (risB sids)) ∧ Below z.w.heap.size z.w w') := Lib.hid (fun z => rises_any z.w _ sids ((HSI.out.below BA.out).below z.h) hil)
                clear hno
                refine wp_region_later wa (Below.refl _ _) (by kernel_rfl) (by kernel_rfl) ?_
                repeat (go_big_quiet_step (first | (go_at_call 38; with_reducible exact Calls.later (HI.out _)) | (go_at_call 77; with_reducible exact Calls.later (HR.out _))))
                refine wpQuiet_nil ?_
                intro _ hx
                obtain ⟨⟨wb, bb⟩, hx⟩ := hx
                subst hx
                rename_i wb
                have BB : Hid (Below w0.heap.size w0 wb) := Lib.hid (BA.out.trans (bb.mono (by omega)))
                have OXB := Lib.hid ((obj_below bb hwx).trans OXA.out)
                have OAB := Lib.hid ((obj_below bb hwz).trans OA.out)
                have hzb := bb.size
                clear bb HI HR
                cases hrs : risB sids with
                | false =>
                  obtain rfl : T = false := HNN.out (by rw [HSO.out, hrs]; rfl)
                  go_wp2_with fail
                  go_ret
                  exact ⟨rfl, B0.out.trans (BB.out.mono hx0)⟩
                | true =>
                  have HRS := Lib.hid hrs
                  have ab1 := cell_at OAB.out 1
                  have hwb : za < wb.heap.size := by omega
                  have hwy : w.heap.size < wb.heap.size := by omega
                  simp at ab1
                  obtain ⟨sa2, sc2, e2, q1, q2, q3⟩ := HSI.out
                  injection e2 with e2 e3 e4
                  subst e2 e3 e4
                  have Q3 := Lib.hid q3
                  unfold maxLen at q2
                  clear q3 hrs aa0 aa1
                  go_wp2_with fail
                  go_loopw [8] (fun v8 wr => ∃ j : Nat, j ≤ sids.length ∧ v8 = .int .i64 j ∧ Hid (∀ i (hi : i < sids.length), i < j → sids[i] ∈ m.tips) ∧ Hid (Below wb.heap.size wb wr)) (fun i _ => sids.length - (intOf i).toNat)
                  case atStart => exact ⟨0, Nat.zero_le _, rfl, Lib.hid (fun i hi h => by omega), Lib.hid (Below.refl _ _)⟩
                  case round =>
                    obtain ⟨j, hj, rfl, HMJ, HBJ⟩ := hrel
                    have hzj := HBJ.out.size
                    have OXJ := Lib.hid ((obj_below HBJ.out hwy).trans OXB.out)
                    have OAJ := Lib.hid ((obj_below HBJ.out hwb).trans OAB.out)
                    have BJ : Hid (Below w0.heap.size w0 wr) := Lib.hid (BB.out.trans (HBJ.out.mono (by omega)))
                    have hxl := lt_of_obj OXJ.out
                    have hal := lt_of_obj OAJ.out
                    have aj1 := cell_at OAJ.out 1
                    have xj2 := cell_at OXJ.out 2
                    simp at aj1 xj2
                    by_cases hjl : j < sids.length
                    case neg =>
                      have HALL : Hid (sOne m ⟨rn, sids⟩ = true) := Lib.hid (by
                        rw [HSO.out, HRS.out, Bool.true_and, List.all_eq_true]
                        intro x hx
                        obtain ⟨i, hi, rfl⟩ := List.getElem_of_mem hx
                        exact decide_eq_true (HMJ.out i hi (by omega)))
                      have HM2 := Lib.hid (HNX.out HALL.out)
                      have HP2 := Lib.hid (HPX.out HPN.out)
                      go_wp2_with fail
                      go_roundw
                      case rel => exact ⟨pj + 1 + 1, by omega, by go_num, HM2, HP2, BJ⟩
                      case measure => simp [intOf]; omega
                    obtain ⟨bi, oi, rfl, hbi, hri⟩ := Q3.out (by omega)
                    have hsi := hri j hjl
                    rw [← obj_below BJ.out hbi] at hsi
                    have hbil : bi < wr.heap.size := by omega
                    have HNJ : Hid (sids[j] ∈ m.tips → ∀ i (hi : i < sids.length), i < j + 1 → sids[i] ∈ m.tips) := Lib.hid (fun h i hi hij => by
                      by_cases e : i = j
                      · subst e; exact h
                      · exact HMJ.out i hi (by omega))
                    have HNF : Hid (sids[j] ∉ m.tips → sOne m ⟨rn, sids⟩ = false) := Lib.hid (fun h => by
                      rw [HSO.out]
                      have : (sids.all fun id => decide (id ∈ m.tips)) = false := List.all_eq_false.2 ⟨_, List.getElem_mem hjl, by simp [h]⟩
                      rw [this, Bool.and_false])
                    have hji : (j : Int) < sids.length := by omega
                    generalize sids[j] = x at *
                    have HL : Hid (∀ z : Later wr, Calls Tryz.prog 43 #[.slice dta m.tips.length dtc, .agg (idL x).toArray] z.w fun e w' => e = .returned (.bool (decide (x ∈ m.tips))) ∧ Below z.w.heap.size z.w w') := Lib.hid (fun z => has_any z.w _ m.tips x ((HF.out.tips.below BJ.out).below z.h))
                    clear hri
                    go_wp2_with fail
                    refine wp_region_later wr (Below.refl _ _) (by kernel_rfl) (by kernel_rfl) ?_
                    repeat (go_big_quiet_step (first | (go_at_call 43; with_reducible exact Calls.later (HL.out _))))
                    refine wpQuiet_nil ?_
                    intro _ hx
                    obtain ⟨⟨wc, bc⟩, hx⟩ := hx
                    subst hx
                    rename_i wc
                    have BC : Hid (Below wb.heap.size wb wc) := Lib.hid (HBJ.out.trans (bc.mono (by omega)))
                    have BCW : Hid (Below w0.heap.size w0 wc) := Lib.hid (BJ.out.trans (bc.mono (by omega)))
                    clear bc HL
                    by_cases hin : x ∈ m.tips
                    · have hd2 : decide (x ∈ m.tips) = true := decide_eq_true hin
                      have HNY := Lib.hid (HNJ.out hin)
                      generalize decide (x ∈ m.tips) = D at *
                      subst hd2
                      clear hin
                      go_wp2_with fail
                      go_roundw
                      case rel => exact ⟨j + 1, by omega, by go_num, HNY, BC⟩
                      case measure => simp [intOf]; omega
                    · have hd2 : decide (x ∈ m.tips) = false := decide_eq_false hin
                      obtain rfl : T = false := HNN.out (HNF.out hin)
                      generalize decide (x ∈ m.tips) = D at *
                      subst hd2
                      clear hin
                      go_wp2_with fail
                      go_ret
                      exact ⟨rfl, B0.out.trans (BCW.out.mono hx0)⟩
            · have hdk : decide ((0 : Int) < (k : Int)) = false := decide_eq_false (by omega)
              have hdk' : decide (0 < k) = false := decide_eq_false hk0
              have HPN := Lib.hid (HPN0.out hk0)
              clear hk0
              by_cases hno : rn ∈ m.op
              · obtain rfl : T = false := HNN.out (by unfold sOne; simp [hno])
                have HI : Hid (∀ z : Later wa, Calls Tryz.prog 38 #[.slice doa m.op.length doc, .int .i64 rn] z.w fun e w' => e = .returned (.bool true) ∧ Below z.w.heap.size z.w w') := Lib.hid (fun z => (hasInt_any z.w _ m.op rn ((HF.out.op.below BA.out).below z.h)).mono fun e w' h => by rw [h.1, h.2, decide_eq_true hno]; exact ⟨rfl, Below.refl _ _⟩)
                refine wp_region_later wa (Below.refl _ _) (by kernel_rfl) (by kernel_rfl) ?_
                repeat (go_big_quiet_step (first | (go_at_call 38; with_reducible exact Calls.later (HI.out _))))
                refine wpQuiet_nil ?_
                intro _ hx
                obtain ⟨⟨wb, bb⟩, hx⟩ := hx
                subst hx
                rename_i wb
                have BB : Hid (Below w0.heap.size w0 wb) := Lib.hid (BA.out.trans (bb.mono (by omega)))
                clear bb
                go_wp2_with fail
                go_ret
                exact ⟨rfl, B0.out.trans (BB.out.mono hx0)⟩
              · have HI : Hid (∀ z : Later wa, Calls Tryz.prog 38 #[.slice doa m.op.length doc, .int .i64 rn] z.w fun e w' => e = .returned (.bool false) ∧ Below z.w.heap.size z.w w') := Lib.hid (fun z => (hasInt_any z.w _ m.op rn ((HF.out.op.below BA.out).below z.h)).mono fun e w' h => by rw [h.1, h.2, decide_eq_false hno]; exact ⟨rfl, Below.refl _ _⟩)
                have HSO : Hid (sOne m ⟨rn, sids⟩ = (risB sids && sids.all fun id => decide (id ∈ m.tips))) := Lib.hid (by unfold sOne; simp [hno])
                have HR : Hid (∀ z : Later wa, Calls Tryz.prog 77 #[.slice roa rln rcap] z.w fun e w' => e = .returned (.bool (risB sids)) ∧ Below z.w.heap.size z.w w') := Lib.hid (fun z => rises_any z.w _ sids ((HSI.out.below BA.out).below z.h) hil)
                clear hno
                refine wp_region_later wa (Below.refl _ _) (by kernel_rfl) (by kernel_rfl) ?_
                repeat (go_big_quiet_step (first | (go_at_call 38; with_reducible exact Calls.later (HI.out _)) | (go_at_call 77; with_reducible exact Calls.later (HR.out _))))
                refine wpQuiet_nil ?_
                intro _ hx
                obtain ⟨⟨wb, bb⟩, hx⟩ := hx
                subst hx
                rename_i wb
                have BB : Hid (Below w0.heap.size w0 wb) := Lib.hid (BA.out.trans (bb.mono (by omega)))
                have OXB := Lib.hid ((obj_below bb hwx).trans OXA.out)
                have OAB := Lib.hid ((obj_below bb hwz).trans OA.out)
                have hzb := bb.size
                clear bb HI HR
                cases hrs : risB sids with
                | false =>
                  obtain rfl : T = false := HNN.out (by rw [HSO.out, hrs]; rfl)
                  go_wp2_with fail
                  go_ret
                  exact ⟨rfl, B0.out.trans (BB.out.mono hx0)⟩
                | true =>
                  have HRS := Lib.hid hrs
                  have ab1 := cell_at OAB.out 1
                  have hwb : za < wb.heap.size := by omega
                  have hwy : w.heap.size < wb.heap.size := by omega
                  simp at ab1
                  obtain ⟨sa2, sc2, e2, q1, q2, q3⟩ := HSI.out
                  injection e2 with e2 e3 e4
                  subst e2 e3 e4
                  have Q3 := Lib.hid q3
                  unfold maxLen at q2
                  clear q3 hrs aa0 aa1
                  go_wp2_with fail
                  go_loopw [8] (fun v8 wr => ∃ j : Nat, j ≤ sids.length ∧ v8 = .int .i64 j ∧ Hid (∀ i (hi : i < sids.length), i < j → sids[i] ∈ m.tips) ∧ Hid (Below wb.heap.size wb wr)) (fun i _ => sids.length - (intOf i).toNat)
                  case atStart => exact ⟨0, Nat.zero_le _, rfl, Lib.hid (fun i hi h => by omega), Lib.hid (Below.refl _ _)⟩
                  case round =>
                    obtain ⟨j, hj, rfl, HMJ, HBJ⟩ := hrel
                    have hzj := HBJ.out.size
                    have OXJ := Lib.hid ((obj_below HBJ.out hwy).trans OXB.out)
                    have OAJ := Lib.hid ((obj_below HBJ.out hwb).trans OAB.out)
                    have BJ : Hid (Below w0.heap.size w0 wr) := Lib.hid (BB.out.trans (HBJ.out.mono (by omega)))
                    have hxl := lt_of_obj OXJ.out
                    have hal := lt_of_obj OAJ.out
                    have aj1 := cell_at OAJ.out 1
                    have xj2 := cell_at OXJ.out 2
                    simp at aj1 xj2
                    by_cases hjl : j < sids.length
                    case neg =>
                      have HALL : Hid (sOne m ⟨rn, sids⟩ = true) := Lib.hid (by
                        rw [HSO.out, HRS.out, Bool.true_and, List.all_eq_true]
                        intro x hx
                        obtain ⟨i, hi, rfl⟩ := List.getElem_of_mem hx
                        exact decide_eq_true (HMJ.out i hi (by omega)))
                      have HM2 := Lib.hid (HNX.out HALL.out)
                      have HP2 := Lib.hid (HPX.out HPN.out)
                      go_wp2_with fail
                      go_roundw
                      case rel => exact ⟨k + 1, by omega, by go_num, HM2, HP2, BJ⟩
                      case measure => simp [intOf]; omega
                    obtain ⟨bi, oi, rfl, hbi, hri⟩ := Q3.out (by omega)
                    have hsi := hri j hjl
                    rw [← obj_below BJ.out hbi] at hsi
                    have hbil : bi < wr.heap.size := by omega
                    have HNJ : Hid (sids[j] ∈ m.tips → ∀ i (hi : i < sids.length), i < j + 1 → sids[i] ∈ m.tips) := Lib.hid (fun h i hi hij => by
                      by_cases e : i = j
                      · subst e; exact h
                      · exact HMJ.out i hi (by omega))
                    have HNF : Hid (sids[j] ∉ m.tips → sOne m ⟨rn, sids⟩ = false) := Lib.hid (fun h => by
                      rw [HSO.out]
                      have : (sids.all fun id => decide (id ∈ m.tips)) = false := List.all_eq_false.2 ⟨_, List.getElem_mem hjl, by simp [h]⟩
                      rw [this, Bool.and_false])
                    have hji : (j : Int) < sids.length := by omega
                    generalize sids[j] = x at *
                    have HL : Hid (∀ z : Later wr, Calls Tryz.prog 43 #[.slice dta m.tips.length dtc, .agg (idL x).toArray] z.w fun e w' => e = .returned (.bool (decide (x ∈ m.tips))) ∧ Below z.w.heap.size z.w w') := Lib.hid (fun z => has_any z.w _ m.tips x ((HF.out.tips.below BJ.out).below z.h))
                    clear hri
                    go_wp2_with fail
                    refine wp_region_later wr (Below.refl _ _) (by kernel_rfl) (by kernel_rfl) ?_
                    repeat (go_big_quiet_step (first | (go_at_call 43; with_reducible exact Calls.later (HL.out _))))
                    refine wpQuiet_nil ?_
                    intro _ hx
                    obtain ⟨⟨wc, bc⟩, hx⟩ := hx
                    subst hx
                    rename_i wc
                    have BC : Hid (Below wb.heap.size wb wc) := Lib.hid (HBJ.out.trans (bc.mono (by omega)))
                    have BCW : Hid (Below w0.heap.size w0 wc) := Lib.hid (BJ.out.trans (bc.mono (by omega)))
                    clear bc HL
                    by_cases hin : x ∈ m.tips
                    · have hd2 : decide (x ∈ m.tips) = true := decide_eq_true hin
                      have HNY := Lib.hid (HNJ.out hin)
                      generalize decide (x ∈ m.tips) = D at *
                      subst hd2
                      clear hin
                      go_wp2_with fail
                      go_roundw
                      case rel => exact ⟨j + 1, by omega, by go_num, HNY, BC⟩
                      case measure => simp [intOf]; omega
                    · have hd2 : decide (x ∈ m.tips) = false := decide_eq_false hin
                      obtain rfl : T = false := HNN.out (HNF.out hin)
                      generalize decide (x ∈ m.tips) = D at *
                      subst hd2
                      clear hin
                      go_wp2_with fail
                      go_ret
                      exact ⟨rfl, B0.out.trans (BCW.out.mono hx0)⟩
end Go.Proofs.YtmgpfmgmpmkkaaaGreat
