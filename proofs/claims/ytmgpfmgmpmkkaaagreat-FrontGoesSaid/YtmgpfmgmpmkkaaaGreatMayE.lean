import Derived.Test.YtmgpfmgmpmkkaaaGreatMay
namespace Go.Proofs.YtmgpfmgmpmkkaaaGreat
open Go.RowKit

def okB (l : List Vd) (m : FrM) : Bool := decide (chk l = 0) && placesB l.length m.op && risB m.tips && decide (m.tips.length ≤ 32) && saidB l.length m
theorem mayE_of {l : List Vd} {m : FrM} {a b : Bool} (h1 : okB l m = a) (h2 : phaseB m = b) : mayE l m = if (a && b) = true then 0 else 210 := by
  unfold mayE
  rw [show mayB l m = (okB l m && phaseB m) from rfl, h1, h2]
theorem mayE_no {l : List Vd} {m : FrM} (h1 : okB l m = false) : mayE l m = 210 := by
  rw [mayE_of h1 rfl]; rfl
set_option maxRecDepth 100000 in
set_option maxHeartbeats 8000000 in
/-- May -/
theorem may_any (w : World) (v : Value) (l : List Vd) (d : FrD) (m : FrM) (hl : SlIn w v 2 vdL l) (h : FrAt w d m) (ho : m.op.length ≤ 1048576) (ht : m.tips.length ≤ 1048576) (hlen : m.said.length ≤ 4096) (hids : ∀ s ∈ m.said, s.ids.length ≤ 1048576) : Calls Tryz.prog 18 #[v, frV d] w fun e w' => e = .returned (.int .i64 (mayE l m)) ∧ Below w.heap.size w w' := by
  have HF := Lib.hid h
  have HL := Lib.hid hl
  have HDS := Lib.hid hids
  have hon := h.op.n
  have htn := h.tips.n
  have hsn : d.sn = m.said.length := by obtain ⟨rows, h1, h2⟩ := h.said; exact h1.n.trans h2.1
  have hdp := h.phase
  have B0 : Hid (Below w.heap.size w (w.alloc (.cells (frC d) 27))) := Lib.hid ((Below.refl _ w).alloc (Nat.le_refl _) _)
  have OB : Hid (obj (w.alloc (.cells (frC d) 27)) w.heap.size = some (.cells (frC d) 27 (0, 0))) := Lib.hid (fr_box w d)
  obtain ⟨la, lc, rfl, _, _, _⟩ := hl
  obtain ⟨dp, doa, don, doc, dta, dtn, dtc, dsa, dsn, dsc⟩ := d
  simp only at hon htn hsn hdp
  subst hon htn hsn
  have HDP := Lib.hid hdp
  clear h hids hdp
  have HCH := fun W (hW : Below w.heap.size w W) => Lib.hid (checkA W _ l (HL.out.below hW))
  have OT := OB
  have BT := B0
  go_enter Tryz.func18, Tryz.ntmps18
  go_wp2_with fail
  generalize w.alloc (.cells (frC ⟨dp, doa, m.op.length, doc, dta, m.tips.length, dtc, dsa, m.said.length, dsc⟩) 27) = w1 at *
  refine (HCH w1 BT.out).out.mono ?_
  rintro e w2 ⟨rfl, b2⟩
  have hz1 := BT.out.size
  have BT : Hid (Below w.heap.size w w2) := Lib.hid (BT.out.trans (b2.mono (by omega)))
  have OT := Lib.hid ((obj_below b2 (lt_of_obj OT.out)).trans OT.out)
  have hz2 := b2.size
  clear b2 OB B0
  have x0 := cell_at OT.out 0
  have x1 := cell_at OT.out 1
  have x2 := cell_at OT.out 2
  have x3 := cell_at OT.out 3
  have hlt := lt_of_obj OT.out
  simp at x0 x1 x2 x3
  by_cases hk : chk l = 0
  case neg =>
    have HOK : Hid (okB l m = false) := Lib.hid (by unfold okB; simp [hk])
    by_cases hp1 : dp = 1
    · subst hp1
      have HT : Hid (mayE l m = 210) := Lib.hid (mayE_no HOK.out)
      go_wp2_with fail
      go_ret
      exact ⟨by rw [HT.out]; rfl, BT.out⟩
    by_cases hp2 : dp = 2
    · subst hp2
      have HT : Hid (mayE l m = 210) := Lib.hid (mayE_no HOK.out)
      go_wp2_with fail
      go_ret
      exact ⟨by rw [HT.out]; rfl, BT.out⟩
    by_cases hp3 : dp = 3
    · subst hp3
      have HT : Hid (mayE l m = 210) := Lib.hid (mayE_no HOK.out)
      go_wp2_with fail
      go_ret
      exact ⟨by rw [HT.out]; rfl, BT.out⟩
    have HT : Hid (mayE l m = 210) := Lib.hid (mayE_no HOK.out)
    go_wp2_with fail
    go_ret
    exact ⟨by rw [HT.out]; rfl, BT.out⟩
  have HPL := Lib.hid (places_any w2 la l.length lc _ m.op (HF.out.op.below BT.out) (Nat.le_trans ho (by decide)))
  have HRI := Lib.hid (rising_any w2 _ m.tips (HF.out.tips.below BT.out) ht)
  go_wp2_with fail
  refine HPL.out.mono ?_
  rintro e w3 ⟨rfl, hw3⟩
  cases hw3
  cases hpb : placesB (l.length : Int) m.op with
  | false =>
    have HOK : Hid (okB l m = false) := Lib.hid (by unfold okB; simp [hpb])
    by_cases hp1 : dp = 1
    · subst hp1
      have HT : Hid (mayE l m = 210) := Lib.hid (mayE_no HOK.out)
      go_wp2_with fail
      go_ret
      exact ⟨by rw [HT.out]; rfl, BT.out⟩
    by_cases hp2 : dp = 2
    · subst hp2
      have HT : Hid (mayE l m = 210) := Lib.hid (mayE_no HOK.out)
      go_wp2_with fail
      go_ret
      exact ⟨by rw [HT.out]; rfl, BT.out⟩
    by_cases hp3 : dp = 3
    · subst hp3
      have HT : Hid (mayE l m = 210) := Lib.hid (mayE_no HOK.out)
      go_wp2_with fail
      go_ret
      exact ⟨by rw [HT.out]; rfl, BT.out⟩
    have HT : Hid (mayE l m = 210) := Lib.hid (mayE_no HOK.out)
    go_wp2_with fail
    go_ret
    exact ⟨by rw [HT.out]; rfl, BT.out⟩
  | true =>
    go_wp2_with fail
    refine HRI.out.mono ?_
    rintro e w3 ⟨rfl, b3⟩
    have BT : Hid (Below w.heap.size w w3) := Lib.hid (BT.out.trans (b3.mono (by omega)))
    have OT := Lib.hid ((obj_below b3 hlt).trans OT.out)
    have hz3 := b3.size
    clear b3 x0 x1 x2 x3 hlt HRI HPL
    have x0 := cell_at OT.out 0
    have x1 := cell_at OT.out 1
    have x2 := cell_at OT.out 2
    have x3 := cell_at OT.out 3
    have hlt := lt_of_obj OT.out
    simp at x0 x1 x2 x3
    cases hrb : risB m.tips with
    | false =>
      have HOK : Hid (okB l m = false) := Lib.hid (by unfold okB; simp [hrb])
      by_cases hp1 : dp = 1
      · subst hp1
        have HT : Hid (mayE l m = 210) := Lib.hid (mayE_no HOK.out)
        go_wp2_with fail
        go_ret
        exact ⟨by rw [HT.out]; rfl, BT.out⟩
      by_cases hp2 : dp = 2
      · subst hp2
        have HT : Hid (mayE l m = 210) := Lib.hid (mayE_no HOK.out)
        go_wp2_with fail
        go_ret
        exact ⟨by rw [HT.out]; rfl, BT.out⟩
      by_cases hp3 : dp = 3
      · subst hp3
        have HT : Hid (mayE l m = 210) := Lib.hid (mayE_no HOK.out)
        go_wp2_with fail
        go_ret
        exact ⟨by rw [HT.out]; rfl, BT.out⟩
      have HT : Hid (mayE l m = 210) := Lib.hid (mayE_no HOK.out)
      go_wp2_with fail
      go_ret
      exact ⟨by rw [HT.out]; rfl, BT.out⟩
    | true =>
      by_cases h32 : m.tips.length ≤ 32
      case neg =>
        have HOK : Hid (okB l m = false) := Lib.hid (by unfold okB; simp [h32])
        have hi32 : ¬ (m.tips.length : Int) ≤ 32 := by omega
        by_cases hp1 : dp = 1
        · subst hp1
          have HT : Hid (mayE l m = 210) := Lib.hid (mayE_no HOK.out)
          go_wp2_with fail
          go_ret
          exact ⟨by rw [HT.out]; rfl, BT.out⟩
        by_cases hp2 : dp = 2
        · subst hp2
          have HT : Hid (mayE l m = 210) := Lib.hid (mayE_no HOK.out)
          go_wp2_with fail
          go_ret
          exact ⟨by rw [HT.out]; rfl, BT.out⟩
        by_cases hp3 : dp = 3
        · subst hp3
          have HT : Hid (mayE l m = 210) := Lib.hid (mayE_no HOK.out)
          go_wp2_with fail
          go_ret
          exact ⟨by rw [HT.out]; rfl, BT.out⟩
        have HT : Hid (mayE l m = 210) := Lib.hid (mayE_no HOK.out)
        go_wp2_with fail
        go_ret
        exact ⟨by rw [HT.out]; rfl, BT.out⟩
      have hi32 : (m.tips.length : Int) ≤ 32 := by omega
      have HSD := Lib.hid (said_any w3 la l.length lc _ m (HF.out.below BT.out) hlen HDS.out)
      go_wp2_with fail
      refine HSD.out.mono ?_
      rintro e w4 ⟨rfl, b4⟩
      have BT : Hid (Below w.heap.size w w4) := Lib.hid (BT.out.trans (b4.mono (by omega)))
      have OT := Lib.hid ((obj_below b4 hlt).trans OT.out)
      have hz4 := b4.size
      clear b4 x0 x1 x2 x3 hlt HSD
      have x0 := cell_at OT.out 0
      have x1 := cell_at OT.out 1
      have x2 := cell_at OT.out 2
      have x3 := cell_at OT.out 3
      have hlt := lt_of_obj OT.out
      simp at x0 x1 x2 x3
      cases hsb : saidB (l.length : Int) m with
      | false =>
        have HOK : Hid (okB l m = false) := Lib.hid (by unfold okB; simp [hsb])
        by_cases hp1 : dp = 1
        · subst hp1
          have HT : Hid (mayE l m = 210) := Lib.hid (mayE_no HOK.out)
          go_wp2_with fail
          go_ret
          exact ⟨by rw [HT.out]; rfl, BT.out⟩
        by_cases hp2 : dp = 2
        · subst hp2
          have HT : Hid (mayE l m = 210) := Lib.hid (mayE_no HOK.out)
          go_wp2_with fail
          go_ret
          exact ⟨by rw [HT.out]; rfl, BT.out⟩
        by_cases hp3 : dp = 3
        · subst hp3
          have HT : Hid (mayE l m = 210) := Lib.hid (mayE_no HOK.out)
          go_wp2_with fail
          go_ret
          exact ⟨by rw [HT.out]; rfl, BT.out⟩
        have HT : Hid (mayE l m = 210) := Lib.hid (mayE_no HOK.out)
        go_wp2_with fail
        go_ret
        exact ⟨by rw [HT.out]; rfl, BT.out⟩
      | true =>
        have HOK : Hid (okB l m = true) := Lib.hid (by unfold okB; simp [hk, hpb, hrb, h32, hsb])
        by_cases hp1 : dp = 1
        · subst hp1
          by_cases hc0 : m.said.length = 0
          · have hi0 : (m.said.length : Int) = 0 := by omega
            by_cases hc1 : 0 < m.op.length
            · have hi1 : (0 : Int) < m.op.length := by omega
              have HT : Hid (mayE l m = 0) := Lib.hid (mayE_of HOK.out (b := true) (by unfold phaseB; rw [← HDP.out]; simp [hc0, hc1]))
              go_wp2_with fail
              go_ret
              exact ⟨by rw [HT.out]; rfl, BT.out⟩
            · have hi1 : ¬ (0 : Int) < m.op.length := by omega
              have HT : Hid (mayE l m = 210) := Lib.hid (mayE_of HOK.out (b := false) (by unfold phaseB; rw [← HDP.out]; simp [hc0, hc1]))
              go_wp2_with fail
              go_ret
              exact ⟨by rw [HT.out]; rfl, BT.out⟩
          · have hi0 : ¬ (m.said.length : Int) = 0 := by omega
            have HT : Hid (mayE l m = 210) := Lib.hid (mayE_of HOK.out (b := false) (by unfold phaseB; rw [← HDP.out]; simp [hc0]))
            go_wp2_with fail
            go_ret
            exact ⟨by rw [HT.out]; rfl, BT.out⟩
        by_cases hp2 : dp = 2
        · subst hp2
          by_cases hc0 : 0 < m.tips.length
          · have hi0 : (0 : Int) < m.tips.length := by omega
            by_cases hc1 : 0 < m.op.length
            · have hi1 : (0 : Int) < m.op.length := by omega
              have HT : Hid (mayE l m = 0) := Lib.hid (mayE_of HOK.out (b := true) (by unfold phaseB; rw [← HDP.out]; simp [hc0, hc1]))
              go_wp2_with fail
              go_ret
              exact ⟨by rw [HT.out]; rfl, BT.out⟩
            · have hi1 : ¬ (0 : Int) < m.op.length := by omega
              have HT : Hid (mayE l m = 210) := Lib.hid (mayE_of HOK.out (b := false) (by unfold phaseB; rw [← HDP.out]; simp [hc0, hc1]))
              go_wp2_with fail
              go_ret
              exact ⟨by rw [HT.out]; rfl, BT.out⟩
          · have hi0 : ¬ (0 : Int) < m.tips.length := by omega
            have HT : Hid (mayE l m = 210) := Lib.hid (mayE_of HOK.out (b := false) (by unfold phaseB; rw [← HDP.out]; simp [hc0]))
            go_wp2_with fail
            go_ret
            exact ⟨by rw [HT.out]; rfl, BT.out⟩
        by_cases hp3 : dp = 3
        · subst hp3
          by_cases hc0 : m.op.length = 0
          · have hi0 : (m.op.length : Int) = 0 := by omega
            have hi0b : ((m.op.length : Int) == 0) = true := by simpa using hi0
            have HT : Hid (mayE l m = 0) := Lib.hid (mayE_of HOK.out (b := true) (by unfold phaseB; rw [← HDP.out]; simp [hc0]))
            go_wp2_with fail
            go_ret
            exact ⟨by rw [HT.out]; rfl, BT.out⟩
          · have hi0 : ¬ (m.op.length : Int) = 0 := by omega
            have hi0b : ((m.op.length : Int) == 0) = false := by simpa using hi0
            have HT : Hid (mayE l m = 210) := Lib.hid (mayE_of HOK.out (b := false) (by unfold phaseB; rw [← HDP.out]; simp [hc0]))
            go_wp2_with fail
            go_ret
            exact ⟨by rw [HT.out]; rfl, BT.out⟩
        have HT : Hid (mayE l m = 210) := Lib.hid (mayE_of HOK.out (b := false) (by unfold phaseB; rw [← HDP.out, if_neg hp1, if_neg hp2, if_neg hp3]))
        go_wp2_with fail
        go_ret
        exact ⟨by rw [HT.out]; rfl, BT.out⟩
end Go.Proofs.YtmgpfmgmpmkkaaaGreat
