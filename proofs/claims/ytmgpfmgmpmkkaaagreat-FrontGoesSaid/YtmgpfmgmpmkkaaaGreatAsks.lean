import Derived.Test.YtmgpfmgmpmkkaaaGreatCloneB
namespace Go.Proofs.YtmgpfmgmpmkkaaaGreat
open Go.RowKit

/-- so little that all of it may be gone through -/
structure FrSm (m : FrM) : Prop where
  op : m.op.length ≤ 4096
  tips : m.tips.length ≤ 4096
  said : m.said.length ≤ 4096
  ids : ∀ s ∈ m.said, s.ids.length ≤ 4096
def asksE (l : List Vd) (m : FrM) (ph node : Int) : Int :=
  if mayB l m = true then (if (ph ≠ 0 ∧ m.phase ≠ ph) ∨ node ∉ m.op then 4 else 0) else 210
set_option maxRecDepth 100000 in
set_option maxHeartbeats 1000000 in
/-- asks -/
theorem asks_any (w : World) (v : Value) (l : List Vd) (d : FrD) (m : FrM) (ph node : Int) (hl : SlIn w v 2 vdL l) (h : FrAt w d m) (hs : FrSm m) : Calls Tryz.prog 32 #[v, frV d, .int .i64 ph, .int .i64 node] w fun e w' => e = .returned (.int .i64 (asksE l m ph node)) ∧ Below w.heap.size w w' := by
  have hb0 : Below w.heap.size w (w.alloc (.cells (frC d) 27)) := (Below.refl _ w).alloc (Nat.le_refl _) _
  have B0 := Lib.hid hb0
  have HM := Lib.hid (may_any _ v l d m (hl.below hb0) (h.below hb0) (by have := hs.op; omega) (by have := hs.tips; omega) hs.said (fun s hx => by have := hs.ids s hx; omega))
  have HF := Lib.hid h
  have OB := Lib.hid (fr_box w d)
  have HDP := Lib.hid h.phase
  have HE : Hid (asksE l m ph node = if mayB l m = true then (if (ph ≠ 0 ∧ m.phase ≠ ph) ∨ node ∉ m.op then 4 else 0) else 210) := Lib.hid rfl
  have HME : Hid (mayE l m = if mayB l m = true then 0 else 210) := Lib.hid rfl
  obtain ⟨la, lc, rfl, _, _, _⟩ := hl
  obtain ⟨dp, doa, don, doc, dta, dtn, dtc, dsa, dsn, dsc⟩ := d
  have x0 := cell_at OB.out 0
  have x1 := cell_at OB.out 1
  have x2 := cell_at OB.out 2
  have x3 := cell_at OB.out 3
  generalize asksE l m ph node = T at *
  generalize mayE l m = U at *
  clear h hs hb0
  go_enter Tryz.func32, Tryz.ntmps32
  go_wp2_with fail
  generalize w.alloc (.cells (frC ⟨dp, doa, don, doc, dta, dtn, dtc, dsa, dsn, dsc⟩) 27) = w1 at *
  clear x0 x1 x2 x3
  refine HM.out.mono ?_
  rintro e w2 ⟨rfl, b2⟩
  have hz1 := B0.out.size
  have BT : Hid (Below w.heap.size w w2) := Lib.hid (B0.out.trans (b2.mono (by omega)))
  have OT := Lib.hid ((obj_below b2 (lt_of_obj OB.out)).trans OB.out)
  clear b2 HM
  have x0 := cell_at OT.out 0
  have x1 := cell_at OT.out 1
  have hlt := lt_of_obj OT.out
  simp at x0 x1
  cases hmb : mayB l m with
  | false =>
    have hU : Hid (U = 210) := Lib.hid (by rw [HME.out, hmb]; rfl)
    have hT : Hid (T = 210) := Lib.hid (by rw [HE.out, hmb]; rfl)
    have hu : U = 210 := hU.out
    subst hu
    go_wp2_with fail
    go_ret
    exact ⟨by rw [hT.out]; rfl, BT.out⟩
  | true =>
    have hu : U = 0 := by rw [HME.out, hmb]; rfl
    subst hu
    have hT : Hid (T = if (ph ≠ 0 ∧ m.phase ≠ ph) ∨ node ∉ m.op then 4 else 0) := Lib.hid (by rw [HE.out, hmb]; rfl)
    have HH := Lib.hid (has_int w2 (.slice doa don doc) m.op node (HF.out.op.below BT.out))
    by_cases hp : ph ≠ 0 ∧ m.phase ≠ ph
    · have hT4 : Hid (T = 4) := Lib.hid (by rw [hT.out, if_pos (.inl hp)])
      have hp0 : ¬ ph = 0 := hp.1
      have hp1 : ¬ dp = ph := fun e => hp.2 (HDP.out.symm.trans e)
      clear hp
      go_wp2_with fail
      go_ret
      exact ⟨by rw [hT4.out]; rfl, BT.out⟩
    · have hTT : Hid (T = if node ∉ m.op then 4 else 0) := Lib.hid (by
        rw [hT.out]
        by_cases hn : node ∈ m.op
        · rw [if_neg (by simp only [not_or]; exact ⟨hp, by simpa using hn⟩), if_neg (by simpa using hn)]
        · rw [if_pos (.inr hn), if_pos hn])
      have hcase : ph = 0 ∨ (¬ ph = 0 ∧ dp = ph) := by
        by_cases h0 : ph = 0
        · exact .inl h0
        · refine .inr ⟨h0, ?_⟩
          by_cases h1 : m.phase = ph
          · exact HDP.out.trans h1
          · exact absurd ⟨h0, h1⟩ hp
      have HN : Hid ((decide (node ∈ m.op) = true ∧ T = 0) ∨ (decide (node ∈ m.op) = false ∧ T = 4)) := Lib.hid (by
        by_cases hn : node ∈ m.op
        · exact .inl ⟨decide_eq_true hn, by rw [hTT.out, if_neg (by simpa using hn)]⟩
        · exact .inr ⟨decide_eq_false hn, by rw [hTT.out, if_pos hn]⟩)
      clear hp
      rcases hcase with hp0 | ⟨hp0, hp1⟩
      · subst hp0
        go_wp2_with fail
        refine HH.out.mono ?_
        rintro e w3 ⟨rfl, hw3⟩
        cases hw3
        rcases HN.out with ⟨hd, rfl⟩ | ⟨hd, rfl⟩
        · go_wp2_with fail
          go_ret
          exact ⟨rfl, BT.out⟩
        · go_wp2_with fail
          go_ret
          exact ⟨rfl, BT.out⟩
      · subst hp1
        go_wp2_with fail
        refine HH.out.mono ?_
        rintro e w3 ⟨rfl, hw3⟩
        cases hw3
        rcases HN.out with ⟨hd, rfl⟩ | ⟨hd, rfl⟩
        · go_wp2_with fail
          go_ret
          exact ⟨rfl, BT.out⟩
        · go_wp2_with fail
          go_ret
          exact ⟨rfl, BT.out⟩
end Go.Proofs.YtmgpfmgmpmkkaaaGreat
