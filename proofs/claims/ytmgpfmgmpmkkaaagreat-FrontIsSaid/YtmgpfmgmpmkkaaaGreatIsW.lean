import Derived.Test.YtmgpfmgmpmkkaaaGreatRefN
import Derived.Test.YtmgpfmgmpmkkaaaGreatFewF
import Derived.Test.YtmgpfmgmpmkkaaaGreatLiv
import Derived.Test.YtmgpfmgmpmkkaaaGreatStke
namespace Go.Proofs.YtmgpfmgmpmkkaaaGreat
open Go.RowKit Go.Shelf Go.Sort

theorem frs_two {W : World} {b : Nat} {d1 d2 : FrD} (h : obj W b = some (.cells (frL d1 ++ frL d2).toArray 27 (0, 0))) : SlIn W (.slice (some ⟨b, 0, none⟩) 2 2) 4 frL [d1, d2] :=
  SlIn.of_cells (E := 27) (fr := (0, 0)) frL_length [d1, d2] (by simpa using h) (by simp [maxLen])
theorem frsAt_two {W : World} {d1 d2 : FrD} {a b : FrM} (h1 : FrAt W d1 a) (h2 : FrAt W d2 b) : FrsAt W [d1, d2] [a, b] :=
  ⟨rfl, fun i d m g1 g2 => by
    match i with
    | 0 => simp at g1 g2; subst g1 g2; exact h1
    | 1 => simp at g1 g2; subst g1 g2; exact h2
    | i + 2 => simp at g1⟩
set_option maxRecDepth 100000 in
set_option maxHeartbeats 8000000 in
theorem isLaw_any (w : World) (v vs : Value) (d1 d2 : FrD) (l : List Vd) (a b : FrM) (zs : List Int) (hl : SlIn w v 2 vdL l) (h1 : FrAt w d1 a) (h2 : FrAt w d2 b) (hs : SlIn w vs 1 intL zs) :
    Calls Tryz.prog 4 #[v, frV d1, frV d2, vs] w fun e w' => e = .returned (.bool true) ∧ Below w.heap.size w w' := by
  have hb0 : Below w.heap.size w ((w.alloc (.cells (frC d1) 27)).alloc (.cells (frC d2) 27)) := ((Below.refl _ w).alloc (Nat.le_refl _) _).alloc (by simp) _
  have o1 : obj ((w.alloc (.cells (frC d1) 27)).alloc (.cells (frC d2) 27)) w.heap.size = some (.cells (frC d1) 27 (0, 0)) := (obj_alloc_past _ _ _ (by simp)).trans (fr_box w d1)
  have o2 : obj ((w.alloc (.cells (frC d1) 27)).alloc (.cells (frC d2) 27)) (w.heap.size + 1) = some (.cells (frC d2) 27 (0, 0)) := obj_alloc_at _ _ _ (by simp)
  have hz : ((w.alloc (.cells (frC d1) 27)).alloc (.cells (frC d2) 27)).heap.size = w.heap.size + 2 := by simp
  have HL := Lib.hid hl
  have H1 := Lib.hid h1
  have H2 := Lib.hid h2
  have HS := Lib.hid hs
  have B0 := Lib.hid hb0
  have O1 := Lib.hid o1
  have O2 := Lib.hid o2
  have HZ := Lib.hid hz
  obtain ⟨la, lc, rfl, -, -, -⟩ := hl
  obtain ⟨sa, sc, rfl, -, -, -⟩ := hs
  obtain ⟨ap, aoa, aon, aoc, ata, atn, atc, asa, asn, asc⟩ := d1
  obtain ⟨bp, boa, bon, boc, bta, btn, btc, bsa, bsn, bsc⟩ := d2
  clear hb0 o1 o2 hz h1 h2
  go_enter Tryz.func4, Tryz.ntmps4
  go_wp2_with fail
  generalize (w.alloc (.cells (frC ⟨ap, aoa, aon, aoc, ata, atn, atc, asa, asn, asc⟩) 27)).alloc (.cells (frC ⟨bp, boa, bon, boc, bta, btn, btc, bsa, bsn, bsc⟩) 27) = w0 at *
  have hz := HZ.out
  refine (live_any w0).mono ?_
  rintro e w1 ⟨rfl, b1⟩
  have hz1 := b1.size
  have O11 := Lib.hid ((obj_below b1 (by omega)).trans O1.out)
  have O21 := Lib.hid ((obj_below b1 (by omega)).trans O2.out)
  have B1 : Hid (Below w.heap.size w w1) := Lib.hid (B0.out.trans (b1.mono (by omega)))
  clear b1 O1 O2 B0
  have x0 := cell_at O11.out 0
  have x1 := cell_at O11.out 1
  have x2 := cell_at O11.out 2
  have x3 := cell_at O11.out 3
  have y0 := cell_at O21.out 0
  have y1 := cell_at O21.out 1
  have y2 := cell_at O21.out 2
  have y3 := cell_at O21.out 3
  simp at x0 x1 x2 x3 y0 y1 y2 y3
  have BA : Hid (Below w1.heap.size w1 (w1.alloc (.cells #[.int .i64 ap, .slice aoa aon aoc, .slice ata atn atc, .slice asa asn asc, .int .i64 bp, .slice boa bon boc, .slice bta btn btc, .slice bsa bsn bsc] 27))) := Lib.hid ((Below.refl _ _).alloc (Nat.le_refl _) _)
  have BWA : Hid (Below w.heap.size w (w1.alloc (.cells #[.int .i64 ap, .slice aoa aon aoc, .slice ata atn atc, .slice asa asn asc, .int .i64 bp, .slice boa bon boc, .slice bta btn btc, .slice bsa bsn bsc] 27))) := Lib.hid (B1.out.trans (BA.out.mono B1.out.size))
  have HFE := Lib.hid (few_any (w1.alloc (.cells #[.int .i64 ap, .slice aoa aon aoc, .slice ata atn atc, .slice asa asn asc, .int .i64 bp, .slice boa bon boc, .slice bta btn btc, .slice bsa bsn bsc] 27)) (.slice la l.length lc) (.slice (some ⟨w1.heap.size, 0, none⟩) 2 2) l [⟨ap, aoa, aon, aoc, ata, atn, atc, asa, asn, asc⟩, ⟨bp, boa, bon, boc, bta, btn, btc, bsa, bsn, bsc⟩] [a, b] (HL.out.below BWA.out) (frs_two (obj_alloc_at _ _ _ rfl)) (frsAt_two (H1.out.below BWA.out) (H2.out.below BWA.out)))
  have O1A := Lib.hid ((obj_below BA.out (lt_of_obj O11.out)).trans O11.out)
  have O2A := Lib.hid ((obj_below BA.out (lt_of_obj O21.out)).trans O21.out)
  go_wp2_with fail
  generalize w1.alloc (.cells #[.int .i64 ap, .slice aoa aon aoc, .slice ata atn atc, .slice asa asn asc, .int .i64 bp, .slice boa bon boc, .slice bta btn btc, .slice bsa bsn bsc] 27) = wA at *
  clear x0 x1 x2 x3 y0 y1 y2 y3
  refine HFE.out.mono ?_
  rintro e w2 ⟨⟨bb, rfl, hbb⟩, b2⟩
  have O12 := Lib.hid ((obj_below b2 (lt_of_obj O1A.out)).trans O1A.out)
  have O22 := Lib.hid ((obj_below b2 (lt_of_obj O2A.out)).trans O2A.out)
  have B2 : Hid (Below w.heap.size w w2) := Lib.hid (BWA.out.trans (b2.mono BWA.out.size))
  clear b2 O1A O2A BWA BA HFE O11 O21 B1
  cases bb with
  | false =>
    go_wp2_with fail
    refine (live_any w2).mono ?_
    rintro e w3 ⟨rfl, b3⟩
    have B3 : Hid (Below w.heap.size w w3) := Lib.hid (B2.out.trans (b3.mono B2.out.size))
    clear b3
    go_wp2_with fail
    go_ret
    exact ⟨rfl, B3.out⟩
  | true =>
  obtain ⟨hll, hnm, hfew⟩ := hbb rfl
  have FA : FrFew a := hfew a (by simp)
  have FB : FrFew b := hfew b (by simp)
  have HLL := Lib.hid hll
  have HNM := Lib.hid hnm
  clear hbb hfew hll hnm
  by_cases hzl : zs.length ≤ 200
  case neg =>
    have hzi : (200 : Int) < zs.length := by omega
    clear hzl
    go_wp2_with fail
    refine (live_any w2).mono ?_
    rintro e w3 ⟨rfl, b3⟩
    have B3 : Hid (Below w.heap.size w w3) := Lib.hid (B2.out.trans (b3.mono B2.out.size))
    clear b3
    go_wp2_with fail
    go_ret
    exact ⟨rfl, B3.out⟩
  have hzi : ¬ (200 : Int) < zs.length := by omega
  have HN := Lib.hid (new_act w2 (.slice la l.length lc) (.slice sa zs.length sc) l zs (HL.out.below B2.out) (HS.out.below B2.out) (by omega))
  have HZL := Lib.hid hzl
  clear hzl
  go_wp2_with fail
  refine HN.out.mono ?_
  rintro e w3 ⟨dx, rfl, hfx, b3⟩
  have O13 := Lib.hid ((obj_below b3 (lt_of_obj O12.out)).trans O12.out)
  have O23 := Lib.hid ((obj_below b3 (lt_of_obj O22.out)).trans O22.out)
  have B3 : Hid (Below w.heap.size w w3) := Lib.hid (B2.out.trans (b3.mono B2.out.size))
  have HX3 := Lib.hid hfx.at_
  clear b3 O12 O22 B2 HN hfx
  have B4 : Hid (Below w3.heap.size w3 (w3.alloc (.cells (frC dx) 27))) := Lib.hid ((Below.refl _ _).alloc (Nat.le_refl _) _)
  have BW4 : Hid (Below w.heap.size w (w3.alloc (.cells (frC dx) 27))) := Lib.hid (B3.out.trans (B4.out.mono B3.out.size))
  have OX4 := Lib.hid (fr_box w3 dx)
  have O14 := Lib.hid ((obj_below B4.out (lt_of_obj O13.out)).trans O13.out)
  have O24 := Lib.hid ((obj_below B4.out (lt_of_obj O23.out)).trans O23.out)
  have HX4 := Lib.hid (HX3.out.below B4.out)
  have HM := Lib.hid (newR_any (w3.alloc (.cells (frC dx) 27)) (.slice la l.length lc) (.slice sa zs.length sc) l zs (HL.out.below BW4.out) HNM.out (by have := HLL.out; omega) (HS.out.below BW4.out) (by have := HZL.out; omega))
  obtain ⟨xp, xoa, xon, xoc, xta, xtn, xtc, xsa, xsn, xsc⟩ := dx
  go_wp2_with fail
  generalize w3.alloc (.cells (frC ⟨xp, xoa, xon, xoc, xta, xtn, xtc, xsa, xsn, xsc⟩) 27) = w4 at *
  generalize w3.heap.size = bx at *
  clear B4 O13 O23 HX3 B3
  refine HM.out.mono ?_
  rintro e w5 ⟨dy, rfl, hfy, b5⟩
  have O15 := Lib.hid ((obj_below b5 (lt_of_obj O14.out)).trans O14.out)
  have O25 := Lib.hid ((obj_below b5 (lt_of_obj O24.out)).trans O24.out)
  have OX5 := Lib.hid ((obj_below b5 (lt_of_obj OX4.out)).trans OX4.out)
  have B5 : Hid (Below w.heap.size w w5) := Lib.hid (BW4.out.trans (b5.mono BW4.out.size))
  have HX5 := Lib.hid (HX4.out.below b5)
  have HY5 := Lib.hid hfy.at_
  clear b5 O14 O24 OX4 BW4 HX4 HM hfy
  have B6 : Hid (Below w5.heap.size w5 (w5.alloc (.cells (frC dy) 27))) := Lib.hid ((Below.refl _ _).alloc (Nat.le_refl _) _)
  have BW6 : Hid (Below w.heap.size w (w5.alloc (.cells (frC dy) 27))) := Lib.hid (B5.out.trans (B6.out.mono B5.out.size))
  have OY6 := Lib.hid (fr_box w5 dy)
  have O16 := Lib.hid ((obj_below B6.out (lt_of_obj O15.out)).trans O15.out)
  have O26 := Lib.hid ((obj_below B6.out (lt_of_obj O25.out)).trans O25.out)
  have OX6 := Lib.hid ((obj_below B6.out (lt_of_obj OX5.out)).trans OX5.out)
  have HX6 := Lib.hid (HX5.out.below B6.out)
  have HY6 := Lib.hid (HY5.out.below B6.out)
  obtain ⟨yp, yoa, yon, yoc, yta, ytn, ytc, ysa, ysn, ysc⟩ := dy
  go_wp2_with fail
  generalize w5.alloc (.cells (frC ⟨yp, yoa, yon, yoc, yta, ytn, ytc, ysa, ysn, ysc⟩) 27) = w6 at *
  generalize w5.heap.size = byy at *
  clear B6 O15 O25 OX5 HX5 HY5 B5
  generalize (newR l zs).2 = ER at *
  generalize (newR l zs).1 = MR at *
  have A6 := Lib.hid (H1.out.below BW6.out)
  have C6 := Lib.hid (H2.out.below BW6.out)
  have L6 := Lib.hid (HL.out.below BW6.out)
  have K1 : Hid (∀ z : Later w6, Calls Tryz.prog 18 #[.slice la l.length lc, frV ⟨ap, aoa, aon, aoc, ata, atn, atc, asa, asn, asc⟩] z.w fun e w' => e = .returned (.int .i64 (mayE l a)) ∧ Below z.w.heap.size z.w w') := Lib.hid (fun z => may_any z.w _ l _ a (L6.out.below z.h) (A6.out.below z.h) (by have := FA.op; omega) (by have := FA.tips; omega) (by have := FA.said; omega) (fun s hs => by have := FA.ids s hs; omega))
  have K2 : Hid (∀ z : Later w6, Calls Tryz.prog 19 #[.slice la l.length lc, frV ⟨ap, aoa, aon, aoc, ata, atn, atc, asa, asn, asc⟩] z.w fun e w' => e = .returned (.int .i64 (mayE l a)) ∧ Below z.w.heap.size z.w w') := Lib.hid (fun z => mayR_any z.w _ l _ a (L6.out.below z.h) HNM.out (A6.out.below z.h) (by have := FA.op; omega) (by have := FA.tips; omega) (by have := FA.said; omega) (fun s hs => by have := FA.ids s hs; omega))
  have K3 : Hid (∀ z : Later w6, Calls Tryz.prog 20 #[frV ⟨ap, aoa, aon, aoc, ata, atn, atc, asa, asn, asc⟩, frV ⟨bp, boa, bon, boc, bta, btn, btc, bsa, bsn, bsc⟩] z.w fun e w' => e = .returned (.bool (sameB a b)) ∧ Below z.w.heap.size z.w w') := Lib.hid (fun z => same_any z.w _ _ a b (A6.out.below z.h) (C6.out.below z.h))
  have K4 : Hid (∀ z : Later w6, Calls Tryz.prog 15 #[frV ⟨ap, aoa, aon, aoc, ata, atn, atc, asa, asn, asc⟩, frV ⟨bp, boa, bon, boc, bta, btn, btc, bsa, bsn, bsc⟩] z.w fun e w' => e = .returned (.bool (sameB a b)) ∧ Below z.w.heap.size z.w w') := Lib.hid (fun z => sameR_any z.w _ _ a b (A6.out.below z.h) (C6.out.below z.h))
  have K5 : Hid (∀ z : Later w6, Calls Tryz.prog 20 #[frV ⟨ap, aoa, aon, aoc, ata, atn, atc, asa, asn, asc⟩, frV ⟨ap, aoa, aon, aoc, ata, atn, atc, asa, asn, asc⟩] z.w fun e w' => e = .returned (.bool true) ∧ Below z.w.heap.size z.w w') := Lib.hid (fun z => (same_any z.w _ _ a a (A6.out.below z.h) (A6.out.below z.h)).mono fun e w' h => by rw [h.1, sameB_refl]; exact ⟨rfl, h.2⟩)
  have K6 : Hid (∀ z : Later w6, Calls Tryz.prog 15 #[frV ⟨xp, xoa, xon, xoc, xta, xtn, xtc, xsa, xsn, xsc⟩, frV ⟨yp, yoa, yon, yoc, yta, ytn, ytc, ysa, ysn, ysc⟩] z.w fun e w' => e = .returned (.bool true) ∧ Below z.w.heap.size z.w w') := Lib.hid (fun z => (sameR_any z.w _ _ MR MR (HX6.out.below z.h) (HY6.out.below z.h)).mono fun e w' h => by rw [h.1, sameB_refl]; exact ⟨rfl, h.2⟩)
  generalize mayE l a = ME at *
  generalize sameB a b = SB at *
  obtain ⟨p0, p1, p2, p3⟩ := fr_cells O16.out
  obtain ⟨q0, q1, q2, q3⟩ := fr_cells O26.out
  obtain ⟨r0, r1, r2, r3⟩ := fr_cells OX6.out
  obtain ⟨s0, s1, s2, s3⟩ := fr_cells OY6.out
  simp only at p0 p1 p2 p3 q0 q1 q2 q3 r0 r1 r2 r3 s0 s1 s2 s3
  have l1 := lt_of_obj O16.out
  have l2 := lt_of_obj O26.out
  have l3 := lt_of_obj OX6.out
  have l4 := lt_of_obj OY6.out
  refine wp_region_later w6 (Below.refl _ _) (by kernel_rfl) (by kernel_rfl) ?_
  repeat (go_big_quiet_step (first | (go_at_call 18; with_reducible exact Calls.later (K1.out _)) | (go_at_call 19; with_reducible exact Calls.later (K2.out _)) | (go_at_call 20; with_reducible exact Calls.later (K3.out _)) | (go_at_call 20; with_reducible exact Calls.later (K5.out _)) | (go_at_call 15; with_reducible exact Calls.later (K4.out _)) | (go_at_call 15; with_reducible exact Calls.later (K6.out _))))
  refine wpQuiet_nil ?_
  intro _ hx
  obtain ⟨⟨w7, b7⟩, hx⟩ := hx
  subst hx
  rename_i w7
  have B7 : Hid (Below w.heap.size w w7) := Lib.hid (BW6.out.trans (b7.mono BW6.out.size))
  clear b7
  go_wp2_with fail
  go_ret
  exact ⟨rfl, B7.out⟩
end Go.Proofs.YtmgpfmgmpmkkaaaGreat
