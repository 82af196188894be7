import Derived.Test.YtagpclgappcnbaaGreatRbL
namespace Go.Proofs.YtagpclgappcnbaaGreat
open Go.RowKit

/-! ### same: all that the two books tell -/
theorem getE_of {S : Ak.BookD} {id : Int} {a : Ak.AskD} (h : aGet id S.L = some a) : Ak.expA S id = a ∧ Ak.getE S id = 0 := by
  unfold Ak.expA Ak.getE
  rw [h]
  exact ⟨rfl, rfl⟩
theorem wt_get {M : PM} {Q : List (Int × Int)} (hR : RI M Q) {k : Nat} (hk : k < (Ak.wtL M.A).length) : aGet ((Ak.wtL M.A)[k]).id M.A.L = some (Ak.wtL M.A)[k] := by
  have hl : k < M.A.L.length := by rw [← Ak.wtL_len]; exact hk
  rw [Ak.wtL_at hl hk, hR.rise.own _ (List.getElem_mem hl)]
  exact Ak.aGet_mem hR.rise.rise _ (List.getElem_mem hl)
set_option maxRecDepth 100000 in
set_option maxHeartbeats 4000000 in
theorem same_any (W : World) (X P : Nat → Prop) (b rb : Nat) (M : PM) (Q : List (Int × Int)) (h : Mid W X P b rb M M Q) (hR : RI M Q) :
    Calls Tryz.prog 12 #[.pointer (some ⟨b, 0, none⟩), .pointer (some ⟨rb, 0, none⟩)] W fun e w' => e = .returned (.bool true) ∧ Below W.heap.size W w' := by
  have HI := Lib.hid h.bk.inv
  have HRI := Lib.hid hR
  have HB := Lib.hid h.bk
  obtain ⟨p, hp, -⟩ := h.ex
  have HP := Lib.hid hp
  clear h hR hp
  go_enter Tryz.func12, Tryz.ntmps12
  go_wp2_with fail
  refine (next_bk W X b M HB.out).mono ?_
  rintro e w1 ⟨rfl, b1⟩
  have B1 := Lib.hid b1
  clear b1
  have HN2 := Lib.hid (rnext_any w1 X rb p M Q (HP.out.below B1.out))
  generalize (Al.at' M.W 0).1 = n1 at *
  generalize Al.peekE M.W = n2 at *
  go_wp2_with fail
  refine HN2.out.mono ?_
  rintro e w2 ⟨rfl, b2⟩
  have B2 : Hid (Below W.heap.size W w2) := Lib.hid (B1.out.trans (b2.mono B1.out.size))
  clear b2 HN2 B1
  have BB : Hid (∀ V, Below w2.heap.size w2 V → Below W.heap.size W V) := Lib.hid (fun V hV => B2.out.trans (hV.mono B2.out.size))
  obtain ⟨va, ha, hao, hag⟩ := (HP.out.below B2.out).a
  obtain ⟨oa, cap, rfl, q2, q3, q4⟩ := hao.slIn akL_length
  have HSL : Hid (SlIn w2 (.slice oa (Ak.wtL M.A).length cap) 3 akL (Ak.wtL M.A)) := Lib.hid ⟨oa, cap, rfl, q2, q3, q4⟩
  have hlw : (Ak.wtL M.A).length = M.A.L.length := Ak.wtL_len _
  have H44 := Lib.hid (fun V (hV : Below w2.heap.size w2 V) => now_bk V X b M (HB.out.below (BB.out V hV)))
  have H45 := Lib.hid (fun V (hV : Below w2.heap.size w2 V) => len_bk V X b M (HB.out.below (BB.out V hV)))
  have H46 := Lib.hid (fun V (hV : Below w2.heap.size w2 V) => stat_bk V X b M (HB.out.below (BB.out V hV)))
  have H19 := Lib.hid (fun V (hV : Below w2.heap.size w2 V) => timeout_bk V X b M (HB.out.below (BB.out V hV)))
  have H47 := Lib.hid (fun V => Me.rtmo_any M.cfg.r M.wait V)
  unfold Me.ruleV Me.meanV at H47
  rw [← hlw] at H45
  have SK : Hid (∀ V, Below w2.heap.size w2 V → (V.cell? ⟨rb, 17, none⟩ = some (.int .i64 M.now) ∧ V.cell? ⟨rb, 12, none⟩ = some (.pointer (some ⟨p.ra, 0, none⟩)) ∧ V.cell? ⟨p.ra, 2, none⟩ = some (.slice oa (Ak.wtL M.A).length cap)) ∧ (V.cell? ⟨p.ra, 3, none⟩ = some (.int .i64 M.A.asked) ∧ V.cell? ⟨p.ra, 4, none⟩ = some (.int .i64 M.A.ans) ∧ V.cell? ⟨p.ra, 5, none⟩ = some (.int .i64 M.A.exp)) ∧
      (V.cell? ⟨rb, 1, none⟩ = some (.int .i64 M.cfg.r.first) ∧ V.cell? ⟨rb, 2, none⟩ = some (.int .i64 M.cfg.r.min) ∧ V.cell? ⟨rb, 3, none⟩ = some (.int .i64 M.cfg.r.max) ∧ V.cell? ⟨rb, 4, none⟩ = some (.int .i64 M.cfg.r.half) ∧ V.cell? ⟨rb, 5, none⟩ = some (.int .i64 M.cfg.r.quart) ∧ V.cell? ⟨rb, 14, none⟩ = some (.int .i64 M.wait.value) ∧ V.cell? ⟨rb, 15, none⟩ = some (.int .i64 M.wait.at_))) := Lib.hid (fun V hV => by
    have h1 := (HP.out.below (BB.out V hV)).box
    have h2 := (obj_below hV (lt_of_obj ha)).trans ha
    exact ⟨⟨cell_at h1 17, cell_at h1 12, cell_at h2 2⟩, ⟨cell_at h2 3, cell_at h2 4, cell_at h2 5⟩, cell_at h1 1, cell_at h1 2, cell_at h1 3, cell_at h1 4, cell_at h1 5, cell_at h1 14, cell_at h1 15⟩)
  have s0 := SK.out w2 (Below.refl _ _)
  clear ha hag q2 q3 q4 hlw hao
  generalize Me.tmoR M.cfg.r M.wait = T at *
  go_wp2_with fail
  go_region_held3 (fun V => (V.cell? ⟨rb, 17, none⟩ = some (.int .i64 M.now) ∧ V.cell? ⟨rb, 12, none⟩ = some (.pointer (some ⟨p.ra, 0, none⟩)) ∧ V.cell? ⟨p.ra, 2, none⟩ = some (.slice oa (Ak.wtL M.A).length cap)) ∧ (V.cell? ⟨p.ra, 3, none⟩ = some (.int .i64 M.A.asked) ∧ V.cell? ⟨p.ra, 4, none⟩ = some (.int .i64 M.A.ans) ∧ V.cell? ⟨p.ra, 5, none⟩ = some (.int .i64 M.A.exp)) ∧
      (V.cell? ⟨rb, 1, none⟩ = some (.int .i64 M.cfg.r.first) ∧ V.cell? ⟨rb, 2, none⟩ = some (.int .i64 M.cfg.r.min) ∧ V.cell? ⟨rb, 3, none⟩ = some (.int .i64 M.cfg.r.max) ∧ V.cell? ⟨rb, 4, none⟩ = some (.int .i64 M.cfg.r.half) ∧ V.cell? ⟨rb, 5, none⟩ = some (.int .i64 M.cfg.r.quart) ∧ V.cell? ⟨rb, 14, none⟩ = some (.int .i64 M.wait.value) ∧ V.cell? ⟨rb, 15, none⟩ = some (.int .i64 M.wait.at_)))
    (first | exact s0 | assumption)
    (first
      | (go_at_call 44; (with_reducible refine (H44.out _ (Below.refl _ w2).drew).mono ?_); rintro e w3 ⟨rfl, rfl⟩; have g3 : Below w2.heap.size w2 w2.drew := (Below.refl _ w2).drew; have s3 := SK.out _ g3)
      | (go_at_call 45; (with_reducible refine (H45.out _ g3).mono ?_); rintro e w4 ⟨rfl, b4⟩; have g4 : Below w2.heap.size w2 w4 := g3.trans (b4.mono g3.size); have s4 := SK.out _ g4)
      | (go_at_call 46; (with_reducible refine (H46.out _ g4).mono ?_); rintro e w5 ⟨rfl, b5⟩; have g5 : Below w2.heap.size w2 w5 := g4.trans (b5.mono g4.size); have s5 := SK.out _ g5)
      | (go_at_call 19; (with_reducible refine (H19.out _ g5).mono ?_); rintro e w6 ⟨rfl, b6⟩; have g6 : Below w2.heap.size w2 w6 := g5.trans (b6.mono g5.size); have s6 := SK.out _ g6)
      | (go_at_call 47; (with_reducible refine (H47.out _).mono ?_); rintro e w7 ⟨rfl, b7⟩; have g7 : Below w2.heap.size w2 w7 := g6.trans (b7.mono g6.size); have s7 := SK.out _ g7))
  have B7 : Hid (Below W.heap.size W w7) := Lib.hid (BB.out _ g7)
  clear H44 H45 H46 H19 H47 SK s0 s3 s4 s5 s6 s7 g3 g4 g5 g6 g7 b4 b5 b6 b7 BB B2 HSL
  have hl32 := (Be.chk_32 (Be.mayE_0 HI.out.may).2.1).2.1
  go_wp2_with fail
  go_loopw [9] (fun v9 wr => ∃ i : Int, -1 ≤ i ∧ i ≤ M.l.length + 1 ∧ v9 = .int .i64 i ∧ Hid (Below W.heap.size W wr)) (fun v _ => ((M.l.length : Int) + 1 - intOf v).toNat)
  case atStart => exact ⟨-1, by omega, by omega, rfl, B7⟩
  case round =>
    obtain ⟨i, hi0, hi1, rfl, HB1⟩ := hrel
    have hpr := HP.out.below HB1.out
    have c11 : wr.cell? ⟨rb, 11, none⟩ = some (.slice p.la M.l.length p.lc) := cell_at hpr.box 11
    have c12 : wr.cell? ⟨rb, 12, none⟩ = some (.pointer (some ⟨p.ra, 0, none⟩)) := cell_at hpr.box 12
    have c16 : wr.cell? ⟨rb, 16, none⟩ = some (.slice p.sa M.seats.length p.sc) := cell_at hpr.box 16
    have c17 : wr.cell? ⟨rb, 17, none⟩ = some (.int .i64 M.now) := cell_at hpr.box 17
    have lrb := hpr.lt
    by_cases hlt : i ≤ M.l.length
    · have hw : IntKind.i64.wrap (i + 1) = i + 1 := wrap_id (by omega) (by omega)
      have H48 := Lib.hid (fun V (hV : Below wr.heap.size wr V) => benched_bk V X b M (HB.out.below (HB1.out.trans (hV.mono HB1.out.size))) i)
      have H49 := Lib.hid (fun V (hV : Below wr.heap.size wr V) => Be.isR_any V (.slice p.sa M.seats.length p.sc) M.seats i M.now ((hpr.below hV).s.slIn Be.stL_length))
      generalize Be.isB M.seats i M.now = t at *
      clear hpr
      go_wp2_with fail
      go_region_held3 (fun V => V.cell? ⟨rb, 16, none⟩ = some (.slice p.sa M.seats.length p.sc) ∧ V.cell? ⟨rb, 17, none⟩ = some (.int .i64 M.now))
        (first | exact ⟨c16, c17⟩ | assumption)
        (first
          | (go_at_call 48; (with_reducible refine (H48.out _ (Below.refl _ wr).drew).mono ?_); rintro e wq ⟨rfl, bq⟩; have gq : Below wr.heap.size wr wq := (Below.refl _ wr).drew.trans bq; have sq : wq.cell? ⟨rb, 16, none⟩ = some (.slice p.sa M.seats.length p.sc) ∧ wq.cell? ⟨rb, 17, none⟩ = some (.int .i64 M.now) := ⟨(gq.cell (p := ⟨rb, 16, none⟩) lrb).trans c16, (gq.cell (p := ⟨rb, 17, none⟩) lrb).trans c17⟩)
          | (go_at_call 49; (with_reducible refine (H49.out _ gq).mono ?_); rintro e wq2 ⟨rfl, rfl⟩))
      have HB2 : Hid (Below W.heap.size W wq) := Lib.hid (HB1.out.trans (gq.mono HB1.out.size))
      clear H48 H49 sq bq gq c11 c12 c16 c17 lrb
      go_wp2_with fail
      go_roundw
      case rel => exact ⟨i + 1, by omega, by omega, rfl, HB2⟩
      case measure => simp [intOf]; omega
    · obtain ⟨va, ha, hao, hag⟩ := hpr.a
      obtain ⟨oa, cap, rfl, q2, q3, q4⟩ := hao.slIn akL_length
      have Q4 := Lib.hid q4
      have d2 : wr.cell? ⟨p.ra, 2, none⟩ = some (.slice oa (Ak.wtL M.A).length cap) := cell_at ha 2
      have HLW : Hid ((Ak.wtL M.A).length ≤ 1024) := Lib.hid (by rw [Ak.wtL_len]; exact (HRI.out.rk HI.out).len)
      clear ha hao hag q2 q3 q4 hpr
      go_wp2_with fail
      clear c11 c12 c16 c17 d2 lrb
      generalize wr = wA at *
      have hl2 := HLW.out
      go_loopw [116] (fun v wr => ∃ k : Nat, k ≤ (Ak.wtL M.A).length ∧ v = .int .i64 k ∧ Hid (Below wA.heap.size wA wr)) (fun v _ => (Ak.wtL M.A).length - (intOf v).toNat)
      case atStart => exact ⟨0, Nat.zero_le _, rfl, Lib.hid (Below.refl _ _)⟩
      case round =>
        obtain ⟨k, hk, rfl, HB2⟩ := hrel
        by_cases hk2 : k < (Ak.wtL M.A).length
        · obtain ⟨bq, off, rfl, hbb, hrow⟩ := Q4.out (by omega)
          have hs := hrow k hk2
          rw [← obj_below HB2.out hbb] at hs
          have hbr : bq < wr.heap.size := Nat.lt_of_lt_of_le hbb HB2.out.size
          have hg := wt_get HRI.out hk2
          have HBW : Hid (Below W.heap.size W wr) := Lib.hid (HB1.out.trans (HB2.out.mono HB1.out.size))
          have hgv := getE_of hg
          obtain ⟨F, pp, hb1, -⟩ := (HB.out.below HBW.out).ex
          have HG1 := Lib.hid (fun V (hV : Below wr.heap.size wr V) => get_any V F b pp M (Ak.wtL M.A)[k].id (hb1.below hV))
          rw [hgv.1, hgv.2] at HG1
          have HG4 := Lib.hid (fun V (hV : Below wr.heap.size wr V) => due_bk V X b M (HB.out.below (HBW.out.trans (hV.mono HBW.out.size))) (Ak.wtL M.A)[k].id)
          have HG5 := Lib.hid (fun V (hV : Below wr.heap.size wr V) => Al.atR V X p.rh M.W (Ak.wtL M.A)[k].id ((HP.out.below HBW.out).below hV).h)
          have y13 : ∀ V, Below wr.heap.size wr V → V.cell? ⟨rb, 13, none⟩ = some (.pointer (some ⟨p.rh, 0, none⟩)) := fun V hV => cell_at ((HP.out.below HBW.out).below hV).box 13
          have Y13 := Lib.hid y13
          have hw : IntKind.i64.wrap ((k : Int) + 1) = (k : Int) + 1 := wrap_id (by omega) (by omega)
          clear hrow hg hgv y13 hb1
          generalize (Ak.wtL M.A)[k] = a at *
          obtain ⟨a1, a2, a3⟩ := a
          unfold Ak.askV at HG1
          simp only [akL] at hs HG1 HG4 HG5
          generalize Al.atT M.W a1 = t1 at *
          generalize Al.dropE M.W a1 = t2 at *
          have hki : (k : Int) < (Ak.wtL M.A).length := by omega
          have b2 : Below wr.heap.size wr (wr.alloc (.cells #[.int .i64 a1, .int .i64 a2, .int .i64 a3] 66)) := (Below.refl _ _).alloc (Nat.le_refl _) _
          have o2 : obj (wr.alloc (.cells #[.int .i64 a1, .int .i64 a2, .int .i64 a3] 66)) wr.heap.size = some (.cells #[.int .i64 a1, .int .i64 a2, .int .i64 a3] 66 (0, 0)) := obj_alloc_at _ _ _ rfl
          have HG1' := Lib.hid (HG1.out _ b2)
          have BB2 := Lib.hid b2
          have O2 := Lib.hid o2
          clear b2 o2 HG1
          go_wp2_with fail
          refine HG1'.out.mono ?_
          rintro e w3 ⟨rfl, b3⟩
          have O3 := Lib.hid ((obj_below b3 (lt_of_obj O2.out)).trans O2.out)
          have BB3 : Hid (Below wr.heap.size wr w3) := Lib.hid (BB2.out.trans (b3.mono BB2.out.size))
          clear b3 HG1' BB2 O2
          have x0 : w3.cell? ⟨wr.heap.size, 0, none⟩ = some (.int .i64 a1) := cell_at O3.out 0
          have lx3 := lt_of_obj O3.out
          have b5 : Below w3.heap.size w3 (w3.alloc (.cells #[.int .i64 a1, .int .i64 a2, .int .i64 a3] 66)) := (Below.refl _ _).alloc (Nat.le_refl _) _
          have OY := Lib.hid (obj_alloc_at w3 (.cells #[.int .i64 a1, .int .i64 a2, .int .i64 a3] 66) w3.heap.size rfl)
          have OZ := Lib.hid ((obj_below b5 lx3).trans O3.out)
          have BB5 : Hid (Below wr.heap.size wr (w3.alloc (.cells #[.int .i64 a1, .int .i64 a2, .int .i64 a3] 66))) := Lib.hid (BB3.out.trans (b5.mono BB3.out.size))
          clear b5
          go_wp2_with fail
          clear x0 lx3 O3 BB3
          generalize (w3.alloc (.cells #[.int .i64 a1, .int .i64 a2, .int .i64 a3] 66)) = w5 at *
          generalize w3.heap.size = ty at *
          refine (HG4.out w5 BB5.out).mono ?_
          rintro e w6 ⟨rfl, hw6⟩
          cases hw6
          have z13 := Y13.out w5 BB5.out
          have z0 : w5.cell? ⟨wr.heap.size, 0, none⟩ = some (.int .i64 a1) := cell_at OZ.out 0
          have lz := lt_of_obj OZ.out
          have lr := (HP.out.below (HBW.out.trans (BB5.out.mono HBW.out.size))).lt
          clear hs hbr
          go_wp2_with fail
          go_region_held3 (fun V => V.cell? ⟨rb, 13, none⟩ = some (.pointer (some ⟨p.rh, 0, none⟩)) ∧ V.cell? ⟨wr.heap.size, 0, none⟩ = some (.int .i64 a1))
            (first | exact ⟨z13, z0⟩ | assumption)
            (first
              | (go_at_call 41; (with_reducible refine (HG5.out _ (BB5.out.trans (((Below.refl _ w5).drew).mono BB5.out.size))).mono ?_); rintro e w7 ⟨rfl, b7⟩; have k7 : Below w5.heap.size w5 w7 := (Below.refl _ w5).drew.trans b7; have s7 : w7.cell? ⟨rb, 13, none⟩ = some (.pointer (some ⟨p.rh, 0, none⟩)) ∧ w7.cell? ⟨wr.heap.size, 0, none⟩ = some (.int .i64 a1) := ⟨(k7.cell (p := ⟨rb, 13, none⟩) lr).trans z13, (k7.cell (p := ⟨wr.heap.size, 0, none⟩) lz).trans z0⟩))
          have oy7 := (obj_below k7 (lt_of_obj OY.out)).trans OY.out
          have oz7 := (obj_below k7 (lt_of_obj OZ.out)).trans OZ.out
          have BB7 : Hid (Below wA.heap.size wA w7) := Lib.hid (HB2.out.trans ((BB5.out.trans (k7.mono BB5.out.size)).mono HB2.out.size))
          clear k7 s7 b7 OY OZ z13 z0 lz lr HG4 HG5 BB5 Y13
          go_wp2_with fail
          go_roundw
          case rel => exact ⟨k + 1, by omega, by go_num, BB7⟩
          case measure => simp [intOf]; omega
        · have HF : Hid (Below W.heap.size W wr) := Lib.hid (HB1.out.trans (HB2.out.mono HB1.out.size))
          go_wp2_with fail
          go_ret
          exact ⟨rfl, HF.out⟩
end Go.Proofs.YtagpclgappcnbaaGreat
