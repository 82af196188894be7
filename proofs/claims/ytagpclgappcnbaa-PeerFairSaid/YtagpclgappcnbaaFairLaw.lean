import Derived.Test.YtagpclgappcnbaaFairX
import Derived.Deep.CutBlock
import Derived.Deep.DeepCutAuto
import Derived.LoopTactic
import Derived.BigQuiet
namespace Go.Proofs.Ytagpclgappcnbaa
open Go.RowKit

/-! ### PeerFair -/
@[local go_sem ↓] theorem hide_load27f (a : Addr) : loadVar 27 a = loadAgg 27 a := rfl
@[local go_sem] theorem run_load27f (b off : Nat) (W : World) : (loadAgg 27 ⟨b, off, none⟩).run Try.prog W = loadRes Try.prog 27 ⟨b, off, none⟩ W (subOf (obj W b) off 11) := run_loadAgg Try.isAgg27 Try.sizeOf27 b off W
set_option maxRecDepth 100000 in
set_option maxHeartbeats 4000000 in
theorem fairLaw_any (w : World) (c : CfgD) (lv sv : Value) (l : List Be.Vd) (xs : List OpM) (hl : SlIn w lv 2 Be.vdL l) (hs : SlIn w sv 7 opL xs) (hx : ∀ x ∈ xs, OpOK x) (hde : c.q.de < 9223372036854775808) :
    Calls Try.prog 3 #[.agg (cfgC c), lv, sv] w fun e w' => e = .returned (.bool true) ∧ Below w.heap.size w w' := by
  have HB := Lib.hid (fun W => begun_any W)
  have b1 : Below w.heap.size w (w.alloc (.cells (cfgC c) 27)) := (Below.refl _ w).alloc (Nat.le_refl _) _
  have O1 := Lib.hid (show obj (w.alloc (.cells (cfgC c) 27)) w.heap.size = some (.cells (cfgC c) 27 (0, 0)) from obj_alloc_at _ _ _ rfl)
  have B1 := Lib.hid b1
  have HF := Lib.hid (fun W (hW : Below w.heap.size w W) => few_any W lv l (hl.below hW))
  have HN := Lib.hid (fun W (hW : Below w.heap.size w W) => new_bk W c lv l 0 (hl.below hW) hde)
  have HS := Lib.hid hs
  have HX := Lib.hid hx
  have HL := Lib.hid hl
  obtain ⟨oal, capl, rfl, -⟩ := hl
  obtain ⟨oas, caps, rfl, s1, s2, -⟩ := hs
  clear b1 hx
  generalize hcc : cfgC c = cs at *
  have HCC := Lib.hid hcc
  clear hcc
  go_enter Try.func3, Try.ntmps3
  go_wp2_with fail
  generalize w.alloc (.cells cs 27) = w1 at *
  refine (HB.out w1).mono ?_
  rintro e w2 ⟨rfl, b2⟩
  have B2 := Lib.hid (B1.out.trans (b2.mono B1.out.size))
  have O2 := Lib.hid ((obj_below b2 (lt_of_obj O1.out)).trans O1.out)
  clear b2 B1 O1
  go_wp2_with fail
  refine (HF.out w2 B2.out).mono ?_
  rintro e w3 ⟨⟨fb, rfl, hfb⟩, b3⟩
  have B3 := Lib.hid (B2.out.trans (b3.mono B2.out.size))
  have O3 := Lib.hid ((obj_below b3 (lt_of_obj O2.out)).trans O2.out)
  have HFN := Lib.hid hfb
  clear b3 B2 O2 HF hfb
  cases fb with
  | false =>
    go_wp2_with fail
    refine (HB.out w3).mono ?_
    rintro e w4 ⟨rfl, b4⟩
    go_wp2_with fail
    go_ret
    exact ⟨rfl, B3.out.trans (b4.mono B3.out.size)⟩
  | true =>
  have L3 := Lib.hid (show loadRes Try.prog 27 ⟨w.heap.size, 0, none⟩ w3 (subOf (obj w3 w.heap.size) 0 11) = .ok (.agg cs) w3 from by rw [O3.out, ← HCC.out]; rfl)
  have L3' := L3.out
  go_wp2_with fail
  clear L3 L3'
  refine (HN.out w3 B3.out).mono ?_
  rintro e w4 ⟨b4, h41, h42⟩
  have H1 := Lib.hid h41
  have H2 := Lib.hid h42
  clear h41 h42 HN
  by_cases hE : newE c l 0 = 0
  case neg =>
    obtain rfl := H1.out hE
    have B4 := Lib.hid (B3.out.trans (b4.mono B3.out.size))
    generalize newE c l 0 = E at *
    have he : (E != 0) = true := by simpa using hE
    clear b4 H1 H2
    go_wp2_with fail
    go_ret
    exact ⟨rfl, B4.out⟩
  obtain ⟨b, rfl, hbk⟩ := H2.out hE
  have K4 := Lib.hid hbk
  have Q4 := Lib.hid b4
  have ZB := Lib.hid B3.out.size
  obtain ⟨m, hm⟩ : ∃ m, m = min xs.length 50 := ⟨_, rfl⟩
  have hm1 : m ≤ xs.length := by omega
  have hm2 : m ≤ 50 := by omega
  have HR := run_lo29 HS.out hm1
  have hmi : (m : Int) = min (xs.length : Int) 50 := by omega
  rw [hmi] at HR
  have SM := Lib.hid (HS.out.takeC hm1)
  have XM : Hid (∀ x ∈ xs.take m, OpOK x) := Lib.hid (fun x hx => HX.out x (List.mem_of_mem_take hx))
  have hml : Hid ((xs.take m).length = m) := Lib.hid (by simp; omega)
  have HMC : Hid ((newM c l 0).cfg = c) := Lib.hid rfl
  clear hbk b4 H1 H2 hm hmi
  obtain ⟨-, hck, -, -⟩ := newE_0 hE
  obtain ⟨l1, l32, -, -⟩ := Be.chk_32 hck
  have CK := Lib.hid hck
  have FI0 : Hid (FairI (newM c l 0) (List.replicate l.length 0) ∧ (∀ v, (List.replicate l.length (0 : Int)).getD v 0 ≤ 2000 * ((0 : Nat) : Int)) ∧ (List.replicate l.length (0 : Int)).length = l.length) := Lib.hid ⟨fair_new hE hde, fun v => by simp only [List.getD_eq_getElem?_getD, List.getElem?_replicate]; split <;> simp, by simp⟩
  have CL0 : Hid ((newM c l 0).cfg = c ∧ (newM c l 0).l = l) := Lib.hid ⟨rfl, rfl⟩
  generalize xs.take m = ys at *
  generalize newM c l 0 = M0 at *
  obtain ⟨w5, hmk, o5, b5⟩ := Be.makeRow w4 l.length (by omega)
  have K5 := Lib.hid ((K4.out.more b5).mono (Y := fun n => n < w3.heap.size ∨ n = w4.heap.size) (fun n hn => hn.imp (fun h => h) (fun h => by have := lt_of_obj o5; omega)))
  have Q5 := Lib.hid (Q4.out.trans (b5.mono Q4.out.size))
  have R5 := Lib.hid o5
  have ZM := Lib.hid Q4.out.size
  clear b5 K4 Q4 o5 hck
  go_wp2_with fail
  clear HR hmk
  generalize w4.heap.size = rb at *
  go_loopw [11, 12, 13, 14, 15, 16, 17, 18, 20, 21, 22, 58] (fun _ _ _ _ _ _ _ _ _ _ _ v58 wr => ∃ (k : Nat) (M : PM) (R : List Int), k ≤ m ∧ v58 = .int .i64 k ∧ Hid (BkAt wr (fun n => n < w3.heap.size ∨ n = rb) b M) ∧ Hid (Below w3.heap.size w3 wr) ∧ Hid (obj wr rb = some (.cells (Be.rowC R) 3 (0, 0))) ∧ Hid (FairI M R ∧ (∀ v, R.getD v 0 ≤ 2000 * (k : Int)) ∧ R.length = l.length) ∧ Hid (M.cfg = c ∧ M.l = l)) (fun _ _ _ _ _ _ _ _ _ _ _ i _ => m - (intOf i).toNat)
  case atStart => exact ⟨0, M0, _, Nat.zero_le _, rfl, K5, Q5, R5, FI0, CL0⟩
  case round =>
    obtain ⟨k, M, R, hk, rfl, HK, HQ, HRW, HFI, HCL⟩ := hrel
    clear K5 Q5 R5 FI0 CL0
    by_cases hlt : k < m
    case neg =>
      obtain rfl : m = k := by omega
      have BF := Lib.hid (B3.out.trans (HQ.out.mono ZB.out))
      have hkk : ¬ (m : Int) < m := by omega
      go_wp2_with fail
      go_ret
      exact ⟨rfl, BF.out⟩
    have hly := hml.out
    obtain ⟨bs, off, rfl, hbb, hrow⟩ := sl_row SM.out (by omega)
    have hs := hrow k (by omega)
    have hw3r := Nat.le_trans ZB.out HQ.out.size
    have bwr := Lib.hid (B3.out.trans (HQ.out.mono ZB.out))
    rw [← obj_below bwr.out hbb] at hs
    have XO := Lib.hid (XM.out ys[k] (List.getElem_mem _))
    generalize ys[k] = x at *
    have f0 : wr.cell? ⟨bs, off + k * 7, none⟩ = some (.int .i64 x.d) := by have := subOf_cell hs (j := 0) (by decide); simpa [opL] using this
    have f1 : wr.cell? ⟨bs, off + k * 7 + 1, none⟩ = some (.int .i64 x.v) := by have := subOf_cell hs (j := 1) (by decide); simpa [opL] using this
    have f2 : wr.cell? ⟨bs, off + k * 7 + 2, none⟩ = some (.int .i64 x.id) := by have := subOf_cell hs (j := 2) (by decide); simpa [opL] using this
    have f3 : wr.cell? ⟨bs, off + k * 7 + 3, none⟩ = some (.int .i64 x.kind) := by have := subOf_cell hs (j := 3) (by decide); simpa [opL] using this
    have f4 : wr.cell? ⟨bs, off + k * 7 + 4, none⟩ = some (.int .u16 x.ticks) := by have := subOf_cell hs (j := 4) (by decide); simpa [opL] using this
    have f5 : wr.cell? ⟨bs, off + k * 7 + 5, none⟩ = some (.bool x.past) := by have := subOf_cell hs (j := 5) (by decide); simpa [opL] using this
    have f6 : wr.cell? ⟨bs, off + k * 7 + 6, none⟩ = some (.int .i64 x.now) := by have := subOf_cell hs (j := 6) (by decide); simpa [opL] using this
    have hbr : bs < wr.heap.size := Nat.lt_of_lt_of_le hbb bwr.out.size
    clear hs hrow hly
    have b1 : Below wr.heap.size wr (wr.alloc (.cells #[.int .i64 x.d, .int .i64 x.v, .int .i64 x.id, .int .i64 x.kind, .int .u16 x.ticks, .bool x.past, .int .i64 x.now] 39)) := (Below.refl _ _).alloc (Nat.le_refl _) _
    have X1 := Lib.hid (show obj (wr.alloc (.cells #[.int .i64 x.d, .int .i64 x.v, .int .i64 x.id, .int .i64 x.kind, .int .u16 x.ticks, .bool x.past, .int .i64 x.now] 39)) wr.heap.size = some (.cells #[.int .i64 x.d, .int .i64 x.v, .int .i64 x.id, .int .i64 x.kind, .int .u16 x.ticks, .bool x.past, .int .i64 x.now] 39 (0, 0)) from obj_alloc_at _ _ _ rfl)
    have K1 := Lib.hid ((HK.out.more b1).mono (Y := fun n => (n < w3.heap.size ∨ n = rb) ∨ n = wr.heap.size) (fun n hn => hn.imp (fun h => h) (fun h => by simp; omega)))
    have Q1 := Lib.hid (HQ.out.trans (b1.mono HQ.out.size))
    have ZX := Lib.hid HQ.out.size
    have zmb := HK.out.lt rb (.inr rfl)
    have R1 := Lib.hid ((obj_below b1 zmb).trans HRW.out)
    have NXB : Hid (wr.heap.size ≠ rb) := Lib.hid (by omega)
    have hki : (k : Int) < m := by omega
    clear b1 HK HQ HRW zmb
    go_wp2_with fail
    clear f0 f1 f2 f3 f4 f5 f6 hbr
    generalize wr.alloc (.cells #[.int .i64 x.d, .int .i64 x.v, .int .i64 x.id, .int .i64 x.kind, .int .u16 x.ticks, .bool x.past, .int .i64 x.now] 39) = w5b at *
    have NB := Lib.hid (And.intro (PInvW.now0 K1.out.inv) (PInvW.now1 K1.out.inv))
    have HNOW : Hid (∀ y : Later w5b, Calls Try.prog 11 #[.pointer (some ⟨b, 0, none⟩)] y.w fun e w' => e = .returned (.int .i64 M.now) ∧ Below y.w.heap.size y.w w') := Lib.hid (fun y => (now_bk _ _ b M (K1.out.below y.h)).mono (by rintro e w' ⟨rfl, rfl⟩; exact ⟨rfl, Below.refl _ _⟩))
    have HAT : Hid (∀ y : Later w5b, Calls Try.prog 10 #[.agg #[.int .i64 0, .int .i64 0, .int .i64 0, .int .i64 0, .int .u16 x.ticks, .bool false, .int .i64 0], .int .i64 M.now] y.w fun e w' => e = .returned (.int .i64 (atE (tickOp x.ticks) M.now)) ∧ Below y.w.heap.size y.w w') := Lib.hid (fun y => at_any y.w (tickOp x.ticks) M.now XO.out NB.out.1 NB.out.2)
    have TB := Lib.hid (atE_bd XO.out.1 NB.out.1 NB.out.2)
    generalize atE (tickOp x.ticks) M.now = T at *
    have hb39 : ∀ W, (Instr.build 39 #[(4, .int .u16 x.ticks)]).run Try.prog W = .ok (.agg #[.int .i64 0, .int .i64 0, .int .i64 0, .int .i64 0, .int .u16 x.ticks, .bool false, .int .i64 0]) W := fun _ => by kernel_rfl
    have x4 := cell_at X1.out 4
    simp at x4
    have hx5 := lt_of_obj X1.out
    refine wp_region_later w5b (Below.refl _ w5b) (by kernel_rfl) (by kernel_rfl) ?_
    repeat (go_big_quiet_step (first | (go_at_call 11; with_reducible exact Calls.later (HNOW.out _)) | (go_at_call 10; with_reducible exact Calls.later (HAT.out _))))
    refine wpQuiet_nil ?_
    rintro W6 ⟨y, e6⟩
    have h6 : Below w5b.heap.size w5b W6 := by rw [e6]; exact y.h
    clear e6 y
    have K6 := Lib.hid (K1.out.below h6)
    have Q6 := Lib.hid (Q1.out.trans (h6.mono Q1.out.size))
    have X6 := Lib.hid ((obj_below h6 hx5).trans X1.out)
    have R6 := Lib.hid ((obj_below h6 (lt_of_obj R1.out)).trans R1.out)
    clear h6 hb39 x4 hx5 HNOW HAT K1 Q1 X1 R1 hw3r
    generalize wr.heap.size = xb at *
    have CE := Lib.hid (comes_ok (M := M) TB.out.1 TB.out.2)
    obtain ⟨w7, hmk, o7, b7⟩ := makeBools W6 l.length (by omega)
    have K7 := Lib.hid ((K6.out.more b7).mono (Y := fun n => ((n < w3.heap.size ∨ n = rb) ∨ n = xb) ∨ n = W6.heap.size) (fun n hn => hn.imp (fun h => h) (fun h => by have := lt_of_obj o7; omega)))
    have Q7 := Lib.hid (Q6.out.trans (b7.mono Q6.out.size))
    have X7 := Lib.hid ((obj_below b7 (lt_of_obj X6.out)).trans X6.out)
    have R7 := Lib.hid ((obj_below b7 (lt_of_obj R6.out)).trans R6.out)
    have W7 : Hid (obj w7 W6.heap.size = some (.cells (boolC (wasL M.seats M.now l.length 0)) 4 (0, 0))) := Lib.hid (by rw [wasL_zero]; exact o7)
    have ZW := Lib.hid Q6.out.size
    have NWB : Hid (W6.heap.size ≠ rb ∧ W6.heap.size ≠ xb) := Lib.hid ⟨by have := K6.out.lt rb (.inl (.inr rfl)); omega, by have := K6.out.lt xb (.inr rfl); omega⟩
    clear b7 o7 K6 Q6 X6 R6
    clear bwr
    clear wr
    go_wp2_with fail
    clear hmk
    generalize W6.heap.size = wb at *
    clear W6
    go_loopw [14, 73] (fun _ v73 wr => ∃ (j : Nat), j ≤ l.length ∧ v73 = .int .i64 j ∧ Hid (BkAt wr (fun n => ((n < w3.heap.size ∨ n = rb) ∨ n = xb) ∨ n = wb) b M) ∧ Hid (Below w3.heap.size w3 wr) ∧ Hid (obj wr xb = some (.cells #[.int .i64 x.d, .int .i64 x.v, .int .i64 x.id, .int .i64 x.kind, .int .u16 x.ticks, .bool x.past, .int .i64 x.now] 39 (0, 0))) ∧ Hid (obj wr rb = some (.cells (Be.rowC R) 3 (0, 0))) ∧ Hid (obj wr wb = some (.cells (boolC (wasL M.seats M.now l.length j)) 4 (0, 0)))) (fun _ i _ => l.length - (intOf i).toNat)
    case atStart => exact ⟨0, Nat.zero_le _, rfl, K7, Q7, X7, R7, W7⟩
    case round =>
      clear K7 Q7 X7 R7 W7
      obtain ⟨j, hj, rfl, KJ, QJ, XJ, RJ, WJ⟩ := hrel
      by_cases hjl : j < l.length
      case pos =>
        have HBN := Lib.hid (benched_bk wr _ b M KJ.out (j : Int))
        have hji : (j : Int) < l.length := by omega
        have WS := Lib.hid (wasL_step M.seats M.now l.length j)
        have hwl := Lib.hid (wasL_len M.seats M.now l.length j)
        generalize Be.isB M.seats (j : Int) M.now = bj at *
        generalize wasL M.seats M.now l.length j = Wj at *
        go_wp2_with fail
        refine HBN.out.mono ?_
        rintro e w8 ⟨rfl, b8⟩
        have W8 := Lib.hid ((obj_below b8 (lt_of_obj WJ.out)).trans WJ.out)
        have c8 : w8.cell? ⟨wb, j, none⟩ = some (.bool Wj[j]!) := by
          have := cell_at W8.out j
          rw [this, boolC_get Wj (by rw [hwl.out]; exact hjl), getElem!_pos Wj j (by rw [hwl.out]; exact hjl)]
        have y8 := frozen_at W8.out
        have hwb8 := lt_of_obj W8.out
        have kk : Keeps (fun n => n = wb) w8 (w8.setCell ⟨wb, j, none⟩ (.bool bj)) := (Keeps.refl (fun n => n = wb) w8).setCell (a := ⟨wb, j, none⟩) (.inl rfl) _
        have K9 := Lib.hid ((KJ.out.below b8).beside (kk.mono fun n hn => .inr hn))
        have Q9 := Lib.hid ((QJ.out.trans (b8.mono QJ.out.size)).trans (kk.below (fun n hn => by have := ZW.out; omega) (QJ.out.trans (b8.mono QJ.out.size)).size))
        have X9 := Lib.hid ((obj_setCell_ne w8 ⟨wb, j, none⟩ (.bool bj) xb (fun e => NWB.out.2 e.symm)).trans ((obj_below b8 (lt_of_obj XJ.out)).trans XJ.out))
        have R9 := Lib.hid ((obj_setCell_ne w8 ⟨wb, j, none⟩ (.bool bj) rb (fun e => NWB.out.1 e.symm)).trans ((obj_below b8 (lt_of_obj RJ.out)).trans RJ.out))
        have w9 := obj_setCell_at (.bool bj) (i := j) W8.out
        rw [boolC_set, WS.out] at w9
        have W9 := Lib.hid w9
        clear b8 kk KJ QJ XJ RJ WJ W8 w9 HBN
        go_wp2_with fail
        go_roundw
        case rel => exact ⟨j + 1, by omega, by go_num, K9, Q9, X9, R9, W9⟩
        case measure => simp [intOf]; omega
      obtain rfl : l.length = j := by omega
      have hjj : ¬ (l.length : Int) < l.length := by omega
      have x0 := cell_at XJ.out 0
      have x1 := cell_at XJ.out 1
      have x2 := cell_at XJ.out 2
      have x3 := cell_at XJ.out 3
      simp at x0 x1 x2 x3
      have K6 := KJ
      have Q6 := QJ
      have X6 := XJ
      have R6 := RJ
      have W6 := WJ
      clear KJ QJ XJ RJ WJ
      generalize wr = w6 at *
      have I0 := Lib.hid K6.out.inv
      go_upto_block 4 with fail
      go_cut [15, 16, 17, 18, 20] (fun _ _ _ _ _ wx => ∃ (M7 : PM) (R' : List Int), Hid (BkAt wx (fun n => ((n < w3.heap.size ∨ n = rb) ∨ n = xb) ∨ n = wb) b M7) ∧ Hid (Below w3.heap.size w3 wx) ∧ Hid (obj wx rb = some (.cells (Be.rowC R') 3 (0, 0))) ∧ Hid (obj wx wb = some (.cells (boolC (wasL M.seats M.now l.length l.length)) 4 (0, 0))) ∧ Hid (FairI M7 R' ∧ (∀ v, R'.getD v 0 ≤ 2000 * ((k + 1 : Nat) : Int)) ∧ R'.length = l.length) ∧ Hid (M7.cfg = c ∧ M7.l = l ∧ M.now ≤ M7.now) ∧ Hid (∀ v, Be.uOf M7.seats v = Be.uOf M.seats v ∨ M.cfg.q.f ≤ R'.getD v 0))
      case first =>
        by_cases hd0 : x.d = 0
        · have hb0 : (x.d == 0) = true := by simpa using hd0
          clear hd0
          have HA := Lib.hid (ask_bk w6 _ b M x.v x.kind T K6.out)
          have SA := Lib.hid (askP_same M x.v x.kind T)
          have FA := Lib.hid (fair_ask HFI.out.1 K6.out.inv (v := x.v) (kind := x.kind) TB.out.1 CE.out)
          generalize askP M x.v x.kind T = r at *
          obtain ⟨M7, id, is, E⟩ := r
          simp only at HA SA FA
          go_wp2_with fail
          refine HA.out.mono ?_
          rintro e w7 ⟨rfl, h7, k7⟩
          have q7 : ∀ n, (((n < w3.heap.size ∨ n = rb) ∨ n = xb) ∨ n = wb) → obj w7 n = obj w6 n := fun n hn => k7.block n (K6.out.lt n hn) (fun hh => hh hn)
          have K7 := Lib.hid h7
          have Q7 := Lib.hid (Q6.out.trans (keepsX (k7.mono fun n hn hx => hn (.inl (.inl (.inl hx)))) Q6.out.size))
          have R7 := Lib.hid ((q7 rb (.inl (.inl (.inr rfl)))).trans R6.out)
          have W7 := Lib.hid ((q7 wb (.inr rfl)).trans W6.out)
          clear h7 k7 q7 HA K6 Q6 R6 W6
          have F7 : Hid (FairI M7 R ∧ (∀ v, R.getD v 0 ≤ 2000 * ((k + 1 : Nat) : Int)) ∧ R.length = l.length) := Lib.hid ⟨FA.out, fun v => by have := HFI.out.2.1 v; omega, HFI.out.2.2⟩
          have C7 : Hid (M7.cfg = c ∧ M7.l = l ∧ M.now ≤ M7.now) := Lib.hid ⟨SA.out.1.trans HCL.out.1, SA.out.2.1.trans HCL.out.2, by rw [SA.out.2.2.2.2 CE.out]; exact TB.out.1⟩
          have U7 : Hid (∀ v, Be.uOf M7.seats v = Be.uOf M.seats v ∨ M.cfg.q.f ≤ R.getD v 0) := Lib.hid (fun v => .inl (by rw [SA.out.2.2.1]))
          clear FA SA HFI X6 x0 x1 x2 x3
          obtain ⟨R', hR'⟩ : ∃ R', R' = R := ⟨_, rfl⟩
          rw [← hR'] at F7 U7 R7
          clear hR'
          go_wp2_with fail
          go_meet
          exact ⟨_, _, K7, Q7, R7, W7, F7, C7, U7⟩
        have hb0 : (x.d == 0) = false := by simpa using hd0
        clear hd0
        by_cases hd1 : x.d = 1
        · have hb1 : (x.d == 1) = true := by simpa using hd1
          clear hd1
          have HA := Lib.hid (got_bk w6 _ b M x.v x.id x.kind T K6.out)
          have SA := Lib.hid (gotP_same M x.v x.id x.kind T)
          have GY := Lib.hid (fun h1 => got_yes K6.out.inv (v := x.v) (id := x.id) (kind := x.kind) CE.out h1)
          have FY := Lib.hid (fun h1 => fair_got HFI.out.1 K6.out.inv (v := x.v) (id := x.id) (kind := x.kind) TB.out.1 CE.out h1)
          have FN := Lib.hid (fun h1 => fair_gotno HFI.out.1 K6.out.inv (v := x.v) (id := x.id) (kind := x.kind) TB.out.1 CE.out h1)
          have GN := Lib.hid (fun h1 => (got_no (M := M) (v := x.v) (id := x.id) (kind := x.kind) (now := T) h1).2)
          generalize gotP M x.v x.id x.kind T = r at *
          obtain ⟨M7, ⟨ai, an, ak⟩, E⟩ := r
          simp only [Ak.askV] at HA SA GY FY FN GN
          go_wp2_with fail
          refine HA.out.mono ?_
          rintro e w7 ⟨rfl, h7, k7⟩
          have q7 : ∀ n, (((n < w3.heap.size ∨ n = rb) ∨ n = xb) ∨ n = wb) → obj w7 n = obj w6 n := fun n hn => k7.block n (K6.out.lt n hn) (fun hh => hh hn)
          have K7 := Lib.hid h7
          have Q7 := Lib.hid (Q6.out.trans (keepsX (k7.mono fun n hn hx => hn (.inl (.inl (.inl hx)))) Q6.out.size))
          have R7 := Lib.hid ((q7 rb (.inl (.inl (.inr rfl)))).trans R6.out)
          have W7 := Lib.hid ((q7 wb (.inr rfl)).trans W6.out)
          clear h7 k7 q7 HA K6 Q6 R6 W6
          have C7 : Hid (M7.cfg = c ∧ M7.l = l ∧ M.now ≤ M7.now) := Lib.hid ⟨SA.out.1.trans HCL.out.1, SA.out.2.1.trans HCL.out.2, by rw [SA.out.2.2 CE.out]; exact TB.out.1⟩
          clear X6 x0 x1 x2 x3
          by_cases hE7 : E = 0
          case neg =>
            have F7 : Hid (FairI M7 R ∧ (∀ v, R.getD v 0 ≤ 2000 * ((k + 1 : Nat) : Int)) ∧ R.length = l.length) := Lib.hid ⟨FN.out hE7, fun v => by have := HFI.out.2.1 v; omega, HFI.out.2.2⟩
            have U7 : Hid (∀ v, Be.uOf M7.seats v = Be.uOf M.seats v ∨ M.cfg.q.f ≤ R.getD v 0) := Lib.hid (fun v => .inl (by rw [GN.out hE7]))
            clear FY FN GN GY SA HFI
            obtain ⟨R', hR'⟩ : ∃ R', R' = R := ⟨_, rfl⟩
            rw [← hR'] at F7 U7 R7
            clear hR'
            have b9 : Below w7.heap.size w7 (w7.alloc (.cells #[.int .i64 ai, .int .i64 an, .int .i64 ak] 47)) := (Below.refl _ _).alloc (Nat.le_refl _) _
            have K8 := Lib.hid (K7.out.below b9)
            have Q8 := Lib.hid (Q7.out.trans (b9.mono Q7.out.size))
            have R8 := Lib.hid ((obj_below b9 (lt_of_obj R7.out)).trans R7.out)
            have W8 := Lib.hid ((obj_below b9 (lt_of_obj W7.out)).trans W7.out)
            clear K7 Q7 R7 W7 b9
            go_wp2_with fail
            generalize w7.alloc (.cells #[.int .i64 ai, .int .i64 an, .int .i64 ak] 47) = w8 at *
            have K7 := K8
            have Q7 := Q8
            have R7 := R8
            have W7 := W8
            clear K8 Q8 R8 W8
            go_meet
            exact ⟨_, _, K7, Q7, R7, W7, F7, C7, U7⟩
          obtain ⟨-, han, -, -, -, hv0, hv1⟩ := GY.out hE7
          obtain ⟨f1, f2⟩ := FY.out hE7
          subst hE7
          rw [← han] at hv0 hv1 f1
          clear han
          obtain ⟨vi, rfl⟩ : ∃ vi : Nat, an = vi := ⟨an.toNat, by omega⟩
          simp only [Int.toNat_natCast] at f1
          rw [HCL.out.2] at hv1
          have hvl : vi < l.length := by omega
          have F7 : Hid (FairI M7 (R.set vi 0) ∧ (∀ v, (R.set vi 0).getD v 0 ≤ 2000 * ((k + 1 : Nat) : Int)) ∧ (R.set vi 0).length = l.length) := Lib.hid ⟨f1, fun v => by have := HFI.out.2.1 v; rw [Be.getD_set]; split <;> omega, by rw [List.length_set]; exact HFI.out.2.2⟩
          have U7 : Hid (∀ v, Be.uOf M7.seats v = Be.uOf M.seats v ∨ M.cfg.q.f ≤ (R.set vi 0).getD v 0) := Lib.hid (fun v => .inl (f2 v))
          have cr : w7.cell? ⟨rb, vi, none⟩ = some (.int .i64 (R.getD vi 0)) := by
            have h1 := cell_at R7.out vi
            have h2 : vi < R.length := by rw [HFI.out.2.2]; exact hvl
            rw [h1, Be.rowC_get R h2]
            simp [List.getD, h2]
          have yr := frozen_at R7.out
          have zr := lt_of_obj R7.out
          have kk : Keeps (fun n => n = rb) w7 (w7.setCell ⟨rb, vi, none⟩ (.int .i64 0)) := (Keeps.refl (fun n => n = rb) w7).setCell (a := ⟨rb, vi, none⟩) (.inl rfl) _
          have bz : Below (w7.setCell ⟨rb, vi, none⟩ (.int .i64 0)).heap.size (w7.setCell ⟨rb, vi, none⟩ (.int .i64 0)) ((w7.setCell ⟨rb, vi, none⟩ (.int .i64 0)).alloc (.cells #[.int .i64 ai, .int .i64 vi, .int .i64 ak] 47)) := (Below.refl _ _).alloc (Nat.le_refl _) _
          have q9 := Q7.out.trans (kk.below (fun n hn => by have := ZM.out; omega) Q7.out.size)
          have K9 := Lib.hid ((K7.out.beside (kk.mono fun n hn => .inl (.inl (.inr hn)))).below bz)
          have Q9 := Lib.hid (q9.trans (bz.mono q9.size))
          have w9 := (obj_setCell_ne w7 ⟨rb, vi, none⟩ (.int .i64 0) wb NWB.out.1).trans W7.out
          have W9 := Lib.hid ((obj_below bz (lt_of_obj w9)).trans w9)
          have r9 := obj_setCell_at (.int .i64 0) (i := vi) R7.out
          rw [Be.rowC_set] at r9
          have R9 := Lib.hid ((obj_below bz (lt_of_obj r9)).trans r9)
          generalize R.getD vi 0 = ro at *
          clear FY FN GN GY SA HFI f1 f2 r9 w9 q9 bz kk hv0 hv1 K7 Q7 R7 W7
          generalize R.set vi 0 = R' at *
          go_wp2_with fail
          clear cr yr zr
          generalize (w7.setCell ⟨rb, vi, none⟩ (.int .i64 0)).alloc (.cells #[.int .i64 ai, .int .i64 vi, .int .i64 ak] 47) = w9 at *
          have K7 := K9
          have Q7 := Q9
          have R7 := R9
          have W7 := W9
          clear K9 Q9 R9 W9
          go_meet
          exact ⟨_, _, K7, Q7, R7, W7, F7, C7, U7⟩
        have hb1 : (x.d == 1) = false := by simpa using hd1
        clear hd1
        by_cases hd2 : x.d = 2
        · have hb2 : (x.d == 2) = true := by simpa using hd2
          clear hd2
          have HA := Lib.hid (tick_bk w6 _ b M T K6.out)
          have SA := Lib.hid (tickP_same M T)
          have TT := Lib.hid (tick_t K6.out.inv CE.out)
          have FT := Lib.hid (fair_tick HFI.out.1 K6.out.inv TB.out.1 CE.out)
          have FP0 := Lib.hid HFI.out.1.pos
          have HFL0 := Lib.hid (And.intro (PInvW.wlen K6.out.inv) (And.intro (PInvW.len K6.out.inv) (PInvW.room K6.out.inv)))
          generalize tickP M T = r at *
          obtain ⟨M7, fl, E⟩ := r
          simp only at HA SA TT FT
          obtain ⟨hE7, tt⟩ := TT.out
          subst hE7
          have FND : Hid (∀ a ∈ fl, 0 ≤ a.node ∧ a.node < l.length) := Lib.hid (fun a ha => by have := tt.node a ha; rw [HCL.out.2] at this; exact this)
          have HFL : Hid (fl.length ≤ 1024) := Lib.hid (by
            obtain ⟨D, hDW, hid, -⟩ := tt.ex
            have h4 := congrArg List.length hDW
            rw [List.length_append] at h4
            have h5 := congrArg List.length hid
            simp at h5
            obtain ⟨h1, h2, h3⟩ := HFL0.out
            omega)
          clear tt TT HFL0
          go_wp2_with fail
          refine HA.out.mono ?_
          rintro e w7 ⟨fv, rfl, own7, h7, k7⟩
          have HNB0 : Hid (∀ g, fv.ownBlock = some g → g ≠ rb) := Lib.hid (fun g e => by have h1 := (own7.1.lt g e).1; have h2 := K6.out.lt rb (.inl (.inl (.inr rfl))); omega)
          have q7 : ∀ n, (((n < w3.heap.size ∨ n = rb) ∨ n = xb) ∨ n = wb) → obj w7 n = obj w6 n := fun n hn => k7.block n (K6.out.lt n hn) (fun hh => hh hn)
          have K7 := Lib.hid h7
          have Q7 := Lib.hid (Q6.out.trans (keepsX (k7.mono fun n hn hx => hn (.inl (.inl (.inl hx)))) Q6.out.size))
          have R7 := Lib.hid ((q7 rb (.inl (.inl (.inr rfl)))).trans R6.out)
          have W7 := Lib.hid ((q7 wb (.inr rfl)).trans W6.out)
          clear h7 k7 q7 HA K6 Q6 R6 W6
          have C7 : Hid (M7.cfg = c ∧ M7.l = l ∧ M.now ≤ M7.now) := Lib.hid ⟨SA.out.1.trans HCL.out.1, SA.out.2.1.trans HCL.out.2, by rw [SA.out.2.2 CE.out]; exact TB.out.1⟩
          obtain ⟨oaf, capf, rfl⟩ := own7.slice
          have HNB : Hid (∀ a, oaf = some a → a.block ≠ rb) := Lib.hid (fun a e => HNB0.out a.block (by rw [e]; rfl))
          have SF := Lib.hid (own7.slIn akL_length)
          have hfl : fl.length ≤ 1024 := HFL.out
          have RL0 : Hid ((incAll R (fl.take 0)).length = l.length) := Lib.hid (by rw [incAll_len]; exact HFI.out.2.2)
          have HR0 := Lib.hid HFI.out.2
          clear X6 x0 x1 x2 x3 own7 HNB0 SA HFI
          go_wp2_with fail
          go_loopw [20, 134] (fun _ v134 wr => ∃ (j : Nat), j ≤ fl.length ∧ v134 = .int .i64 j ∧ Hid (BkAt wr (fun n => ((n < w3.heap.size ∨ n = rb) ∨ n = xb) ∨ n = wb) b M7) ∧ Hid (Below w3.heap.size w3 wr) ∧ Hid (obj wr rb = some (.cells (Be.rowC (incAll R (fl.take j))) 3 (0, 0))) ∧ Hid (obj wr wb = some (.cells (boolC (wasL M.seats M.now l.length l.length)) 4 (0, 0))) ∧ Hid (SlIn wr (.slice oaf fl.length capf) 3 akL fl)) (fun _ i _ => fl.length - (intOf i).toNat)
          case atStart => exact ⟨0, Nat.zero_le _, rfl, K7, Q7, R7, W7, SF⟩
          case round =>
            clear K7 Q7 R7 W7 SF
            obtain ⟨j, hj, rfl, KJ, QJ, RJ, WJ, SJ⟩ := hrel
            by_cases hjl : j < fl.length
            case neg =>
              obtain rfl : fl.length = j := by omega
              have hjj9 : ¬ (fl.length : Int) < fl.length := by omega
              have K7 := KJ
              have Q7 := QJ
              have R7 := RJ
              have W7 := WJ
              rw [List.take_length] at R7
              have F7 : Hid (FairI M7 (incAll R fl) ∧ (∀ v, (incAll R fl).getD v 0 ≤ 2000 * ((k + 1 : Nat) : Int)) ∧ (incAll R fl).length = l.length) := Lib.hid ⟨FT.out.1, fun v => by have h1 := HR0.out.1 v; have h2 := incAll_le fl R v; have h3 := HFL.out; omega, by rw [incAll_len]; exact HR0.out.2⟩
              have U7 : Hid (∀ v, Be.uOf M7.seats v = Be.uOf M.seats v ∨ M.cfg.q.f ≤ (incAll R fl).getD v 0) := Lib.hid FT.out.2
              clear KJ QJ RJ WJ SJ FT
              generalize incAll R fl = R' at *
              generalize wr = w7 at *
              go_wp2_with fail
              go_meet
              exact ⟨_, _, K7, Q7, R7, W7, F7, C7, U7⟩
            have hji : (j : Int) < fl.length := by omega
            obtain ⟨bf, of_, rfl, hbf, hrf⟩ := sl_row SJ.out (by omega)
            have hsf := hrf j hjl
            have hnd := FND.out fl[j] (List.getElem_mem _)
            have HIN := Lib.hid (incAll_take fl R hjl)
            generalize fl[j] = a at *
            obtain ⟨ai, an, ak⟩ := a
            simp only [akL] at hsf
            simp only at hnd HIN
            obtain ⟨d0, d1, d2⟩ := sub3 hsf
            obtain ⟨hn0, hn1⟩ := hnd
            obtain ⟨ni, rfl⟩ : ∃ ni : Nat, an = ni := ⟨an.toNat, by omega⟩
            simp only [Int.toNat_natCast] at HIN
            have hnl : ni < l.length := by omega
            have hrl : (incAll R (fl.take j)).length = l.length := by rw [incAll_len]; exact HR0.out.2
            have hbd := incAll_le (fl.take j) R ni
            have hbd0 := HR0.out.1 ni
            have hpos := Int.le_trans (FP0.out ni) (incAll_ge (fl.take j) R ni)
            have htk : ((fl.take j).length : Int) ≤ 1024 := by have h1 := HFL.out; simp; omega
            generalize hIj : incAll R (fl.take j) = Rj at *
            have cr : wr.cell? ⟨rb, ni, none⟩ = some (.int .i64 (Rj.getD ni 0)) := by
              have h1 := cell_at RJ.out ni
              have h2 : ni < Rj.length := by rw [hrl]; exact hnl
              rw [h1, Be.rowC_get Rj h2]
              simp [List.getD, h2]
            have yr := frozen_at RJ.out
            have zr := lt_of_obj RJ.out
            have ex : Hid (incAll R (fl.take (j + 1)) = Rj.set ni (Rj.getD ni 0 + 1)) := Lib.hid (by rw [HIN.out]; rfl)
            have kk : Keeps (fun n => n = rb) wr (wr.setCell ⟨rb, ni, none⟩ (.int .i64 (Rj.getD ni 0 + 1))) := (Keeps.refl (fun n => n = rb) _).setCell (a := ⟨rb, ni, none⟩) (.inl rfl) _
            have bz : Below (wr.setCell ⟨rb, ni, none⟩ (.int .i64 (Rj.getD ni 0 + 1))).heap.size (wr.setCell ⟨rb, ni, none⟩ (.int .i64 (Rj.getD ni 0 + 1))) ((wr.setCell ⟨rb, ni, none⟩ (.int .i64 (Rj.getD ni 0 + 1))).alloc (.cells #[.int .i64 ai, .int .i64 ni, .int .i64 ak] 47)) := (Below.refl _ _).alloc (Nat.le_refl _) _
            have q9 := QJ.out.trans (kk.below (fun n hn => by have := ZM.out; omega) QJ.out.size)
            have K9 := Lib.hid ((KJ.out.beside (kk.mono fun n hn => .inl (.inl (.inr hn)))).below bz)
            have Q9 := Lib.hid (q9.trans (bz.mono q9.size))
            have w9 := (obj_setCell_ne wr ⟨rb, ni, none⟩ (.int .i64 (Rj.getD ni 0 + 1)) wb NWB.out.1).trans WJ.out
            have W9 := Lib.hid ((obj_below bz (lt_of_obj w9)).trans w9)
            have S9 := Lib.hid ((SJ.out.of_some kk.size fun a e hb => kk.block _ hb (HNB.out a e)).below bz)
            have rr := obj_setCell_at (.int .i64 (Rj.getD ni 0 + 1)) (i := ni) RJ.out
            rw [Be.rowC_set, ← ex.out] at rr
            have R9 := Lib.hid ((obj_below bz (lt_of_obj rr)).trans rr)
            have hkm : (k : Int) < 50 := by omega
            have hwr : IntKind.i64.wrap (Rj.getD ni 0 + 1) = Rj.getD ni 0 + 1 := wrap_id (by omega) (by omega)
            clear bz q9 w9 rr hbd hbd0 hpos htk hrf hsf KJ QJ RJ WJ SJ ex HIN hrl hIj kk
            generalize Rj.getD ni 0 = rn at *
            go_wp2_with fail
            exact ⟨⟨j + 1, by omega, by simp, K9, Q9, R9, W9, S9⟩, by simp [intOf]; omega⟩
        have hb2 : (x.d == 2) = false := by simpa using hd2
        clear hd2
        have F7 : Hid (FairI M R ∧ (∀ v, R.getD v 0 ≤ 2000 * ((k + 1 : Nat) : Int)) ∧ R.length = l.length) := Lib.hid ⟨HFI.out.1, fun v => by have := HFI.out.2.1 v; omega, HFI.out.2.2⟩
        have C7 : Hid (M.cfg = c ∧ M.l = l ∧ M.now ≤ M.now) := Lib.hid ⟨HCL.out.1, HCL.out.2, Int.le_refl _⟩
        have U7 : Hid (∀ v, Be.uOf M.seats v = Be.uOf M.seats v ∨ M.cfg.q.f ≤ R.getD v 0) := Lib.hid (fun v => .inl rfl)
        clear X6 x1 x2 x3 HFI
        go_wp2_with fail
        go_meet
        exact ⟨M, R, K6, Q6, R6, W6, F7, Lib.hid ⟨HCL.out.1, HCL.out.2, Int.le_refl _⟩, Lib.hid (fun v => .inl rfl)⟩
      case rest =>
        obtain ⟨M7, R', K7, Q7, R7, W7, F7, C7, U7⟩ := hcut
        generalize wc = w7 at *
        clear K6 Q6 X6 R6 W6 x0 x1 x2 x3 HFI
        obtain ⟨T7, hT7⟩ : ∃ T7, T7 = M7.now := ⟨_, rfl⟩
        have ET := Lib.hid hT7
        have TB7 : Hid (M.now ≤ T7) := Lib.hid (by rw [hT7]; exact C7.out.2.2)
        clear hT7
        have HMY := Lib.hid (PInvW.may K7.out.inv)
        have SL7 : Hid (M7.seats.length = l.length) := Lib.hid ((PInvW.seats_len K7.out.inv).trans (by rw [C7.out.2.1]))
        have SHB := Lib.hid (Be.share_bd HMY.out M7.now F7.out.1.share)
        rw [← ET.out] at SHB
        have STK : Hid (Be.stkI M7.l M7.seats T7 = Be.stkFrom l M7.seats T7 0) := Lib.hid (by
          unfold Be.stkI
          rw [C7.out.2.1, if_pos ⟨CK.out, SL7.out⟩]
          rfl)
        have WPOS : Hid (∀ x ∈ l, 1 ≤ x.wt) := Lib.hid (by
          obtain ⟨-, -, -, hw⟩ := Be.chk_32 CK.out
          exact (Be.wtsF_sum _ _ hw (by decide)).2.2)
        have SPOS : Hid (∀ j, 0 ≤ Be.stkFrom l M7.seats T7 j) := Lib.hid (fun j => Be.stkF_pos WPOS.out _)
        rw [C7.out.1, STK.out, C7.out.2.1] at SHB
        have SB0 := Lib.hid SHB.out.2.2.2.1
        go_wp2_with fail
        go_loopw [21, 22, 158] (fun v21 _ v158 wr => ∃ (j : Nat) (sum : Int), j ≤ l.length ∧ v158 = .int .i64 j ∧ v21 = .int .i64 sum ∧ Hid (sum + Be.stkFrom l M7.seats T7 j = Be.stkFrom l M7.seats T7 0 ∧ 0 ≤ sum) ∧ Hid (BkAt wr (fun n => ((n < w3.heap.size ∨ n = rb) ∨ n = xb) ∨ n = wb) b M7) ∧ Hid (Below w3.heap.size w3 wr) ∧ Hid (obj wr rb = some (.cells (Be.rowC R') 3 (0, 0))) ∧ Hid (obj wr wb = some (.cells (boolC (wasL M.seats M.now l.length l.length)) 4 (0, 0)))) (fun _ _ i _ => l.length - (intOf i).toNat)
        case atStart => exact ⟨0, 0, Nat.zero_le _, rfl, rfl, Lib.hid ⟨by omega, Int.le_refl _⟩, K7, Q7, R7, W7⟩
        case round =>
          clear K7 Q7 R7 W7
          obtain ⟨j, sum, hj, rfl, rfl, HSM, KJ, QJ, RJ, WJ⟩ := hrel
          have bwj := Lib.hid (B3.out.trans (QJ.out.mono ZB.out))
          have oj := (obj_below QJ.out (lt_of_obj O3.out)).trans O3.out
          rw [← HCC.out] at oj
          have OJ := Lib.hid oj
          clear oj
          by_cases hjl : j < l.length
          case pos =>
            have HBN := Lib.hid (benched_bk wr _ b M7 KJ.out (j : Int))
            rw [← ET.out] at HBN
            have hji : (j : Int) < l.length := by omega
            obtain ⟨bl, offl, rfl, hbl, hrowl⟩ := sl_row HL.out (by omega)
            have hsl := hrowl j hjl
            rw [← obj_below bwj.out hbl] at hsl
            have STEP := Lib.hid (Be.stkFrom_step l M7.seats T7 (j := j) (by rw [SL7.out]; exact hjl) hjl)
            have BW := Lib.hid (fun hb => bench_was I0.out KJ.out.inv (M' := M7) (R' := R') (by rw [C7.out.2.1, HCL.out.2]) TB7.out U7.out (v := j) (by rw [HCL.out.2]; exact hjl) hb)
            have hwt := WPOS.out l[j] (List.getElem_mem _)
            generalize l[j] = vj at *
            obtain ⟨vn, vw⟩ := vj
            have c1 : wr.cell? ⟨bl, offl + j * 2 + 1, none⟩ = some (.int .i64 vw) := by have := subOf_cell hsl (j := 1) (by decide); simpa [Be.vdL] using this
            have hblr : bl < wr.heap.size := Nat.lt_of_lt_of_le hbl bwj.out.size
            simp only at hwt STEP
            clear hsl hrowl
            generalize Be.isB M7.seats (j : Int) T7 = bj at *
            cases bj with
            | false =>
              go_wp2_with fail
              refine HBN.out.mono ?_
              rintro e w8 ⟨rfl, b8⟩
              have K8 := Lib.hid (KJ.out.below b8)
              have Q8 := Lib.hid (QJ.out.trans (b8.mono QJ.out.size))
              have R8 := Lib.hid ((obj_below b8 (lt_of_obj RJ.out)).trans RJ.out)
              have W8 := Lib.hid ((obj_below b8 (lt_of_obj WJ.out)).trans WJ.out)
              have SM8 : Hid (sum + Be.stkFrom l M7.seats T7 (j + 1) = Be.stkFrom l M7.seats T7 0 ∧ 0 ≤ sum) := Lib.hid (by have h1 := STEP.out; have h2 := HSM.out; simp at h1; omega)
              clear b8 KJ QJ RJ WJ HBN STEP BW c1 hblr HSM OJ
              go_wp2_with fail
              go_roundw
              case rel => exact ⟨j + 1, sum, by omega, by go_num, rfl, SM8, K8, Q8, R8, W8⟩
              case measure => simp [intOf]; omega
            | true =>
              have hst := STEP.out
              simp at hst
              have hsm := HSM.out
              have hp1 := SPOS.out (j + 1)
              have hb0 := SB0.out
              have SM8 : Hid ((sum + vw) + Be.stkFrom l M7.seats T7 (j + 1) = Be.stkFrom l M7.seats T7 0 ∧ 0 ≤ sum + vw) := Lib.hid (by omega)
              have hwrap : IntKind.i64.wrap (sum + vw) = sum + vw := wrap_id (by omega) (by omega)
              clear hst hsm hp1 hb0
              go_wp2_with fail
              refine HBN.out.mono ?_
              rintro e w8 ⟨rfl, b8⟩
              have c18 := (b8.cell (p := ⟨bl, offl + j * 2 + 1, none⟩) hblr).trans c1
              have K8 := Lib.hid (KJ.out.below b8)
              have Q8 := Lib.hid (QJ.out.trans (b8.mono QJ.out.size))
              have R8 := Lib.hid ((obj_below b8 (lt_of_obj RJ.out)).trans RJ.out)
              have W8 := Lib.hid ((obj_below b8 (lt_of_obj WJ.out)).trans WJ.out)
              have o8 := (obj_below b8 (lt_of_obj OJ.out)).trans OJ.out
              have y6 : w8.cell? ⟨w.heap.size, 6, none⟩ = some (.int .i64 c.q.f) := cell_at o8 6
              have r8 : w8.cell? ⟨rb, j, none⟩ = some (.int .i64 (R'.getD j 0)) := by
                have h1 := cell_at R8.out j
                have h2 : j < R'.length := by rw [F7.out.2.2]; exact hjl
                rw [h1, Be.rowC_get R' h2]
                simp [List.getD, h2]
              have u8 : w8.cell? ⟨wb, j, none⟩ = some (.bool (Be.isB M.seats (j : Int) M.now)) := by
                have h1 := cell_at W8.out j
                have h2 : j < (wasL M.seats M.now l.length l.length).length := by rw [wasL_len]; exact hjl
                rw [h1, boolC_get _ h2, wasL_get _ _ _ hjl]
              have zt := lt_of_obj o8
              have zr := lt_of_obj R8.out
              have zw := lt_of_obj W8.out
              have BW8 := BW.out trivial
              rw [HCL.out.1] at BW8
              clear b8 KJ QJ RJ WJ HBN STEP BW c1 HSM OJ o8
              generalize R'.getD j 0 = rj at *
              generalize Be.isB M.seats (j : Int) M.now = ij at *
              go_wp2_with fail
              cases ij with
              | true =>
                go_quiet (fail)
                go_wp2_with fail
                go_roundw
                case rel => exact ⟨j + 1, sum + vw, by omega, by go_num, rfl, SM8, Lib.hid (K8.out.below (below_drewN (Below.refl _ w8) _)), Lib.hid (below_drewN Q8.out _), R8, W8⟩
                case measure => simp [intOf]; omega
              | false =>
                have hrj : ¬ rj < c.q.f := by rcases BW8 with h | h; cases h; omega
                have hrd : decide (rj < c.q.f) = false := by simpa using hrj
                go_quiet (fail)
                go_wp2_with fail
                go_roundw
                case rel => exact ⟨j + 1, sum + vw, by omega, by go_num, rfl, SM8, Lib.hid (K8.out.below (below_drewN (Below.refl _ w8) _)), Lib.hid (below_drewN Q8.out _), R8, W8⟩
                case measure => simp [intOf]; omega
          obtain rfl : l.length = j := by omega
          have hse := HSM.out
          rw [← SL7.out, Be.stkFrom_end] at hse
          have HSE : Hid (sum = Be.stkFrom l M7.seats T7 0) := Lib.hid (by omega)
          have hjj2 : ¬ (l.length : Int) < l.length := by omega
          have K9 := Lib.hid (KJ.out.mono (Y := fun n => n < w3.heap.size ∨ n = rb) fun n hn => .inl (.inl hn))
          clear hse
          have C9 : Hid (M7.cfg = c ∧ M7.l = l) := Lib.hid ⟨C7.out.1, C7.out.2.1⟩
          by_cases hsum : 0 < sum
          case neg =>
            have hsd : decide (0 < sum) = false := by simpa using hsum
            go_wp2_with fail
            refine wp_region_later wr (Below.refl _ wr) (by kernel_rfl) (by kernel_rfl) ?_
            repeat (go_big_quiet_step (fail))
            refine wpQuiet_nil ?_
            rintro Wz ⟨y, ez⟩
            have hz : Below wr.heap.size wr Wz := by rw [ez]; exact y.h
            clear ez y
            have K10 := Lib.hid (K9.out.below hz)
            have Q10 := Lib.hid (QJ.out.trans (hz.mono QJ.out.size))
            have R10 := Lib.hid ((obj_below hz (lt_of_obj RJ.out)).trans RJ.out)
            clear hz K9 QJ RJ WJ KJ
            go_wp2_with fail
            go_roundw
            case rel => first | exact ⟨k + 1, M7, R', by omega, by go_num, K10, Q10, R10, F7, C9⟩ | ((repeat apply Exists.intro); exact ⟨⟨k + 1, M7, R', by omega, by go_num, K10, Q10, R10, F7, C9⟩, rfl⟩)
            case measure => simp [intOf]; omega
          have hsd : decide (0 < sum) = true := by simpa using hsum
          obtain ⟨g1, g2, g3, g4, g5, g6, g7⟩ := SHB.out
          rw [← HSE.out] at g4 g7
          have hrl := Be.ruleE_n (Be.mayE_0 HMY.out).1
          rw [C7.out.1] at hrl
          have hnu : 1 ≤ c.q.nu := by
            rcases Int.lt_or_le 0 c.q.nu with h | h
            · omega
            · exfalso
              have h0 : c.q.nu = 0 := by omega
              rw [h0, Int.zero_mul] at g7
              have h1 : 0 < c.q.de * sum := Int.mul_pos (by omega) hsum
              omega
          have HWI : Hid (∀ y : Later wr, Calls Try.prog 16 #[.int .i64 sum, .int .i64 (Be.tot l), .agg #[.int .i64 c.q.f, .int .i64 c.q.lo, .int .i64 c.q.fo, .int .i64 c.q.nu, .int .i64 c.q.de]] y.w fun e w' => e = .returned (.bool true) ∧ Below y.w.heap.size y.w w') := Lib.hid (fun y => by
            have := within_any y.w sum (Be.tot l) c.q (by omega) (by omega) (by omega) (by omega) (by omega) hde hnu (by omega)
            rwa [decide_eq_true (by rw [Int.mul_comm sum, Int.mul_comm (Be.tot l)]; exact g7)] at this)
          have HTO : Hid (∀ y : Later wr, Calls Try.prog 17 #[.slice oal l.length capl] y.w fun e w' => e = .returned (.int .i64 (Be.tot l)) ∧ Below y.w.heap.size y.w w') := Lib.hid (fun y => Be.totalB y.w _ l (HL.out.below (bwj.out.trans (y.h.mono bwj.out.size))) (fun x hx => by have := (HFN.out trivial).2 x hx; omega))
          generalize Be.tot l = tl at *
          have z6 : wr.cell? ⟨w.heap.size, 6, none⟩ = some (.int .i64 c.q.f) := cell_at OJ.out 6
          have z7 : wr.cell? ⟨w.heap.size, 7, none⟩ = some (.int .i64 c.q.lo) := cell_at OJ.out 7
          have z8 : wr.cell? ⟨w.heap.size, 8, none⟩ = some (.int .i64 c.q.fo) := cell_at OJ.out 8
          have z9 : wr.cell? ⟨w.heap.size, 9, none⟩ = some (.int .i64 c.q.nu) := cell_at OJ.out 9
          have z10 : wr.cell? ⟨w.heap.size, 10, none⟩ = some (.int .i64 c.q.de) := cell_at OJ.out 10
          have zt := lt_of_obj OJ.out
          clear g1 g2 g3 g4 g5 g6 g7 hrl hnu
          go_wp2_with fail
          refine wp_region_later wr (Below.refl _ wr) (by kernel_rfl) (by kernel_rfl) ?_
          repeat (go_big_quiet_step (first | (go_at_call 17; with_reducible exact Calls.later (HTO.out _)) | (go_at_call 16; with_reducible exact Calls.later (HWI.out _))))
          refine wpQuiet_nil ?_
          rintro Wz ⟨y, ez⟩
          have hz : Below wr.heap.size wr Wz := by rw [ez]; exact y.h
          clear ez y
          have K10 := Lib.hid (K9.out.below hz)
          have Q10 := Lib.hid (QJ.out.trans (hz.mono QJ.out.size))
          have R10 := Lib.hid ((obj_below hz (lt_of_obj RJ.out)).trans RJ.out)
          clear hz K9 QJ RJ WJ KJ HWI HTO z6 z7 z8 z9 z10 zt
          go_wp2_with fail
          go_roundw
          case rel => first | exact ⟨k + 1, M7, R', by omega, by go_num, K10, Q10, R10, F7, C9⟩ | ((repeat apply Exists.intro); exact ⟨⟨k + 1, M7, R', by omega, by go_num, K10, Q10, R10, F7, C9⟩, rfl⟩)
          case measure => simp [intOf]; omega
end Go.Proofs.Ytagpclgappcnbaa
