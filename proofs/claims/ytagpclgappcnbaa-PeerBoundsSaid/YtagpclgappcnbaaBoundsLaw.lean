import Derived.Test.YtagpclgappcnbaaBkY
import Derived.LoopTactic
import Derived.BigQuiet
namespace Go.Proofs.Ytagpclgappcnbaa
open Go.RowKit

/-! ### PeerBounds -/
@[local go_sem ↓] theorem hide_load27b (a : Addr) : loadVar 27 a = loadAgg 27 a := rfl
@[local go_sem] theorem run_load27b (b off : Nat) (W : World) : (loadAgg 27 ⟨b, off, none⟩).run Try.prog W = loadRes Try.prog 27 ⟨b, off, none⟩ W (subOf (obj W b) off 11) := run_loadAgg Try.isAgg27 Try.sizeOf27 b off W
set_option maxRecDepth 100000 in
set_option maxHeartbeats 4000000 in
theorem boundsLaw_any (w : World) (c : CfgD) (lv sv : Value) (l : List Be.Vd) (now : Int) (xs : List OpM) (hl : SlIn w lv 2 Be.vdL l) (hs : SlIn w sv 7 opL xs) (hx : ∀ x ∈ xs, OpOK x) (hde : c.q.de < 9223372036854775808) :
    Calls Try.prog 4 #[.agg (cfgC c), lv, .int .i64 now, sv] w fun e w' => e = .returned (.bool true) ∧ Below w.heap.size w w' := by
  have HB := Lib.hid (fun W => begun_any W)
  have b1 : Below w.heap.size w (w.alloc (.cells (cfgC c) 27)) := (Below.refl _ w).alloc (Nat.le_refl _) _
  have O1 := Lib.hid (show obj (w.alloc (.cells (cfgC c) 27)) w.heap.size = some (.cells (cfgC c) 27 (0, 0)) from obj_alloc_at _ _ _ rfl)
  have B1 := Lib.hid b1
  have HF := Lib.hid (fun W (hW : Below w.heap.size w W) => few_any W lv l (hl.below hW))
  have HN := Lib.hid (fun W (hW : Below w.heap.size w W) => new_bk W c lv l now (hl.below hW) hde)
  have HS := Lib.hid hs
  have HX := Lib.hid hx
  obtain ⟨oal, capl, rfl, -⟩ := hl
  obtain ⟨oas, caps, rfl, s1, s2, -⟩ := hs
  clear b1 hx
  generalize hcc : cfgC c = cs at *
  have HCC := Lib.hid hcc
  clear hcc
  go_enter Try.func4, Try.ntmps4
  go_wp2_with fail
  generalize w.alloc (.cells cs 27) = w1 at *
  refine (HB.out w1).mono ?_
  rintro e w2 ⟨rfl, b2⟩
  have B2 := Lib.hid (B1.out.trans (b2.mono B1.out.size))
  have O2 := Lib.hid ((obj_below b2 (lt_of_obj O1.out)).trans O1.out)
  clear b2 B1 O1
  go_wp2_with fail
  refine (HF.out w2 B2.out).mono ?_
  rintro e w3 ⟨⟨fb, rfl, hfb⟩, b3⟩
  have B3 := Lib.hid (B2.out.trans (b3.mono B2.out.size))
  have O3 := Lib.hid ((obj_below b3 (lt_of_obj O2.out)).trans O2.out)
  clear b3 B2 O2 HF hfb
  cases fb with
  | false =>
    go_wp2_with fail
    refine (HB.out w3).mono ?_
    rintro e w4 ⟨rfl, b4⟩
    go_wp2_with fail
    go_ret
    exact ⟨rfl, B3.out.trans (b4.mono B3.out.size)⟩
  | true =>
  have L3 := Lib.hid (show loadRes Try.prog 27 ⟨w.heap.size, 0, none⟩ w3 (subOf (obj w3 w.heap.size) 0 11) = .ok (.agg cs) w3 from by rw [O3.out, ← HCC.out]; rfl)
  have L3' := L3.out
  go_wp2_with fail
  clear L3 L3'
  refine (HN.out w3 B3.out).mono ?_
  rintro e w4 ⟨b4, h41, h42⟩
  have H1 := Lib.hid h41
  have H2 := Lib.hid h42
  clear h41 h42 HN
  by_cases hE : newE c l now = 0
  case neg =>
    obtain rfl := H1.out hE
    have B4 := Lib.hid (B3.out.trans (b4.mono B3.out.size))
    generalize newE c l now = E at *
    have he : (E != 0) = true := by simpa using hE
    clear b4 H1 H2
    go_wp2_with fail
    go_ret
    exact ⟨rfl, B4.out⟩
  obtain ⟨b, rfl, hbk⟩ := H2.out hE
  have K4 := Lib.hid hbk
  have Q4 := Lib.hid b4
  have ZB := Lib.hid B3.out.size
  obtain ⟨m, hm⟩ : ∃ m, m = min xs.length 50 := ⟨_, rfl⟩
  have hm1 : m ≤ xs.length := by omega
  have hm2 : m ≤ 50 := by omega
  have HR := run_lo29 HS.out hm1
  have hmi : (m : Int) = min (xs.length : Int) 50 := by omega
  rw [hmi] at HR
  have SM := Lib.hid (HS.out.takeC hm1)
  have XM : Hid (∀ x ∈ xs.take m, OpOK x) := Lib.hid (fun x hx => HX.out x (List.mem_of_mem_take hx))
  have hml : Hid ((xs.take m).length = m) := Lib.hid (by simp; omega)
  have HMC : Hid ((newM c l now).cfg = c) := Lib.hid rfl
  clear hbk b4 H1 H2 hm hmi
  generalize xs.take m = ys at *
  generalize newM c l now = M0 at *
  go_wp2_with fail
  clear HR
  go_loopw [12, 13, 14, 15, 16, 17, 18, 19, 53] (fun _ _ _ _ _ _ _ _ v53 wr => ∃ (k : Nat) (M : PM), k ≤ m ∧ v53 = .int .i64 k ∧ Hid (BkAt wr (fun n => n < w3.heap.size) b M) ∧ Hid (Below w3.heap.size w3 wr) ∧ Hid (M.cfg = c)) (fun _ _ _ _ _ _ _ _ i _ => m - (intOf i).toNat)
  case atStart => exact ⟨0, M0, Nat.zero_le _, rfl, K4, Q4, HMC⟩
  case round =>
    obtain ⟨k, M, hk, rfl, HK, HQ, HC⟩ := hrel
    clear K4 Q4 HMC
    by_cases hlt : k < m
    case neg =>
      obtain rfl : m = k := by omega
      have BF := Lib.hid (B3.out.trans (HQ.out.mono ZB.out))
      have hkk : ¬ (m : Int) < m := by omega
      go_wp2_with fail
      go_ret
      exact ⟨rfl, BF.out⟩
    have hly := hml.out
    obtain ⟨bs, off, rfl, hbb, hrow⟩ := sl_row SM.out (by omega)
    have hs := hrow k (by omega)
    have hw3r := Nat.le_trans ZB.out HQ.out.size
    have bwr := Lib.hid (B3.out.trans (HQ.out.mono ZB.out))
    rw [← obj_below bwr.out hbb] at hs
    have XO := Lib.hid (XM.out ys[k] (List.getElem_mem _))
    generalize ys[k] = x at *
    have f0 : wr.cell? ⟨bs, off + k * 7, none⟩ = some (.int .i64 x.d) := by have := subOf_cell hs (j := 0) (by decide); simpa [opL] using this
    have f1 : wr.cell? ⟨bs, off + k * 7 + 1, none⟩ = some (.int .i64 x.v) := by have := subOf_cell hs (j := 1) (by decide); simpa [opL] using this
    have f2 : wr.cell? ⟨bs, off + k * 7 + 2, none⟩ = some (.int .i64 x.id) := by have := subOf_cell hs (j := 2) (by decide); simpa [opL] using this
    have f3 : wr.cell? ⟨bs, off + k * 7 + 3, none⟩ = some (.int .i64 x.kind) := by have := subOf_cell hs (j := 3) (by decide); simpa [opL] using this
    have f4 : wr.cell? ⟨bs, off + k * 7 + 4, none⟩ = some (.int .u16 x.ticks) := by have := subOf_cell hs (j := 4) (by decide); simpa [opL] using this
    have f5 : wr.cell? ⟨bs, off + k * 7 + 5, none⟩ = some (.bool x.past) := by have := subOf_cell hs (j := 5) (by decide); simpa [opL] using this
    have f6 : wr.cell? ⟨bs, off + k * 7 + 6, none⟩ = some (.int .i64 x.now) := by have := subOf_cell hs (j := 6) (by decide); simpa [opL] using this
    have hbr : bs < wr.heap.size := Nat.lt_of_lt_of_le hbb bwr.out.size
    clear hs hrow hly
    have b1 : Below wr.heap.size wr (wr.alloc (.cells #[.int .i64 x.d, .int .i64 x.v, .int .i64 x.id, .int .i64 x.kind, .int .u16 x.ticks, .bool x.past, .int .i64 x.now] 39)) := (Below.refl _ _).alloc (Nat.le_refl _) _
    have X1 := Lib.hid (show obj (wr.alloc (.cells #[.int .i64 x.d, .int .i64 x.v, .int .i64 x.id, .int .i64 x.kind, .int .u16 x.ticks, .bool x.past, .int .i64 x.now] 39)) wr.heap.size = some (.cells #[.int .i64 x.d, .int .i64 x.v, .int .i64 x.id, .int .i64 x.kind, .int .u16 x.ticks, .bool x.past, .int .i64 x.now] 39 (0, 0)) from obj_alloc_at _ _ _ rfl)
    have K1 := Lib.hid ((HK.out.more b1).mono (Y := fun n => n < w3.heap.size ∨ n = wr.heap.size) (fun n hn => hn.imp (fun h => h) (fun h => by simp; omega)))
    have Q1 := Lib.hid (HQ.out.trans (b1.mono HQ.out.size))
    have ZX := Lib.hid HQ.out.size
    have hki : (k : Int) < m := by omega
    clear b1 HK HQ
    go_wp2_with fail
    clear f0 f1 f2 f3 f4 f5 f6 hbr
    generalize wr.alloc (.cells #[.int .i64 x.d, .int .i64 x.v, .int .i64 x.id, .int .i64 x.kind, .int .u16 x.ticks, .bool x.past, .int .i64 x.now] 39) = w5 at *
    have NB := Lib.hid (And.intro (PInvW.now0 K1.out.inv) (PInvW.now1 K1.out.inv))
    have HNOW : Hid (∀ y : Later w5, Calls Try.prog 11 #[.pointer (some ⟨b, 0, none⟩)] y.w fun e w' => e = .returned (.int .i64 M.now) ∧ Below y.w.heap.size y.w w') := Lib.hid (fun y => (now_bk _ _ b M (K1.out.below y.h)).mono (by rintro e w' ⟨rfl, rfl⟩; exact ⟨rfl, Below.refl _ _⟩))
    have HAT : Hid (∀ y : Later w5, Calls Try.prog 10 #[.agg #[.int .i64 0, .int .i64 0, .int .i64 0, .int .i64 0, .int .u16 x.ticks, .bool false, .int .i64 0], .int .i64 M.now] y.w fun e w' => e = .returned (.int .i64 (atE (tickOp x.ticks) M.now)) ∧ Below y.w.heap.size y.w w') := Lib.hid (fun y => at_any y.w (tickOp x.ticks) M.now XO.out NB.out.1 NB.out.2)
    have TB := Lib.hid (atE_bd XO.out.1 NB.out.1 NB.out.2)
    generalize atE (tickOp x.ticks) M.now = T at *
    have hb39 : ∀ W, (Instr.build 39 #[(4, .int .u16 x.ticks)]).run Try.prog W = .ok (.agg #[.int .i64 0, .int .i64 0, .int .i64 0, .int .i64 0, .int .u16 x.ticks, .bool false, .int .i64 0]) W := fun _ => by kernel_rfl
    have x4 := cell_at X1.out 4
    simp at x4
    have hx5 := lt_of_obj X1.out
    refine wp_region_later w5 (Below.refl _ w5) (by kernel_rfl) (by kernel_rfl) ?_
    repeat (go_big_quiet_step (first | (go_at_call 11; with_reducible exact Calls.later (HNOW.out _)) | (go_at_call 10; with_reducible exact Calls.later (HAT.out _))))
    refine wpQuiet_nil ?_
    rintro W6 ⟨y, e6⟩
    have h6 : Below w5.heap.size w5 W6 := by rw [e6]; exact y.h
    clear e6 y
    have K6 := Lib.hid (K1.out.below h6)
    have Q6 := Lib.hid (Q1.out.trans (h6.mono Q1.out.size))
    have X6 := Lib.hid ((obj_below h6 hx5).trans X1.out)
    clear h6 hb39 x4 hx5 HNOW HAT K1 Q1 X1
    generalize wr.heap.size = xb at *
    have x0 := cell_at X6.out 0
    have x1 := cell_at X6.out 1
    have x3 := cell_at X6.out 3
    simp at x0 x1 x3
    have CE := Lib.hid (comes_ok (M := M) TB.out.1 TB.out.2)
    by_cases hd0 : x.d = 0
    · have HA := Lib.hid (ask_bk W6 _ b M x.v x.kind T K6.out)
      have DU := Lib.hid (fun h1 h2 => ask_due (v := x.v) (kind := x.kind) K6.out.inv CE.out h1 h2)
      have SA := Lib.hid (askP_same M x.v x.kind T)
      have BD := Lib.hid (askAt_bd K6.out.inv (now := T) (by have h1 := NB.out.1; have h2 := TB.out.1; omega) TB.out.2)
      have RB0 := Lib.hid (PInvW.mean K6.out.inv).1.2.2.2.1
      generalize askP M x.v x.kind T = r at *
      obtain ⟨M7, id, is, E⟩ := r
      simp only at HA DU SA
      go_wp2_with fail
      refine HA.out.mono ?_
      rintro e w7 ⟨rfl, h7, k7⟩
      have K7 := Lib.hid h7
      have Q7 := Lib.hid (Q6.out.trans (keepsX (k7.mono fun n hn hx => hn (.inl hx)) Q6.out.size))
      have HC7 : Hid (M7.cfg = c) := Lib.hid (SA.out.1.trans HC.out)
      clear h7 k7 HA K6 Q6
      clear X6 x0 x1 x3
      by_cases hE7 : E = 0
      case neg =>
        have K8 := Lib.hid (K7.out.mono (Y := fun n => n < w3.heap.size) fun n hn => .inl hn)
        go_wp2_with fail
        go_roundw
        case rel => exact ⟨k + 1, M7, by omega, by go_num, K8, Q7, HC7⟩
        case measure => simp [intOf]; omega
      cases is with
      | true =>
        have K8 := Lib.hid (K7.out.mono (Y := fun n => n < w3.heap.size) fun n hn => .inl hn)
        go_wp2_with fail
        go_roundw
        case rel => exact ⟨k + 1, M7, by omega, by go_num, K8, Q7, HC7⟩
        case measure => simp [intOf]; omega
      | false =>
        obtain ⟨-, -, g1, g2⟩ := DU.out hE7 rfl
        have HDU := Lib.hid (due_bk w7 _ b M7 K7.out id)
        rw [g1, g2] at HDU
        have RB : Hid (M.cfg.r.max ≤ 1099511627776) := Lib.hid RB0.out
        rw [HC.out] at BD RB
        clear g1 g2 DU
        generalize askAt M T = due at *
        obtain ⟨d1, d2, d3⟩ := BD.out
        have o7 := (obj_below Q7.out (lt_of_obj O3.out)).trans O3.out
        rw [← HCC.out] at o7
        have y2 : w7.cell? ⟨w.heap.size, 2, none⟩ = some (.int .i64 c.r.min) := cell_at o7 2
        have y3 : w7.cell? ⟨w.heap.size, 3, none⟩ = some (.int .i64 c.r.max) := cell_at o7 3
        have n1 : ¬ due < T := by omega
        have n2 : ¬ c.r.max < due - T := by omega
        have hT0 := TB.out.1
        have hT1 := TB.out.2
        have hT2 := NB.out.1
        have hwr : IntKind.i64.wrap (due - T) = due - T := wrap_id (by omega) (by have h9 := RB.out; omega)
        clear o7 
        by_cases hlo : due - T < c.r.min
        · have hdm := d3 hlo
          go_wp2_with fail
          refine HDU.out.mono ?_
          rintro e w7' ⟨rfl, rfl⟩
          go_wp2_with fail
          clear y2 y3 n1 n2 d1 d2 d3 hlo hwr hdm HDU BD
          have TM := Lib.hid (tmo_bd (PInvW.mean K7.out.inv))
          have HTM := Lib.hid (timeout_bk _ _ b M7 K7.out)
          rw [HC7.out] at TM HTM
          generalize Me.tmoR c.r M7.wait = tm at *
          have tm1 := TM.out.1
          have tm2 := TM.out.2
          have o7 := (obj_below Q7.out (lt_of_obj O3.out)).trans O3.out
          rw [← HCC.out] at o7
          have hz7 := Q7.out.size
          go_wp2_with fail
          refine HTM.out.mono ?_
          rintro e w8 ⟨rfl, b8⟩
          have K8 := Lib.hid ((K7.out.below b8).mono (Y := fun n => n < w3.heap.size) fun n hn => .inl hn)
          have Q8 := Lib.hid (Q7.out.trans (b8.mono Q7.out.size))
          have o8 := (obj_below b8 (lt_of_obj o7)).trans o7
          have y2 : w8.cell? ⟨w.heap.size, 2, none⟩ = some (.int .i64 c.r.min) := cell_at o8 2
          have y3 : w8.cell? ⟨w.heap.size, 3, none⟩ = some (.int .i64 c.r.max) := cell_at o8 3
          have n1 : ¬ tm < c.r.min := by omega
          have n2 : ¬ c.r.max < tm := by omega
          clear b8 o8 o7 hz7 TM HTM tm1 tm2 K7 Q7
          go_wp2_with fail
          go_roundw
          case rel => exact ⟨k + 1, M7, by omega, by go_num, K8, Q8, HC7⟩
          case measure => simp [intOf]; omega
        · go_wp2_with fail
          refine HDU.out.mono ?_
          rintro e w7' ⟨rfl, rfl⟩
          go_wp2_with fail
          clear y2 y3 n1 n2 d1 d2 d3 hlo hwr HDU BD
          have TM := Lib.hid (tmo_bd (PInvW.mean K7.out.inv))
          have HTM := Lib.hid (timeout_bk _ _ b M7 K7.out)
          rw [HC7.out] at TM HTM
          generalize Me.tmoR c.r M7.wait = tm at *
          have tm1 := TM.out.1
          have tm2 := TM.out.2
          have o7 := (obj_below Q7.out (lt_of_obj O3.out)).trans O3.out
          rw [← HCC.out] at o7
          have hz7 := Q7.out.size
          go_wp2_with fail
          refine HTM.out.mono ?_
          rintro e w8 ⟨rfl, b8⟩
          have K8 := Lib.hid ((K7.out.below b8).mono (Y := fun n => n < w3.heap.size) fun n hn => .inl hn)
          have Q8 := Lib.hid (Q7.out.trans (b8.mono Q7.out.size))
          have o8 := (obj_below b8 (lt_of_obj o7)).trans o7
          have y2 : w8.cell? ⟨w.heap.size, 2, none⟩ = some (.int .i64 c.r.min) := cell_at o8 2
          have y3 : w8.cell? ⟨w.heap.size, 3, none⟩ = some (.int .i64 c.r.max) := cell_at o8 3
          have n1 : ¬ tm < c.r.min := by omega
          have n2 : ¬ c.r.max < tm := by omega
          clear b8 o8 o7 hz7 TM HTM tm1 tm2 K7 Q7
          go_wp2_with fail
          go_roundw
          case rel => exact ⟨k + 1, M7, by omega, by go_num, K8, Q8, HC7⟩
          case measure => simp [intOf]; omega
    have x2 := cell_at X6.out 2
    simp at x2
    by_cases hd1 : x.d = 1
    · have HA := Lib.hid (got_bk W6 _ b M x.v x.id x.kind T K6.out)
      have SA := Lib.hid (gotP_same M x.v x.id x.kind T)
      generalize gotP M x.v x.id x.kind T = r at *
      obtain ⟨M7, ga, E⟩ := r
      simp only at HA SA
      go_wp2_with fail
      refine HA.out.mono ?_
      rintro e w7 ⟨rfl, h7, k7⟩
      have K7 := Lib.hid h7
      have Q7 := Lib.hid (Q6.out.trans (keepsX (k7.mono fun n hn hx => hn (.inl hx)) Q6.out.size))
      have HC7 : Hid (M7.cfg = c) := Lib.hid (SA.out.1.trans HC.out)
      clear h7 k7 HA K6 Q6
      clear X6 x0 x1 x2 x3
      go_wp2_with fail
      have TM := Lib.hid (tmo_bd (PInvW.mean K7.out.inv))
      have HTM := Lib.hid (timeout_bk _ _ b M7 K7.out)
      rw [HC7.out] at TM HTM
      generalize Me.tmoR c.r M7.wait = tm at *
      have tm1 := TM.out.1
      have tm2 := TM.out.2
      have o7 := (obj_below Q7.out (lt_of_obj O3.out)).trans O3.out
      rw [← HCC.out] at o7
      have hz7 := Q7.out.size
      go_wp2_with fail
      refine HTM.out.mono ?_
      rintro e w8 ⟨rfl, b8⟩
      have K8 := Lib.hid ((K7.out.below b8).mono (Y := fun n => n < w3.heap.size) fun n hn => .inl hn)
      have Q8 := Lib.hid (Q7.out.trans (b8.mono Q7.out.size))
      have o8 := (obj_below b8 (lt_of_obj o7)).trans o7
      have y2 : w8.cell? ⟨w.heap.size, 2, none⟩ = some (.int .i64 c.r.min) := cell_at o8 2
      have y3 : w8.cell? ⟨w.heap.size, 3, none⟩ = some (.int .i64 c.r.max) := cell_at o8 3
      have n1 : ¬ tm < c.r.min := by omega
      have n2 : ¬ c.r.max < tm := by omega
      clear b8 o8 o7 hz7 TM HTM tm1 tm2 K7 Q7
      go_wp2_with fail
      go_roundw
      case rel => exact ⟨k + 1, M7, by omega, by go_num, K8, Q8, HC7⟩
      case measure => simp [intOf]; omega
    by_cases hd2 : x.d = 2
    · have HA := Lib.hid (tick_bk W6 _ b M T K6.out)
      have SA := Lib.hid (tickP_same M T)
      generalize tickP M T = r at *
      obtain ⟨M7, fl, E⟩ := r
      simp only at HA SA
      go_wp2_with fail
      refine HA.out.mono ?_
      rintro e w7 ⟨fv, rfl, -, h7, k7⟩
      have K7 := Lib.hid h7
      have Q7 := Lib.hid (Q6.out.trans (keepsX (k7.mono fun n hn hx => hn (.inl hx)) Q6.out.size))
      have HC7 : Hid (M7.cfg = c) := Lib.hid (SA.out.1.trans HC.out)
      clear h7 k7 HA K6 Q6
      clear X6 x0 x1 x2 x3
      go_wp2_with fail
      have TM := Lib.hid (tmo_bd (PInvW.mean K7.out.inv))
      have HTM := Lib.hid (timeout_bk _ _ b M7 K7.out)
      rw [HC7.out] at TM HTM
      generalize Me.tmoR c.r M7.wait = tm at *
      have tm1 := TM.out.1
      have tm2 := TM.out.2
      have o7 := (obj_below Q7.out (lt_of_obj O3.out)).trans O3.out
      rw [← HCC.out] at o7
      have hz7 := Q7.out.size
      go_wp2_with fail
      refine HTM.out.mono ?_
      rintro e w8 ⟨rfl, b8⟩
      have K8 := Lib.hid ((K7.out.below b8).mono (Y := fun n => n < w3.heap.size) fun n hn => .inl hn)
      have Q8 := Lib.hid (Q7.out.trans (b8.mono Q7.out.size))
      have o8 := (obj_below b8 (lt_of_obj o7)).trans o7
      have y2 : w8.cell? ⟨w.heap.size, 2, none⟩ = some (.int .i64 c.r.min) := cell_at o8 2
      have y3 : w8.cell? ⟨w.heap.size, 3, none⟩ = some (.int .i64 c.r.max) := cell_at o8 3
      have n1 : ¬ tm < c.r.min := by omega
      have n2 : ¬ c.r.max < tm := by omega
      clear b8 o8 o7 hz7 TM HTM tm1 tm2 K7 Q7
      go_wp2_with fail
      go_roundw
      case rel => exact ⟨k + 1, M7, by omega, by go_num, K8, Q8, HC7⟩
      case measure => simp [intOf]; omega
    obtain ⟨M7, hM7⟩ : ∃ M7, M7 = M := ⟨_, rfl⟩
    rw [← hM7] at K6 HC
    clear hM7
    have K7 := Lib.hid K6.out
    have Q7 := Lib.hid Q6.out
    have HC7 := Lib.hid HC.out
    generalize W6 = w7 at *
    clear K6 Q6 X6 x1 x2 x3
    go_wp2_with fail
    have TM := Lib.hid (tmo_bd (PInvW.mean K7.out.inv))
    have HTM := Lib.hid (timeout_bk _ _ b M7 K7.out)
    rw [HC7.out] at TM HTM
    generalize Me.tmoR c.r M7.wait = tm at *
    have tm1 := TM.out.1
    have tm2 := TM.out.2
    have o7 := (obj_below Q7.out (lt_of_obj O3.out)).trans O3.out
    rw [← HCC.out] at o7
    have hz7 := Q7.out.size
    go_wp2_with fail
    refine HTM.out.mono ?_
    rintro e w8 ⟨rfl, b8⟩
    have K8 := Lib.hid ((K7.out.below b8).mono (Y := fun n => n < w3.heap.size) fun n hn => .inl hn)
    have Q8 := Lib.hid (Q7.out.trans (b8.mono Q7.out.size))
    have o8 := (obj_below b8 (lt_of_obj o7)).trans o7
    have y2 : w8.cell? ⟨w.heap.size, 2, none⟩ = some (.int .i64 c.r.min) := cell_at o8 2
    have y3 : w8.cell? ⟨w.heap.size, 3, none⟩ = some (.int .i64 c.r.max) := cell_at o8 3
    have n1 : ¬ tm < c.r.min := by omega
    have n2 : ¬ c.r.max < tm := by omega
    clear b8 o8 o7 hz7 TM HTM tm1 tm2 K7 Q7
    go_wp2_with fail
    go_roundw
    case rel => exact ⟨k + 1, M7, by omega, by go_num, K8, Q8, HC7⟩
    case measure => simp [intOf]; omega
end Go.Proofs.Ytagpclgappcnbaa
