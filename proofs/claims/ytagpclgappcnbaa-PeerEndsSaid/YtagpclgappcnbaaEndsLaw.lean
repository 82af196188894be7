import Derived.Test.YtagpclgappcnbaaEndP
import Derived.LoopTactic
import Derived.BigQuiet
namespace Go.Proofs.Ytagpclgappcnbaa
open Go.RowKit

/-! ### PeerEnds -/
@[local go_sem ↓] theorem hide_load27e (a : Addr) : loadVar 27 a = loadAgg 27 a := rfl
@[local go_sem] theorem run_load27e (b off : Nat) (W : World) : (loadAgg 27 ⟨b, off, none⟩).run Try.prog W = loadRes Try.prog 27 ⟨b, off, none⟩ W (subOf (obj W b) off 11) := run_loadAgg Try.isAgg27 Try.sizeOf27 b off W
theorem mapI_below {ν : Type} {enc : ν → Value} {w W : World} {m : Nat} {L : List (Int × ν)} (hb : Below w.heap.size w W) (h : MapI w m enc L) : MapI W m enc L := h.of_heap (obj_below hb h.lt)
set_option maxRecDepth 100000 in
set_option maxHeartbeats 4000000 in
theorem endsLaw_any (w : World) (c : CfgD) (lv sv : Value) (l : List Be.Vd) (xs : List OpM) (hl : SlIn w lv 2 Be.vdL l) (hs : SlIn w sv 7 opL xs) (hx : ∀ x ∈ xs, OpOK x) (hde : c.q.de < 9223372036854775808) :
    Calls Try.prog 5 #[.agg (cfgC c), lv, sv] w fun e w' => e = .returned (.bool true) ∧ Below w.heap.size w w' := by
  have HB := Lib.hid (fun W => begun_any W)
  have b1 : Below w.heap.size w (w.alloc (.cells (cfgC c) 27)) := (Below.refl _ w).alloc (Nat.le_refl _) _
  have O1 := Lib.hid (show obj (w.alloc (.cells (cfgC c) 27)) w.heap.size = some (.cells (cfgC c) 27 (0, 0)) from obj_alloc_at _ _ _ rfl)
  have B1 := Lib.hid b1
  have HF := Lib.hid (fun W (hW : Below w.heap.size w W) => few_any W lv l (hl.below hW))
  have HN := Lib.hid (fun W (hW : Below w.heap.size w W) => new_bk W c lv l 0 (hl.below hW) hde)
  have HS := Lib.hid hs
  have HX := Lib.hid hx
  obtain ⟨oal, capl, rfl, -⟩ := hl
  obtain ⟨oas, caps, rfl, s1, s2, -⟩ := hs
  clear b1 hx
  generalize hcc : cfgC c = cs at *
  have HCC := Lib.hid hcc
  clear hcc
  go_enter Try.func5, Try.ntmps5
  go_wp2_with fail
  generalize w.alloc (.cells cs 27) = w1 at *
  refine (HB.out w1).mono ?_
  rintro e w2 ⟨rfl, b2⟩
  have B2 := Lib.hid (B1.out.trans (b2.mono B1.out.size))
  have O2 := Lib.hid ((obj_below b2 (lt_of_obj O1.out)).trans O1.out)
  clear b2 B1 O1
  go_wp2_with fail
  refine (HF.out w2 B2.out).mono ?_
  rintro e w3 ⟨⟨fb, rfl, hfb⟩, b3⟩
  have B3 := Lib.hid (B2.out.trans (b3.mono B2.out.size))
  have O3 := Lib.hid ((obj_below b3 (lt_of_obj O2.out)).trans O2.out)
  clear b3 B2 O2 HF hfb
  cases fb with
  | false =>
    go_wp2_with fail
    refine (HB.out w3).mono ?_
    rintro e w4 ⟨rfl, b4⟩
    go_wp2_with fail
    go_ret
    exact ⟨rfl, B3.out.trans (b4.mono B3.out.size)⟩
  | true =>
  have L3 := Lib.hid (show loadRes Try.prog 27 ⟨w.heap.size, 0, none⟩ w3 (subOf (obj w3 w.heap.size) 0 11) = .ok (.agg cs) w3 from by rw [O3.out, ← HCC.out]; rfl)
  have L3' := L3.out
  go_wp2_with fail
  clear L3 L3'
  refine (HN.out w3 B3.out).mono ?_
  rintro e w4 ⟨b4, h41, h42⟩
  have H1 := Lib.hid h41
  have H2 := Lib.hid h42
  clear h41 h42 HN
  by_cases hE : newE c l 0 = 0
  case neg =>
    obtain rfl := H1.out hE
    have B4 := Lib.hid (B3.out.trans (b4.mono B3.out.size))
    generalize newE c l 0 = E at *
    have he : (E != 0) = true := by simpa using hE
    clear b4 H1 H2
    go_wp2_with fail
    go_ret
    exact ⟨rfl, B4.out⟩
  obtain ⟨b, rfl, hbk⟩ := H2.out hE
  have K4 := Lib.hid hbk
  have Q4 := Lib.hid b4
  have ZB := Lib.hid B3.out.size
  obtain ⟨m, hm⟩ : ∃ m, m = min xs.length 50 := ⟨_, rfl⟩
  have hm1 : m ≤ xs.length := by omega
  have hm2 : m ≤ 50 := by omega
  have HR := run_lo29 HS.out hm1
  have hmi : (m : Int) = min (xs.length : Int) 50 := by omega
  rw [hmi] at HR
  have SM := Lib.hid (HS.out.takeC hm1)
  have XM : Hid (∀ x ∈ xs.take m, OpOK x) := Lib.hid (fun x hx => HX.out x (List.mem_of_mem_take hx))
  have hml : Hid ((xs.take m).length = m) := Lib.hid (by simp; omega)
  have HMC : Hid ((newM c l 0).cfg = c) := Lib.hid rfl
  clear hbk b4 H1 H2 hm hmi
  have WN : Hid (Al.Want (newM c l 0).W []) := Lib.hid Al.Want.nil
  generalize xs.take m = ys at *
  generalize newM c l 0 = M0 at *
  have hmm := @run_makeMap Try.prog
  have b5 : Below w4.heap.size w4 (w4.alloc (.map #[] 0)) := (Below.refl _ _).alloc (Nat.le_refl _) _
  have K5 := Lib.hid ((K4.out.more b5).mono (Y := fun n => n < w3.heap.size ∨ n = w4.heap.size) (fun n hn => hn.imp (fun h => h) (fun h => by simp; omega)))
  have Q5 := Lib.hid (Q4.out.trans (b5.mono Q4.out.size))
  have M5 : Hid (∃ V, MapI (w4.alloc (.map #[] 0)) w4.heap.size Al.intV V ∧ Al.Want M0.W V) := Lib.hid ⟨[], ⟨#[], 0, obj_alloc_at _ _ _ rfl, trivial⟩, WN.out⟩
  have ZM := Lib.hid Q4.out.size
  clear b5 K4 Q4 WN
  go_wp2_with fail
  clear HR hmm
  generalize w4.alloc (.map #[] 0) = w5 at *
  generalize w4.heap.size = mb at *
  go_loopw [11, 12, 13, 14, 15, 16, 17, 18, 19, 20, 21, 22, 23, 25, 26, 27, 28, 29, 64] (fun _ _ _ _ _ _ _ _ _ _ _ _ _ _ _ _ _ _ v64 wr => ∃ (k : Nat) (M : PM), k ≤ m ∧ v64 = .int .i64 k ∧ Hid (BkAt wr (fun n => n < w3.heap.size ∨ n = mb) b M) ∧ Hid (Below w3.heap.size w3 wr) ∧ Hid (∃ V, MapI wr mb Al.intV V ∧ Al.Want M.W V)) (fun _ _ _ _ _ _ _ _ _ _ _ _ _ _ _ _ _ _ i _ => m - (intOf i).toNat)
  case atStart => exact ⟨0, M0, Nat.zero_le _, rfl, K5, Q5, M5⟩
  case round =>
    obtain ⟨k, M, hk, rfl, HK, HQ, HW⟩ := hrel
    clear K5 Q5 M5
    by_cases hlt : k < m
    case neg =>
      obtain rfl : m = k := by omega
      have hkk : ¬ (m : Int) < m := by omega
      have HT := Lib.hid (tick_bk wr _ b M 4611686018427387903 HK.out)
      have TT := Lib.hid (tick_t HK.out.inv (comes_ok (PInvW.now1 HK.out.inv) (Int.le_refl _)))
      have EA := Lib.hid (fun hM hW => ends_all HK.out.inv (M' := (tickP M 4611686018427387903).1) hM hW)
      generalize tickP M 4611686018427387903 = r at *
      obtain ⟨M7, fl, E⟩ := r
      simp only at HT TT EA
      obtain ⟨rfl, tt⟩ := TT.out
      go_wp2_with fail
      refine HT.out.mono ?_
      rintro e w7 ⟨fv, rfl, -, h7, k7⟩
      obtain ⟨a1, a2, a3, a4, a5⟩ := EA.out h7.inv (tt.max rfl)
      have K7 := Lib.hid h7
      have Q7 := Lib.hid (HQ.out.trans (keepsX (k7.mono fun n hn hx => hn (.inl hx)) HQ.out.size))
      have HST := Lib.hid (stat_bk w7 _ b M7 K7.out)
      rw [a2] at HST
      clear h7 k7 tt TT HT EA HK HQ HW
      have hw1 : IntKind.i64.wrap (M7.A.ans + M7.A.exp) = M7.A.ans + M7.A.exp := wrap_id (by omega) (by omega)
      have A1 := Lib.hid a1
      clear a1 a2
      go_wp2_with fail
      refine HST.out.mono ?_
      rintro e w8 ⟨rfl, b8⟩
      have b9 : Below w8.heap.size w8 (w8.alloc (.cells #[.int .i64 (M7.A.ans + M7.A.exp), .int .i64 M7.A.ans, .int .i64 M7.A.exp] 66)) := (Below.refl _ _).alloc (Nat.le_refl _) _
      have K9 := Lib.hid ((K7.out.below b8).below b9)
      have Q9 := Lib.hid (Q7.out.trans ((b8.trans (b9.mono b8.size)).mono Q7.out.size))
      have HLN := Lib.hid (len_bk _ _ b M7 K9.out)
      have O9 := Lib.hid (show obj (w8.alloc (.cells #[.int .i64 (M7.A.ans + M7.A.exp), .int .i64 M7.A.ans, .int .i64 M7.A.exp] 66)) w8.heap.size = some (.cells #[.int .i64 (M7.A.ans + M7.A.exp), .int .i64 M7.A.ans, .int .i64 M7.A.exp] 66 (0, 0)) from obj_alloc_at _ _ _ rfl)
      rw [A1.out] at HLN
      clear b8 b9 HST
      go_wp2_with fail
      generalize w8.alloc (.cells #[.int .i64 (M7.A.ans + M7.A.exp), .int .i64 M7.A.ans, .int .i64 M7.A.exp] 66) = w9 at *
      generalize w8.heap.size = stb at *
      refine HLN.out.mono ?_
      rintro e w10 ⟨rfl, b10⟩
      have o10 := (obj_below b10 (lt_of_obj O9.out)).trans O9.out
      have y0 := cell_at o10 0
      have y1 := cell_at o10 1
      have y2 := cell_at o10 2
      simp at y0 y1 y2
      have BF := Lib.hid (B3.out.trans ((Q9.out.trans (b10.mono Q9.out.size)).mono ZB.out))
      clear o10 O9 b10
      go_wp2_with fail
      go_ret
      exact ⟨rfl, BF.out⟩
    have hly := hml.out
    obtain ⟨bs, off, rfl, hbb, hrow⟩ := sl_row SM.out (by omega)
    have hs := hrow k (by omega)
    have hw3r := Nat.le_trans ZB.out HQ.out.size
    have bwr := Lib.hid (B3.out.trans (HQ.out.mono ZB.out))
    rw [← obj_below bwr.out hbb] at hs
    have XO := Lib.hid (XM.out ys[k] (List.getElem_mem _))
    generalize ys[k] = x at *
    have f0 : wr.cell? ⟨bs, off + k * 7, none⟩ = some (.int .i64 x.d) := by have := subOf_cell hs (j := 0) (by decide); simpa [opL] using this
    have f1 : wr.cell? ⟨bs, off + k * 7 + 1, none⟩ = some (.int .i64 x.v) := by have := subOf_cell hs (j := 1) (by decide); simpa [opL] using this
    have f2 : wr.cell? ⟨bs, off + k * 7 + 2, none⟩ = some (.int .i64 x.id) := by have := subOf_cell hs (j := 2) (by decide); simpa [opL] using this
    have f3 : wr.cell? ⟨bs, off + k * 7 + 3, none⟩ = some (.int .i64 x.kind) := by have := subOf_cell hs (j := 3) (by decide); simpa [opL] using this
    have f4 : wr.cell? ⟨bs, off + k * 7 + 4, none⟩ = some (.int .u16 x.ticks) := by have := subOf_cell hs (j := 4) (by decide); simpa [opL] using this
    have f5 : wr.cell? ⟨bs, off + k * 7 + 5, none⟩ = some (.bool x.past) := by have := subOf_cell hs (j := 5) (by decide); simpa [opL] using this
    have f6 : wr.cell? ⟨bs, off + k * 7 + 6, none⟩ = some (.int .i64 x.now) := by have := subOf_cell hs (j := 6) (by decide); simpa [opL] using this
    have hbr : bs < wr.heap.size := Nat.lt_of_lt_of_le hbb bwr.out.size
    clear hs hrow hly
    have b1 : Below wr.heap.size wr (wr.alloc (.cells #[.int .i64 x.d, .int .i64 x.v, .int .i64 x.id, .int .i64 x.kind, .int .u16 x.ticks, .bool x.past, .int .i64 x.now] 39)) := (Below.refl _ _).alloc (Nat.le_refl _) _
    have X1 := Lib.hid (show obj (wr.alloc (.cells #[.int .i64 x.d, .int .i64 x.v, .int .i64 x.id, .int .i64 x.kind, .int .u16 x.ticks, .bool x.past, .int .i64 x.now] 39)) wr.heap.size = some (.cells #[.int .i64 x.d, .int .i64 x.v, .int .i64 x.id, .int .i64 x.kind, .int .u16 x.ticks, .bool x.past, .int .i64 x.now] 39 (0, 0)) from obj_alloc_at _ _ _ rfl)
    have K1 := Lib.hid ((HK.out.more b1).mono (Y := fun n => (n < w3.heap.size ∨ n = mb) ∨ n = wr.heap.size) (fun n hn => hn.imp (fun h => h) (fun h => by simp; omega)))
    have Q1 := Lib.hid (HQ.out.trans (b1.mono HQ.out.size))
    have ZX := Lib.hid HQ.out.size
    have zmb := HK.out.lt mb (.inr rfl)
    obtain ⟨V, hmp, hwt⟩ := HW.out
    have M1 := Lib.hid (mapI_below b1 hmp)
    have NXB : Hid (wr.heap.size ≠ mb) := Lib.hid (by omega)
    have WT := Lib.hid hwt
    have hki : (k : Int) < m := by omega
    clear b1 HK HQ HW hmp hwt zmb
    go_wp2_with fail
    clear f0 f1 f2 f3 f4 f5 f6 hbr
    generalize wr.alloc (.cells #[.int .i64 x.d, .int .i64 x.v, .int .i64 x.id, .int .i64 x.kind, .int .u16 x.ticks, .bool x.past, .int .i64 x.now] 39) = w5b at *
    have NB := Lib.hid (And.intro (PInvW.now0 K1.out.inv) (PInvW.now1 K1.out.inv))
    have HNOW : Hid (∀ y : Later w5b, Calls Try.prog 11 #[.pointer (some ⟨b, 0, none⟩)] y.w fun e w' => e = .returned (.int .i64 M.now) ∧ Below y.w.heap.size y.w w') := Lib.hid (fun y => (now_bk _ _ b M (K1.out.below y.h)).mono (by rintro e w' ⟨rfl, rfl⟩; exact ⟨rfl, Below.refl _ _⟩))
    have HAT : Hid (∀ y : Later w5b, Calls Try.prog 10 #[.agg #[.int .i64 0, .int .i64 0, .int .i64 0, .int .i64 0, .int .u16 x.ticks, .bool false, .int .i64 0], .int .i64 M.now] y.w fun e w' => e = .returned (.int .i64 (atE (tickOp x.ticks) M.now)) ∧ Below y.w.heap.size y.w w') := Lib.hid (fun y => at_any y.w (tickOp x.ticks) M.now XO.out NB.out.1 NB.out.2)
    have TB := Lib.hid (atE_bd XO.out.1 NB.out.1 NB.out.2)
    generalize atE (tickOp x.ticks) M.now = T at *
    have hb39 : ∀ W, (Instr.build 39 #[(4, .int .u16 x.ticks)]).run Try.prog W = .ok (.agg #[.int .i64 0, .int .i64 0, .int .i64 0, .int .i64 0, .int .u16 x.ticks, .bool false, .int .i64 0]) W := fun _ => by kernel_rfl
    have x4 := cell_at X1.out 4
    simp at x4
    have hx5 := lt_of_obj X1.out
    refine wp_region_later w5b (Below.refl _ w5b) (by kernel_rfl) (by kernel_rfl) ?_
    repeat (go_big_quiet_step (first | (go_at_call 11; with_reducible exact Calls.later (HNOW.out _)) | (go_at_call 10; with_reducible exact Calls.later (HAT.out _))))
    refine wpQuiet_nil ?_
    rintro W6 ⟨y, e6⟩
    have h6 : Below w5b.heap.size w5b W6 := by rw [e6]; exact y.h
    clear e6 y
    have K6 := Lib.hid (K1.out.below h6)
    have Q6 := Lib.hid (Q1.out.trans (h6.mono Q1.out.size))
    have X6 := Lib.hid ((obj_below h6 hx5).trans X1.out)
    have M6 := Lib.hid (mapI_below h6 M1.out)
    clear h6 hb39 x4 hx5 HNOW HAT K1 Q1 X1 M1
    generalize wr.heap.size = xb at *
    have x0 := cell_at X6.out 0
    have x1 := cell_at X6.out 1
    have x2 := cell_at X6.out 2
    have x3 := cell_at X6.out 3
    simp at x0 x1 x2 x3
    have CE := Lib.hid (comes_ok (M := M) TB.out.1 TB.out.2)
    by_cases hd0 : x.d = 0
    · have HA := Lib.hid (ask_bk W6 _ b M x.v x.kind T K6.out)
      have DU := Lib.hid (fun h1 h2 => ask_due (v := x.v) (kind := x.kind) K6.out.inv CE.out h1 h2)
      have WA := Lib.hid (fun h1 h2 => want_ask K6.out.inv WT.out (v := x.v) (kind := x.kind) CE.out h1 h2)
      have WO := Lib.hid (fun h1 => want_askno K6.out.inv WT.out (v := x.v) (kind := x.kind) (now := T) h1)
      generalize askP M x.v x.kind T = r at *
      obtain ⟨M7, id, is, E⟩ := r
      simp only at HA DU WA WO
      go_wp2_with fail
      refine HA.out.mono ?_
      rintro e w7 ⟨rfl, h7, k7⟩
      have M7' := Lib.hid (M6.out.keep k7 (fun hh => hh (.inl (.inr rfl))))
      have K7 := Lib.hid (h7.mono (Y := fun n => n < w3.heap.size ∨ n = mb) fun n hn => .inl hn)
      have Q7 := Lib.hid (Q6.out.trans (keepsX (k7.mono fun n hn hx => hn (.inl (.inl hx))) Q6.out.size))
      clear h7 k7 HA K6 Q6 M6
      clear X6 x0 x1 x2 x3
      by_cases hE7 : E = 0
      case neg =>
        have W8 := Lib.hid (WO.out (.inl hE7))
        clear WO WA DU
        have HLN := Lib.hid (len_bk _ _ b M7 K7.out)
        rw [← want_len K7.out.inv W8.out] at HLN
        go_wp2_with fail
        refine HLN.out.mono ?_
        rintro e w8 ⟨rfl, b8⟩
        have K8 := Lib.hid (K7.out.below b8)
        have Q8 := Lib.hid (Q7.out.trans (b8.mono Q7.out.size))
        have m8 := mapI_below b8 M7'.out
        have R8 : Hid (∃ V, MapI w8 mb Al.intV V ∧ Al.Want M7.W V) := Lib.hid ⟨_, m8, W8.out⟩
        have hln := fun ty => run_len_int (P := Try.prog) Try.underlying61 ty m8
        clear b8 m8 K7 Q7 M7' W8 HLN
        go_wp2_with fail
        clear hln
        go_roundw
        case rel => exact ⟨k + 1, M7, by omega, by go_num, K8, Q8, R8⟩
        case measure => simp [intOf]; omega
      cases is with
      | true =>
        have W8 := Lib.hid (WO.out (.inr rfl))
        clear WO WA DU
        have HLN := Lib.hid (len_bk _ _ b M7 K7.out)
        rw [← want_len K7.out.inv W8.out] at HLN
        go_wp2_with fail
        refine HLN.out.mono ?_
        rintro e w8 ⟨rfl, b8⟩
        have K8 := Lib.hid (K7.out.below b8)
        have Q8 := Lib.hid (Q7.out.trans (b8.mono Q7.out.size))
        have m8 := mapI_below b8 M7'.out
        have R8 : Hid (∃ V, MapI w8 mb Al.intV V ∧ Al.Want M7.W V) := Lib.hid ⟨_, m8, W8.out⟩
        have hln := fun ty => run_len_int (P := Try.prog) Try.underlying61 ty m8
        clear b8 m8 K7 Q7 M7' W8 HLN
        go_wp2_with fail
        clear hln
        go_roundw
        case rel => exact ⟨k + 1, M7, by omega, by go_num, K8, Q8, R8⟩
        case measure => simp [intOf]; omega
      | false =>
        obtain ⟨-, -, g1, g2⟩ := DU.out hE7 rfl
        have W8 := Lib.hid (WA.out hE7 rfl)
        have HDU := Lib.hid (due_bk w7 _ b M7 K7.out id)
        rw [g1, g2] at HDU
        clear g1 g2 DU WA WO
        generalize askAt M T = due at *
        obtain ⟨es, clk, ho, hr⟩ := M7'.out
        obtain ⟨es', clk', hu, hr'⟩ := run_mapUpdate_int (P := Try.prog) (enc := Al.intV) (clk := clk) Try.underlying61 Try.underlying2 hr mb id due
        have hu7 := hu w7 ho
        simp only [Al.intV] at hu7
        have M9 : Hid (MapI (putObj w7 mb (.map es' clk')) mb Al.intV (aPut id due V)) := Lib.hid ⟨es', clk', obj_putObj_at _ _ _ (lt_of_obj ho), hr'⟩
        have kk : Keeps (fun n => n = mb) w7 (putObj w7 mb (.map es' clk')) := keeps_put _ _ _
        have K9 := Lib.hid (K7.out.beside (kk.mono fun n hn => .inr hn))
        have Q9 := Lib.hid (Q7.out.trans (kk.below (fun n hn => by have := ZM.out; omega) Q7.out.size))
        clear ho hr hu hr' kk
        go_wp2_with fail
        refine HDU.out.mono ?_
        rintro e w7' ⟨rfl, rfl⟩
        go_wp2_with fail
        clear hu7 K7 Q7 M7' HDU
        generalize putObj w7' mb (.map es' clk') = w7 at *
        have K7 := K9
        have Q7 := Q9
        have M7' := M9
        clear K9 Q9 M9
        have HLN := Lib.hid (len_bk _ _ b M7 K7.out)
        rw [← want_len K7.out.inv W8.out] at HLN
        refine HLN.out.mono ?_
        rintro e w8 ⟨rfl, b8⟩
        have K8 := Lib.hid (K7.out.below b8)
        have Q8 := Lib.hid (Q7.out.trans (b8.mono Q7.out.size))
        have m8 := mapI_below b8 M7'.out
        have R8 : Hid (∃ V, MapI w8 mb Al.intV V ∧ Al.Want M7.W V) := Lib.hid ⟨_, m8, W8.out⟩
        have hln := fun ty => run_len_int (P := Try.prog) Try.underlying61 ty m8
        clear b8 m8 K7 Q7 M7' W8 HLN
        go_wp2_with fail
        clear hln
        go_roundw
        case rel => exact ⟨k + 1, M7, by omega, by go_num, K8, Q8, R8⟩
        case measure => simp [intOf]; omega
    by_cases hd1 : x.d = 1
    · have HA := Lib.hid (got_bk W6 _ b M x.v x.id x.kind T K6.out)
      have GY := Lib.hid (fun h1 => got_yes K6.out.inv (v := x.v) (id := x.id) (kind := x.kind) CE.out h1)
      have WA := Lib.hid (fun h1 => want_got K6.out.inv WT.out (v := x.v) (id := x.id) (kind := x.kind) CE.out h1)
      have WO := Lib.hid (fun h1 => want_gotno WT.out (v := x.v) (id := x.id) (kind := x.kind) (now := T) h1)
      generalize gotP M x.v x.id x.kind T = r at *
      obtain ⟨M7, ⟨ai, an, ak⟩, E⟩ := r
      simp only [Ak.askV] at HA GY WA WO
      go_wp2_with fail
      refine HA.out.mono ?_
      rintro e w7 ⟨rfl, h7, k7⟩
      have b9 : Below w7.heap.size w7 (w7.alloc (.cells #[.int .i64 ai, .int .i64 an, .int .i64 ak] 47)) := (Below.refl _ _).alloc (Nat.le_refl _) _
      have M9 := Lib.hid (mapI_below b9 (M6.out.keep k7 (fun hh => hh (.inl (.inr rfl)))))
      have x7 := (k7.block _ (lt_of_obj X6.out) (fun hh => hh (.inr rfl))).trans X6.out
      have X9 := Lib.hid ((obj_below b9 (lt_of_obj x7)).trans x7)
      have Q9 := Lib.hid ((Q6.out.trans (keepsX (k7.mono fun n hn hx => hn (.inl (.inl hx))) Q6.out.size)).trans (b9.mono (Nat.le_trans Q6.out.size k7.size)))
      have K9 := Lib.hid ((h7.below b9).mono (Y := fun n => n < w3.heap.size ∨ n = mb) fun n hn => .inl hn)
      have A9 := Lib.hid (show obj (w7.alloc (.cells #[.int .i64 ai, .int .i64 an, .int .i64 ak] 47)) w7.heap.size = some (.cells #[.int .i64 ai, .int .i64 an, .int .i64 ak] 47 (0, 0)) from obj_alloc_at _ _ _ rfl)
      clear h7 k7 HA K6 Q6 M6 X6 x0 x1 x2 x3 x7 b9
      by_cases hE7 : E = 0
      case neg =>
        have W8 := Lib.hid (WO.out hE7)
        have K7 := K9
        have Q7 := Q9
        have M7' := M9
        clear WO WA GY K9 Q9 M9 A9
        go_wp2_with fail
        generalize w7.alloc (.cells #[.int .i64 ai, .int .i64 an, .int .i64 ak] 47) = w7 at *
        have HLN := Lib.hid (len_bk _ _ b M7 K7.out)
        rw [← want_len K7.out.inv W8.out] at HLN
        refine HLN.out.mono ?_
        rintro e w8 ⟨rfl, b8⟩
        have K8 := Lib.hid (K7.out.below b8)
        have Q8 := Lib.hid (Q7.out.trans (b8.mono Q7.out.size))
        have m8 := mapI_below b8 M7'.out
        have R8 : Hid (∃ V, MapI w8 mb Al.intV V ∧ Al.Want M7.W V) := Lib.hid ⟨_, m8, W8.out⟩
        have hln := fun ty => run_len_int (P := Try.prog) Try.underlying61 ty m8
        clear b8 m8 K7 Q7 M7' W8 HLN
        go_wp2_with fail
        clear hln
        go_roundw
        case rel => exact ⟨k + 1, M7, by omega, by go_num, K8, Q8, R8⟩
        case measure => simp [intOf]; omega
      obtain ⟨rfl, rfl, -⟩ := GY.out hE7
      subst hE7
      obtain ⟨hsome, hwt⟩ := WA.out rfl
      obtain ⟨due, hdue⟩ := Option.isSome_iff_exists.1 hsome
      have W8 := Lib.hid hwt
      have hl := run_lookup_int (P := Try.prog) (enc := Al.intV) (z := Al.intV 0) Try.underlying61 Try.underlying2 (fun w => by kernel_rfl) M9.out x.id
      rw [hdue] at hl
      simp only [Al.intV] at hl
      obtain ⟨es, clk, ho, hr⟩ := M9.out
      obtain ⟨es', hu, hr'⟩ := run_delete_int (P := Try.prog) (enc := Al.intV) (clk := clk) Try.underlying61 Try.underlying2 0 2 hr mb x.id
      have hu7 := hu _ ho
      have M10 : Hid (MapI (putObj (w7.alloc (.cells #[.int .i64 x.id, .int .i64 x.v, .int .i64 ak] 47)) mb (.map es' clk)) mb Al.intV (aDel x.id V)) := Lib.hid ⟨es', clk, obj_putObj_at _ _ _ (lt_of_obj ho), hr'⟩
      have kk : Keeps (fun n => n = mb) (w7.alloc (.cells #[.int .i64 x.id, .int .i64 x.v, .int .i64 ak] 47)) (putObj (w7.alloc (.cells #[.int .i64 x.id, .int .i64 x.v, .int .i64 ak] 47)) mb (.map es' clk)) := keeps_put _ _ _
      have K10 := Lib.hid (K9.out.beside (kk.mono fun n hn => .inr hn))
      have Q10 := Lib.hid (Q9.out.trans (kk.below (fun n hn => by have := ZM.out; omega) Q9.out.size))
      have z0 := cell_at A9.out 0
      have z1 := cell_at A9.out 1
      have x1 := cell_at X9.out 1
      have x2 := cell_at X9.out 2
      simp at z0 z1 x1 x2
      have zb := lt_of_obj A9.out
      clear ho hr hu hr' kk K9 Q9 M9 A9 X9 WA WO GY hsome hwt hdue
      go_wp2_with fail
      clear hu7 hl z0 z1 x1 x2 zb
      generalize putObj (w7.alloc (.cells #[.int .i64 x.id, .int .i64 x.v, .int .i64 ak] 47)) mb (.map es' clk) = w8b at *
      have K7 := K10
      have Q7 := Q10
      have M7' := M10
      clear K10 Q10 M10
      generalize w7.heap.size = xb7 at *
      clear w7
      generalize w8b = w7 at *
      have HLN := Lib.hid (len_bk _ _ b M7 K7.out)
      rw [← want_len K7.out.inv W8.out] at HLN
      refine HLN.out.mono ?_
      rintro e w8 ⟨rfl, b8⟩
      have K8 := Lib.hid (K7.out.below b8)
      have Q8 := Lib.hid (Q7.out.trans (b8.mono Q7.out.size))
      have m8 := mapI_below b8 M7'.out
      have R8 : Hid (∃ V, MapI w8 mb Al.intV V ∧ Al.Want M7.W V) := Lib.hid ⟨_, m8, W8.out⟩
      have hln := fun ty => run_len_int (P := Try.prog) Try.underlying61 ty m8
      clear b8 m8 K7 Q7 M7' W8 HLN
      go_wp2_with fail
      clear hln
      go_roundw
      case rel => exact ⟨k + 1, M7, by omega, by go_num, K8, Q8, R8⟩
      case measure => simp [intOf]; omega
    by_cases hd2 : x.d = 2
    · have HA := Lib.hid (tick_bk W6 _ b M T K6.out)
      have TT := Lib.hid (tick_t K6.out.inv CE.out)
      generalize tickP M T = r at *
      obtain ⟨M7, fl, E⟩ := r
      simp only at HA TT
      obtain ⟨hE7, tt⟩ := TT.out
      subst hE7
      obtain ⟨⟨D, hDW, hid, hDT, hnx, hnd⟩, -, -⟩ := tt
      have HID := Lib.hid hid
      have HND := Lib.hid hnd
      have HDT := Lib.hid hDT
      have HNX := Lib.hid hnx
      have hlen : Hid (fl.length = D.length) := Lib.hid (by have := congrArg List.length hid; simpa using this)
      have WD : Hid (Al.Want (D.drop 0 ++ M7.W) V) := Lib.hid (by rw [List.drop_zero, hDW]; exact WT.out)
      have hmz := K6.out.lt mb (.inl (.inr rfl))
      have HFL : Hid (fl.length ≤ 1024) := Lib.hid (by
        have h1 := PInvW.wlen K6.out.inv
        have h2 := PInvW.len K6.out.inv
        have h3 := PInvW.room K6.out.inv
        have h4 := congrArg List.length hDW
        rw [List.length_append] at h4
        have h5 := hlen.out
        omega)
      clear TT hid hnd hDT hnx hDW WT
      go_wp2_with fail
      refine HA.out.mono ?_
      rintro e w7 ⟨fv, rfl, own7, h7, k7⟩
      have M7' := Lib.hid (M6.out.keep k7 (fun hh => hh (.inl (.inr rfl))))
      have K7 := Lib.hid (h7.mono (Y := fun n => n < w3.heap.size ∨ n = mb) fun n hn => .inl hn)
      have Q7 := Lib.hid (Q6.out.trans (keepsX (k7.mono fun n hn hx => hn (.inl (.inl hx))) Q6.out.size))
      clear h7 k7 HA K6 Q6 M6
      clear X6 x0 x1 x2 x3 bwr
      obtain ⟨oaf, capf, rfl⟩ := own7.slice
      have HNB : Hid (∀ a, oaf = some a → a.block ≠ mb) := Lib.hid (fun a e => by have := (own7.1.lt a.block (by rw [e]; rfl)).1; omega)
      have SF := Lib.hid (own7.slIn akL_length)
      have hfl : fl.length ≤ 1024 := HFL.out
      clear own7 hmz hw3r
      clear wr
      go_wp2_with fail
      go_loopw [25, 26, 27, 160] (fun _ _ _ v160 wr => ∃ (j : Nat) (V : List (Int × Int)), j ≤ fl.length ∧ v160 = .int .i64 j ∧ Hid (BkAt wr (fun n => n < w3.heap.size ∨ n = mb) b M7) ∧ Hid (Below w3.heap.size w3 wr) ∧ Hid (MapI wr mb Al.intV V) ∧ Hid (Al.Want (D.drop j ++ M7.W) V) ∧ Hid (SlIn wr (.slice oaf fl.length capf) 3 akL fl)) (fun _ _ _ i _ => fl.length - (intOf i).toNat)
      case atStart => exact ⟨0, V, Nat.zero_le _, rfl, K7, Q7, M7', WD, SF⟩
      case round =>
        clear K7 Q7 M7' WD SF
        obtain ⟨j, V, hj, rfl, KJ, QJ, MJ, WJ, SJ⟩ := hrel
        by_cases hjl : j < fl.length
        case neg =>
          obtain rfl : fl.length = j := by omega
          have W8 : Hid (Al.Want M7.W V) := Lib.hid (by have := WJ.out; rw [hlen.out, List.drop_length] at this; simpa using this)
          have hjj : ¬ (fl.length : Int) < fl.length := by omega
          have HNE := Lib.hid (next_bk wr _ b M7 KJ.out)
          have HPE : Hid (Al.peekE M7.W = 0 → T < (Al.at' M7.W 0).1) := Lib.hid (fun hp => HNX.out (by unfold Al.peekE at hp; split at hp <;> omega))
          generalize Al.peekE M7.W = pe at *
          generalize (Al.at' M7.W 0).1 = pn at *
          clear WJ
          by_cases hpe : pe = 0
          · have hpn := HPE.out hpe
            have hpn' : ¬ pn ≤ T := by omega
            subst hpe
            go_wp2_with fail
            refine HNE.out.mono ?_
            rintro e w8' ⟨rfl, b8⟩
            have K7 := Lib.hid (KJ.out.below b8)
            have Q7 := Lib.hid (QJ.out.trans (b8.mono QJ.out.size))
            have M7' := Lib.hid (mapI_below b8 MJ.out)
            clear b8 HNE HPE KJ QJ MJ SJ
            go_wp2_with fail
            clear hpn hpn'
            generalize w8' = w7 at *
            have HLN := Lib.hid (len_bk _ _ b M7 K7.out)
            rw [← want_len K7.out.inv W8.out] at HLN
            refine HLN.out.mono ?_
            rintro e w8 ⟨rfl, b8⟩
            have K8 := Lib.hid (K7.out.below b8)
            have Q8 := Lib.hid (Q7.out.trans (b8.mono Q7.out.size))
            have m8 := mapI_below b8 M7'.out
            have R8 : Hid (∃ V, MapI w8 mb Al.intV V ∧ Al.Want M7.W V) := Lib.hid ⟨_, m8, W8.out⟩
            have hln := fun ty => run_len_int (P := Try.prog) Try.underlying61 ty m8
            clear b8 m8 K7 Q7 M7' W8 HLN
            go_wp2_with fail
            clear hln
            go_roundw
            case rel => exact ⟨k + 1, M7, by omega, by go_num, K8, Q8, R8⟩
            case measure => simp [intOf]; omega
          · go_wp2_with fail
            refine HNE.out.mono ?_
            rintro e w8' ⟨rfl, b8⟩
            have K7 := Lib.hid (KJ.out.below b8)
            have Q7 := Lib.hid (QJ.out.trans (b8.mono QJ.out.size))
            have M7' := Lib.hid (mapI_below b8 MJ.out)
            clear b8 HNE HPE KJ QJ MJ SJ
            go_wp2_with fail
            clear hpe
            generalize w8' = w7 at *
            have HLN := Lib.hid (len_bk _ _ b M7 K7.out)
            rw [← want_len K7.out.inv W8.out] at HLN
            refine HLN.out.mono ?_
            rintro e w8 ⟨rfl, b8⟩
            have K8 := Lib.hid (K7.out.below b8)
            have Q8 := Lib.hid (Q7.out.trans (b8.mono Q7.out.size))
            have m8 := mapI_below b8 M7'.out
            have R8 : Hid (∃ V, MapI w8 mb Al.intV V ∧ Al.Want M7.W V) := Lib.hid ⟨_, m8, W8.out⟩
            have hln := fun ty => run_len_int (P := Try.prog) Try.underlying61 ty m8
            clear b8 m8 K7 Q7 M7' W8 HLN
            go_wp2_with fail
            clear hln
            go_roundw
            case rel => exact ⟨k + 1, M7, by omega, by go_num, K8, Q8, R8⟩
            case measure => simp [intOf]; omega
        have hjd : j < D.length := by have := hlen.out; omega
        obtain ⟨bf, of_, rfl, hbf, hrf⟩ := sl_row SJ.out (by omega)
        have hsf := hrf j hjl
        have hidj : fl[j].id = D[j].2 := by
          have h1 := congrArg (fun L => L[j]?) HID.out
          simp [List.getElem?_eq_getElem hjl, List.getElem?_eq_getElem hjd] at h1
          exact h1
        obtain ⟨g1, g2⟩ := want_pop hjd HND.out WJ.out
        have hdt := HDT.out D[j] (List.getElem_mem _)
        rw [← hidj] at g1 g2
        generalize fl[j] = a at *
        generalize D[j].1 = due at *
        obtain ⟨ai, an, ak⟩ := a
        simp only [akL] at hsf
        simp only at g1 g2
        obtain ⟨d0, d1, d2⟩ := sub3 hsf
        have b9 : Below wr.heap.size wr (wr.alloc (.cells #[.int .i64 ai, .int .i64 an, .int .i64 ak] 47)) := (Below.refl _ _).alloc (Nat.le_refl _) _
        have M9 := mapI_below b9 MJ.out
        have hl := run_lookup_int (P := Try.prog) (enc := Al.intV) (z := Al.intV 0) Try.underlying61 Try.underlying2 (fun w => by kernel_rfl) M9 ai
        rw [g1] at hl
        simp only [Al.intV] at hl
        obtain ⟨es, clk, ho, hr⟩ := M9
        obtain ⟨es', hu, hr'⟩ := run_delete_int (P := Try.prog) (enc := Al.intV) (clk := clk) Try.underlying61 Try.underlying2 0 2 hr mb ai
        have hu7 := hu _ ho
        have M10 : Hid (MapI (putObj (wr.alloc (.cells #[.int .i64 ai, .int .i64 an, .int .i64 ak] 47)) mb (.map es' clk)) mb Al.intV (aDel ai V)) := Lib.hid ⟨es', clk, obj_putObj_at _ _ _ (lt_of_obj ho), hr'⟩
        have kk : Keeps (fun n => n = mb) (wr.alloc (.cells #[.int .i64 ai, .int .i64 an, .int .i64 ak] 47)) (putObj (wr.alloc (.cells #[.int .i64 ai, .int .i64 an, .int .i64 ak] 47)) mb (.map es' clk)) := keeps_put _ _ _
        have K10 := Lib.hid ((KJ.out.below b9).beside (kk.mono fun n hn => .inr hn))
        have Q10 := Lib.hid ((QJ.out.trans (b9.mono QJ.out.size)).trans (kk.below (fun n hn => by have := ZM.out; omega) (QJ.out.trans (b9.mono QJ.out.size)).size))
        have S10 : Hid (SlIn (putObj (wr.alloc (.cells #[.int .i64 ai, .int .i64 an, .int .i64 ak] 47)) mb (.map es' clk)) (.slice (some ⟨bf, of_, none⟩) fl.length capf) 3 akL fl) := Lib.hid ((SJ.out.below b9).of_some kk.size fun a e hb => kk.block _ hb (HNB.out a e))
        have W10 := Lib.hid g2
        have hwz := hbf
        have hnb := HNB.out ⟨bf, of_, none⟩ rfl
        have hji : (j : Int) < fl.length := by omega
        have A9 := show obj (wr.alloc (.cells #[.int .i64 ai, .int .i64 an, .int .i64 ak] 47)) wr.heap.size = some (.cells #[.int .i64 ai, .int .i64 an, .int .i64 ak] 47 (0, 0)) from obj_alloc_at _ _ _ rfl
        have z0 := cell_at A9 0
        simp at z0
        have hnd1 : ¬ T < due := by omega
        clear ho hr hu hr' kk b9 KJ QJ MJ WJ SJ g1 g2 hsf hrf hidj hdt A9
        go_wp2_with fail
        exact ⟨⟨j + 1, _, by omega, by simp, K10, Q10, M10, W10, S10⟩, by simp [intOf]; omega⟩
    obtain ⟨M7, hM7⟩ : ∃ M7, M7 = M := ⟨_, rfl⟩
    rw [← hM7] at K6 WT
    clear hM7
    have K7 := Lib.hid (K6.out.mono (Y := fun n => n < w3.heap.size ∨ n = mb) fun n hn => .inl hn)
    have Q7 := Lib.hid Q6.out
    have M7' := Lib.hid M6.out
    have W8 := Lib.hid WT.out
    generalize W6 = w7 at *
    clear K6 Q6 X6 x1 x2 x3
    go_wp2_with fail
    have HLN := Lib.hid (len_bk _ _ b M7 K7.out)
    rw [← want_len K7.out.inv W8.out] at HLN
    refine HLN.out.mono ?_
    rintro e w8 ⟨rfl, b8⟩
    have K8 := Lib.hid (K7.out.below b8)
    have Q8 := Lib.hid (Q7.out.trans (b8.mono Q7.out.size))
    have m8 := mapI_below b8 M7'.out
    have R8 : Hid (∃ V, MapI w8 mb Al.intV V ∧ Al.Want M7.W V) := Lib.hid ⟨_, m8, W8.out⟩
    have hln := fun ty => run_len_int (P := Try.prog) Try.underlying61 ty m8
    clear b8 m8 K7 Q7 M7' W8 HLN
    go_wp2_with fail
    clear hln
    go_roundw
    case rel => exact ⟨k + 1, M7, by omega, by go_num, K8, Q8, R8⟩
    case measure => simp [intOf]; omega

end Go.Proofs.Ytagpclgappcnbaa
