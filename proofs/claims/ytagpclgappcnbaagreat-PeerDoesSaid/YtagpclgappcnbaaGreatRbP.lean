import Derived.Test.YtagpclgappcnbaaGreatRbO
import Derived.LoopTactic
import Derived.Deep.RegionHeld3
namespace Go.Proofs.YtagpclgappcnbaaGreat
open Go.RowKit

/-! ### PeerDoes -/
@[local go_sem ↓] theorem hide_load27c (a : Addr) : loadVar 27 a = loadAgg 27 a := rfl
@[local go_sem] theorem run_load27c (b off : Nat) (W : World) : (loadAgg 27 ⟨b, off, none⟩).run Tryz.prog W = loadRes Tryz.prog 27 ⟨b, off, none⟩ W (subOf (obj W b) off 11) := run_loadAgg Tryz.isAgg27 Tryz.sizeOf27 b off W
set_option maxRecDepth 100000 in
set_option maxHeartbeats 4000000 in
theorem doesLaw_any (w : World) (c : CfgD) (lv sv : Value) (l : List Be.Vd) (now : Int) (xs : List OpM) (hl : SlIn w lv 2 Be.vdL l) (hs : SlIn w sv 7 opL xs) (hx : ∀ x ∈ xs, OpOK x) (hde : c.q.de < 9223372036854775808) :
    Calls Tryz.prog 3 #[.agg (cfgC c), lv, .int .i64 now, sv] w fun e w' => e = .returned (.bool true) ∧ Below w.heap.size w w' := by
  have HB := Lib.hid (fun W => begun_any W)
  have b1 : Below w.heap.size w (w.alloc (.cells (cfgC c) 27)) := (Below.refl _ w).alloc (Nat.le_refl _) _
  have O1 := Lib.hid (show obj (w.alloc (.cells (cfgC c) 27)) w.heap.size = some (.cells (cfgC c) 27 (0, 0)) from obj_alloc_at _ _ _ rfl)
  have B1 := Lib.hid b1
  have HF := Lib.hid (fun W (hW : Below w.heap.size w W) => few_any W lv l (hl.below hW))
  have HL := Lib.hid (fun W (hW : Below w.heap.size w W) => hl.below hW)
  have HS := Lib.hid hs
  have HX := Lib.hid hx
  have HDE := Lib.hid hde
  obtain ⟨oal, capl, rfl, -⟩ := hl
  obtain ⟨oas, caps, rfl, s1, s2, -⟩ := hs
  clear b1 hx hde
  generalize hcc : cfgC c = cs at *
  have HCC := Lib.hid hcc
  clear hcc
  go_enter Tryz.func3, Tryz.ntmps3
  go_wp2_with fail
  generalize w.alloc (.cells cs 27) = w1 at *
  refine (HB.out w1).mono ?_
  rintro e w2 ⟨rfl, b2⟩
  have B2 := Lib.hid (B1.out.trans (b2.mono B1.out.size))
  have O2 := Lib.hid ((obj_below b2 (lt_of_obj O1.out)).trans O1.out)
  clear b2 B1 O1
  go_wp2_with fail
  refine (HF.out w2 B2.out).mono ?_
  rintro e w3 ⟨⟨fb, rfl, hfb⟩, b3⟩
  have B3 := Lib.hid (B2.out.trans (b3.mono B2.out.size))
  have O3 := Lib.hid ((obj_below b3 (lt_of_obj O2.out)).trans O2.out)
  clear b3 B2 O2 HF
  cases fb with
  | false =>
    go_wp2_with fail
    refine (HB.out w3).mono ?_
    rintro e w4 ⟨rfl, b4⟩
    go_wp2_with fail
    go_ret
    exact ⟨rfl, B3.out.trans (b4.mono B3.out.size)⟩
  | true =>
  have HFB := Lib.hid (hfb rfl)
  clear hfb HB
  go_wp2_with fail
  have HC1 := Lib.hid (fun W (hW : Below w3.heap.size w3 W) => clone_vd W _ l (HL.out W (B3.out.trans (hW.mono B3.out.size))) (by have := HFB.out.1; omega))
  have SK : Hid (∀ W, Below w3.heap.size w3 W → loadRes Tryz.prog 27 ⟨w.heap.size, 0, none⟩ W (subOf (obj W w.heap.size) 0 11) = .ok (.agg cs) W) := Lib.hid (fun W hW => by
    rw [obj_below hW (lt_of_obj O3.out), O3.out, ← HCC.out]; rfl)
  have s0 := SK.out w3 (Below.refl _ _)
  have s0d := SK.out w3.drew (Below.refl _ w3).drew
  have HW : Hid (∀ W, Below w3.heap.size w3 W → RNewR W c l now = RNewR W c l now) := Lib.hid (fun _ _ => rfl)
  have HRN := Lib.hid (fun W (hW : Below w3.heap.size w3 W) => rnew_book W c _ l now (HL.out W (B3.out.trans (hW.mono B3.out.size))) (fun x hx => by have := HFB.out.2 x hx; omega))
  have HCK := Lib.hid (fun W => pcheck_any W c)
  have HRC := Lib.hid (fun W => rpcheck_any W c)
  rw [HCC.out] at HRN HCK HRC
  unfold RNewR at HRN
  clear HW
  by_cases hE : newE c l now = 0
  case neg =>
    have HN1 : Hid (∀ W v, SlIn W v 2 Be.vdL l → Calls Tryz.prog 6 #[.agg cs, v, .int .i64 now] W fun e w' => e = .returned (.tuple #[.pointer none, .int .i64 (newE c l now)]) ∧ Below W.heap.size W w') := Lib.hid (fun W v h => by
      have := new_bk W c v l now h HDE.out
      rw [HCC.out] at this
      refine this.mono ?_
      rintro e w' ⟨h1, h2, h3⟩
      exact ⟨h2 hE, h1⟩)
    have he : (newE c l now == 0) = false := by simpa using hE
    generalize newE c l now = E at *
    go_region_held3 (fun W => loadRes Tryz.prog 27 ⟨w.heap.size, 0, none⟩ W (subOf (obj W w.heap.size) 0 11) = .ok (.agg cs) W)
      (first | exact s0 | exact s0d | assumption)
      (first
        | (go_at_call 7; (with_reducible refine (HC1.out _ (Below.refl _ w3).drew).mono ?_); rintro e w4 ⟨v4, rfl, h4, b4⟩; have g4 : Below w3.heap.size w3 w4 := (Below.refl _ w3).drew.trans b4; have s4 := SK.out _ g4)
        | (go_at_call 6; (with_reducible refine (HN1.out w4 v4 h4).mono ?_); rintro e w5 ⟨rfl, b5⟩; have g5 : Below w3.heap.size w3 w5 := g4.trans (b5.mono g4.size); have s5 := SK.out _ g5))
    go_wp2_with fail
    refine (HRN.out w5 g5).mono ?_
    rintro e w6 ⟨b6, h61, -⟩
    obtain rfl := h61 hE
    have g6 : Below w3.heap.size w3 w6 := g5.trans (b6.mono g5.size)
    have s6 := SK.out _ g6
    have s6d := SK.out w6.drew g6.drew
    go_wp2_with fail
    go_region_held3 (fun W => loadRes Tryz.prog 27 ⟨w.heap.size, 0, none⟩ W (subOf (obj W w.heap.size) 0 11) = .ok (.agg cs) W)
      (first | exact s6 | exact s6d | assumption)
      (first
        | (go_at_call 9; (with_reducible refine (HCK.out _).mono ?_); rintro e w7 ⟨rfl, b7⟩; have g7 : Below w3.heap.size w3 w7 := g6.trans (((Below.refl _ w6).drew.trans b7).mono g6.size); have s7 := SK.out _ g7)
        | (go_at_call 10; (with_reducible refine (HRC.out _).mono ?_); rintro e w8 ⟨rfl, b8⟩; have g8 : Below w3.heap.size w3 w8 := g7.trans (b8.mono g7.size); have s8 := SK.out _ g8))
    have BF := Lib.hid (B3.out.trans (g8.mono B3.out.size))
    clear g4 g5 g6 g7 g8 s4 s5 s6 s7 s8 s6d s0 s0d b4 b5 b6 b7 b8
    go_wp2_with fail
    go_ret
    exact ⟨rfl, BF.out⟩
  have HN1 : Hid (∀ W v, SlIn W v 2 Be.vdL l → Calls Tryz.prog 6 #[.agg cs, v, .int .i64 now] W fun e w' => (∃ b, e = .returned (.tuple #[.pointer (some ⟨b, 0, none⟩), .int .i64 0]) ∧ BkAt w' (fun n => n < W.heap.size) b (newM c l now)) ∧ Below W.heap.size W w') := Lib.hid (fun W v h => by
    have := new_bk W c v l now h HDE.out
    rw [HCC.out] at this
    refine this.mono ?_
    rintro e w' ⟨h1, h2, h3⟩
    exact ⟨h3 hE, h1⟩)
  go_region_held3 (fun W => loadRes Tryz.prog 27 ⟨w.heap.size, 0, none⟩ W (subOf (obj W w.heap.size) 0 11) = .ok (.agg cs) W)
    (first | exact s0 | exact s0d | assumption)
    (first
      | (go_at_call 7; (with_reducible refine (HC1.out _ (Below.refl _ w3).drew).mono ?_); rintro e w4 ⟨v4, rfl, h4, b4⟩; have g4 : Below w3.heap.size w3 w4 := (Below.refl _ w3).drew.trans b4; have s4 := SK.out _ g4)
      | (go_at_call 6; (with_reducible refine (HN1.out w4 v4 h4).mono ?_); rintro e w5 ⟨⟨b, rfl, hbk⟩, b5⟩; have g5 : Below w3.heap.size w3 w5 := g4.trans (b5.mono g4.size); have s5 := SK.out _ g5))
  go_wp2_with fail
  refine (HRN.out w5 g5).mono ?_
  rintro e w6 ⟨b6, -, h62⟩
  obtain ⟨rb, p, rfl, hr6⟩ := h62 hE
  have g6 : Below w3.heap.size w3 w6 := g5.trans (b6.mono g5.size)
  have s6 := SK.out _ g6
  have hbk6 := hbk.more b6
  have s6d := SK.out w6.drew g6.drew
  go_wp2_with fail
  go_region_held3 (fun W => loadRes Tryz.prog 27 ⟨w.heap.size, 0, none⟩ W (subOf (obj W w.heap.size) 0 11) = .ok (.agg cs) W)
    (first | exact s6 | exact s6d | assumption)
    (first
      | (go_at_call 9; (with_reducible refine (HCK.out _).mono ?_); rintro e w7 ⟨rfl, b7⟩; have g7 : Below w3.heap.size w3 w7 := g6.trans (((Below.refl _ w6).drew.trans b7).mono g6.size); have s7 := SK.out _ g7)
      | (go_at_call 10; (with_reducible refine (HRC.out _).mono ?_); rintro e w8 ⟨rfl, b8⟩; have g8 : Below w3.heap.size w3 w8 := g7.trans (b8.mono g7.size); have s8 := SK.out _ g8))
  have z4 := g4.size
  have z5 := b5.size
  have hrw := hr6.widen (G' := fun n => n < w4.heap.size ∨ (w5.heap.size ≤ n ∧ n < w6.heap.size)) (fun n h1 h2 => .inr ⟨h1, h2⟩)
  have b68 : Below w6.heap.size w6 w8 := ((Below.refl _ w6).drew.trans b7).trans (b8.mono (((Below.refl _ w6).drew.trans b7)).size)
  obtain ⟨P0, hP0⟩ : ∃ P0 : Nat → Prop, P0 = fun n => n = rb ∨ n = p.ra ∨ n = p.rh := ⟨_, rfl⟩
  have m6 : Mid w6 (fun n => n < w4.heap.size ∨ (w5.heap.size ≤ n ∧ n < w6.heap.size)) P0 b rb (newM c l now) (newM c l now) [] := ⟨hbk6, p, hrw, by rw [hP0]; exact .inl rfl, by rw [hP0]; exact .inr (.inl rfl), by rw [hP0]; exact .inr (.inr rfl)⟩
  have HP0 : Hid (∀ n, P0 n → w5.heap.size ≤ n ∧ n < w6.heap.size) := Lib.hid (fun n hn => by
    rw [hP0] at hn
    rcases hn with e | e | e
    · subst e; exact ⟨hr6.gb, hr6.lt⟩
    · subst e; exact ⟨hr6.ga, hr6.a.lt⟩
    · subst e; exact ⟨hr6.gh, hr6.h.lt⟩)
  have M8 := Lib.hid (m6.below b68)
  have Z8 := Lib.hid b68.size
  have Z56 := Lib.hid b6.size
  have RI8 := Lib.hid (RI.new c l now)
  have ML8 : Hid ((newM c l now).l = l) := Lib.hid rfl
  have Z4 : Hid (w3.heap.size ≤ w4.heap.size ∧ w4.heap.size ≤ w5.heap.size) := Lib.hid ⟨z4, z5⟩
  have BL8 := Lib.hid g8
  have ZB := Lib.hid B3.out.size
  obtain ⟨m, hm⟩ : ∃ m, m = min xs.length 50 := ⟨_, rfl⟩
  have hm1 : m ≤ xs.length := by omega
  have hm2 : m ≤ 50 := by omega
  have HR := run_lo29 HS.out hm1
  have hmi : (m : Int) = min (xs.length : Int) 50 := by omega
  rw [hmi] at HR
  have SM := Lib.hid (HS.out.takeC hm1)
  have XM : Hid (∀ x ∈ xs.take m, OpOK x) := Lib.hid (fun x hx => HX.out x (List.mem_of_mem_take hx))
  have hml : Hid ((xs.take m).length = m) := Lib.hid (by simp; omega)
  clear hm hmi hbk hbk6 hr6 hrw m6 g4 g5 g6 g7 g8 s4 s5 s6 s7 s8 s6d s0 s0d b4 b5 b6 b7 b8 b68 z4 z5 h4 HC1 HN1 HRN HCK HRC SK h62 HL
  generalize xs.take m = ys at *
  generalize newM c l now = M0 at *
  clear hP0
  go_wp2_with fail
  clear HR
  go_loopw [9, 64] (fun v9 v64 wr => ∃ (k b : Nat) (M : PM) (Q : List (Int × Int)) (X : Nat → Prop), k ≤ m ∧ v9 = .pointer (some ⟨b, 0, none⟩) ∧ v64 = .int .i64 k ∧ Hid (Mid wr X P0 b rb M M Q) ∧ Hid (RI M Q) ∧ Hid (M.l = l) ∧ Hid (Q.length ≤ k) ∧ Hid (∀ n, n < w4.heap.size → X n) ∧ Hid (Below w3.heap.size w3 wr) ∧ Hid (w8.heap.size ≤ wr.heap.size)) (fun _ i _ => m - (intOf i).toNat)
  case atStart => exact ⟨0, b, M0, [], _, Nat.zero_le _, rfl, rfl, M8, RI8, ML8, Lib.hid (Nat.le_refl _), Lib.hid (fun n hn => .inl hn), BL8, Lib.hid (Nat.le_refl _)⟩
  case round =>
    obtain ⟨k, b, M, Q, X, hk, rfl, rfl, HM, HRI, HML, HQL, HXX, HBL, HZ⟩ := hrel
    clear M8 RI8 ML8 BL8
    by_cases hlt : k < m
    case neg =>
      obtain rfl : m = k := by omega
      have BF := Lib.hid (B3.out.trans (HBL.out.mono ZB.out))
      have hkk : ¬ (m : Int) < m := by omega
      go_wp2_with fail
      go_ret
      exact ⟨rfl, BF.out⟩
    have hly := hml.out
    obtain ⟨bs, off, rfl, hbb, hrow⟩ := sl_row SM.out (by omega)
    have hs := hrow k (by omega)
    have bwr := Lib.hid (B3.out.trans (HBL.out.mono ZB.out))
    rw [← obj_below bwr.out hbb] at hs
    have XO := Lib.hid (XM.out ys[k] (List.getElem_mem _))
    generalize ys[k] = x at *
    have f0 : wr.cell? ⟨bs, off + k * 7, none⟩ = some (.int .i64 x.d) := by have := subOf_cell hs (j := 0) (by decide); simpa [opL] using this
    have f1 : wr.cell? ⟨bs, off + k * 7 + 1, none⟩ = some (.int .i64 x.v) := by have := subOf_cell hs (j := 1) (by decide); simpa [opL] using this
    have f2 : wr.cell? ⟨bs, off + k * 7 + 2, none⟩ = some (.int .i64 x.id) := by have := subOf_cell hs (j := 2) (by decide); simpa [opL] using this
    have f3 : wr.cell? ⟨bs, off + k * 7 + 3, none⟩ = some (.int .i64 x.kind) := by have := subOf_cell hs (j := 3) (by decide); simpa [opL] using this
    have f4 : wr.cell? ⟨bs, off + k * 7 + 4, none⟩ = some (.int .u16 x.ticks) := by have := subOf_cell hs (j := 4) (by decide); simpa [opL] using this
    have f5 : wr.cell? ⟨bs, off + k * 7 + 5, none⟩ = some (.bool x.past) := by have := subOf_cell hs (j := 5) (by decide); simpa [opL] using this
    have f6 : wr.cell? ⟨bs, off + k * 7 + 6, none⟩ = some (.int .i64 x.now) := by have := subOf_cell hs (j := 6) (by decide); simpa [opL] using this
    have hbr : bs < wr.heap.size := Nat.lt_of_lt_of_le hbb bwr.out.size
    clear hs hrow hly
    have b1 : Below wr.heap.size wr (wr.alloc (.cells (opCells x) 45)) := (Below.refl _ _).alloc (Nat.le_refl _) _
    have X1 := Lib.hid (show obj (wr.alloc (.cells (opCells x) 45)) wr.heap.size = some (.cells (opCells x) 45 (0, 0)) from obj_alloc_at _ _ _ rfl)
    have S1 := Lib.hid (show (wr.alloc (.cells (opCells x) 45)).heap.size = wr.heap.size + 1 by simp)
    have M1 := Lib.hid (HM.out.more b1)
    have HI := Lib.hid HM.out.bk.inv
    have HPW : Hid (∀ n, P0 n → n < wr.heap.size) := Lib.hid (fun n hn => by have h1 := HP0.out n hn; have h2 := Z8.out; have h3 := HZ.out; omega)
    have HNM : Hid (∀ y ∈ M.l, y.name.size ≤ 300) := Lib.hid (fun y hy => by rw [HML.out] at hy; have := HFB.out.2 y hy; omega)
    have HQ1 : Hid (Q.length ≤ 100000) := Lib.hid (by have := HQL.out; omega)
    have HD := Lib.hid (does_any _ _ P0 b rb M Q x M1.out HRI.out HQ1.out HNM.out XO.out (fun n hn => by have := HPW.out n hn; have := S1.out; omega))
    have QB : Hid (Below w3.heap.size w3 (wr.alloc (.cells (opCells x) 45))) := Lib.hid (HBL.out.trans (b1.mono HBL.out.size))
    have OX : Hid (XN X wr (wr.alloc (.cells (opCells x) 45)) wr.heap.size ∧ ¬ P0 wr.heap.size) := Lib.hid ⟨.inr ⟨Nat.le_refl _, by have := S1.out; omega⟩, fun hh => by have := HPW.out _ hh; omega⟩
    have OX2 : Hid (∀ n, n < w4.heap.size → XN X wr (wr.alloc (.cells (opCells x) 45)) n) := Lib.hid (fun n hn => .inl (HXX.out n hn))
    have RI1 := Lib.hid (HRI.out.does HI.out x)
    have ML1 := Lib.hid ((does_l M x).trans HML.out)
    have QL1 : Hid ((doesQ M Q x).length ≤ k + 1) := Lib.hid (by have h1 := doesQ_len M Q x; have h2 := HQL.out; omega)
    have ZW : Hid (w3.heap.size ≤ wr.heap.size) := Lib.hid HBL.out.size
    have hki : (k : Int) < m := by omega
    unfold opCells at X1 S1 M1 HD QB OX OX2
    clear b1 HBL HPW HNM HQ1 HXX HM HRI HML HQL HI bwr
    go_wp2_with fail
    clear f0 f1 f2 f3 f4 f5 f6 hbr
    generalize wr.alloc (.cells #[.int .i64 x.d, .int .i64 x.v, .int .i64 x.id, .int .i64 x.kind, .int .u16 x.ticks, .bool x.past, .int .i64 x.now] 45) = w5' at *
    generalize XN X wr w5' = X1' at *
    refine HD.out.mono ?_
    rintro e w6' ⟨rfl, ⟨X', hx1, hx2, m6'⟩, k6⟩
    have M6 := Lib.hid m6'
    have K6 := Lib.hid k6
    have HX6 := Lib.hid (And.intro hx1 hx2)
    generalize doesM M x = M' at *
    generalize doesQ M Q x = Q' at *
    clear m6' k6 hx1 hx2 HD M1
    go_wp2_with fail
    refine (same_any w6' X' P0 b rb M' Q' M6.out RI1.out).mono ?_
    rintro e w7' ⟨rfl, b7'⟩
    have M7 := Lib.hid (M6.out.below b7')
    have K7 := Lib.hid (K6.out.trans (Keeps.of_below b7'))
    have o7 := (K7.out.block wr.heap.size (lt_of_obj X1.out) (fun hh => hh.elim OX.out.2 fun h => h OX.out.1)).trans X1.out
    have x0 : w7'.cell? ⟨wr.heap.size, 0, none⟩ = some (.int .i64 x.d) := cell_at o7 0
    have lx7 := lt_of_obj o7
    have QB7 : Hid (Below w3.heap.size w3 w7') := Lib.hid (QB.out.trans (K7.out.below (B := w3.heap.size) (fun n hn => by
      rcases hn with hn | hn
      · have h1 := HP0.out n hn; have h2 := Z4.out; omega
      · exact Nat.le_of_not_lt fun hh => hn (OX2.out n (by have h2 := Z4.out; omega))) QB.out.size))
    have XX7 : Hid (∀ n, n < w4.heap.size → X' n) := Lib.hid (fun n hn => HX6.out.1 n (OX2.out n hn))
    have Z7 : Hid (w8.heap.size ≤ w7'.heap.size) := Lib.hid (by have h1 := K7.out.size; have h2 := S1.out; have h3 := HZ.out; omega)
    clear b7' M6 K6 X1 S1 QB OX OX2 HX6 o7 K7
    by_cases hd : x.d = 4
    case neg =>
      have hd' : (x.d != 4) = true := by simpa using hd
      go_wp2_with fail
      go_roundw
      case rel => exact ⟨k + 1, b, M', Q', X', by omega, rfl, by go_num, M7, RI1, ML1, QL1, XX7, QB7, Z7⟩
      case measure => simp [intOf]; omega
    obtain ⟨F, pp, g1, g2⟩ := M7.out.bk.ex
    have hI7 := M7.out.bk.inv
    have hpk := PInvW.pok hI7
    have HI9 := Lib.hid (hI7.askP 0 7 M'.now)
    obtain ⟨p7, hr7, -⟩ := M7.out.ex
    have HCL := Lib.hid (clone_any w7' F b pp M' g1 RI1.out.rise RI1.out.nd hpk)
    have HASK := Lib.hid (fun W (hW : Below w7'.heap.size w7' W) => ask_any W F b pp M' 0 7 M'.now (g1.below hW) hpk)
    have C17 := Lib.hid (fun W (hW : Below w7'.heap.size w7' W) => show W.cell? ⟨rb, 17, none⟩ = some (.int .i64 M'.now) from cell_at (hr7.below hW).box 17)
    have LRB := Lib.hid hr7.lt
    have HTK := Lib.hid (fun W F9 (h9 : PeerAt W F9 b pp (askP M' 0 7 M'.now).1) => tick_any W F9 b pp (askP M' 0 7 M'.now).1 4611686018427387903 h9 (fun hE => (PInvW.tickF (PInv.tick0 HI9.out hE)).1) (PInvW.pok HI9.out).l (PInvW.pok HI9.out).s)
    have G1 := Lib.hid g1
    have G2 := Lib.hid g2
    clear g1 g2 hr7 hpk hI7
    generalize hak : askP M' 0 7 M'.now = ak at *
    obtain ⟨M9, id9, is9, e9⟩ := ak
    simp only at HTK HI9
    unfold AskR at HASK
    simp only at HASK
    clear hak
    go_wp2_with fail
    refine HCL.out.mono ?_
    rintro e w8' ⟨⟨nb, p', F', a', rfl, hn8, hperm, hla, hsa, hown⟩, b8⟩
    have c17 := C17.out w8' b8
    have lrb : rb < w8'.heap.size := Nat.lt_of_lt_of_le LRB.out b8.size
    have HASK8 := Lib.hid (HASK.out w8' b8)
    have HN8 := Lib.hid hn8
    have HPM := Lib.hid hperm
    have HLS := Lib.hid (And.intro hla hsa)
    have HOW := Lib.hid hown
    have B8 := Lib.hid b8
    clear hn8 hperm hla hsa hown b8 HASK C17 HCL
    go_wp2_with fail
    refine HASK8.out.mono ?_
    rintro e w9' ⟨rfl, ⟨F9, hb9, gr9⟩, k9⟩
    have HT9 := Lib.hid (HTK.out w9' F9 hb9)
    have GR9 := Lib.hid gr9
    have K9 := Lib.hid k9
    clear hb9 gr9 k9 HASK8 c17 lrb HTK
    unfold TickO at HT9
    cases is9 <;> (
      go_wp2_with fail
      refine HT9.out.mono ?_
      rintro e w10' ⟨v10, rfl, -, -, k10⟩
      obtain ⟨mc, kc⟩ := Mid.cloned M7.out G1.out G2.out B8.out HN8.out HLS.out.1 HLS.out.2 HOW.out K9.out GR9.out k10
      have MC := Lib.hid mc
      have QB10 : Hid (Below w3.heap.size w3 w10') := Lib.hid (QB7.out.trans (kc.below (B := w3.heap.size) (fun n hn => Nat.le_of_not_lt fun hh => hn (XX7.out n (by have h2 := Z4.out; omega))) QB7.out.size))
      have Z10 : Hid (w8.heap.size ≤ w10'.heap.size) := Lib.hid (Nat.le_trans Z7.out kc.size)
      have RI10 := Lib.hid (RI1.out.perm HPM.out)
      have ML10 : Hid (({ M' with asked := a' } : PM).l = l) := Lib.hid ML1.out
      clear mc kc k10 HT9 M7 G1 G2 B8 HN8 HLS HOW K9 GR9
      go_wp2_with fail
      refine (same_any w10' X' P0 nb rb _ Q' MC.out RI10.out).mono ?_
      rintro e w11' ⟨rfl, b11⟩
      have M11 := Lib.hid (MC.out.below b11)
      have QB11 : Hid (Below w3.heap.size w3 w11') := Lib.hid (QB10.out.trans (b11.mono QB10.out.size))
      have Z11 : Hid (w8.heap.size ≤ w11'.heap.size) := Lib.hid (Nat.le_trans Z10.out b11.size)
      clear b11 MC QB10 Z10
      go_wp2_with fail
      go_roundw
      case rel => exact ⟨k + 1, nb, _, Q', X', by omega, rfl, by go_num, M11, RI10, ML10, QL1, XX7, QB11, Z11⟩
      case measure => simp [intOf]; omega)
end Go.Proofs.YtagpclgappcnbaaGreat
