import Derived.Test.YtfejhekoijemdaaOrdM
import Derived.Test.YtfejhekoijemdaaAllT2
import Derived.Test.YtfejhekoijemdaaFew
namespace Go.Proofs.Ytfejhekoijemdaa
open Go.RowKit

set_option maxRecDepth 100000 in
set_option maxHeartbeats 8000000 in
theorem orderLaw_any (w : World) (c f : Int) (bc : 0 ≤ c ∧ c ≤ 255) (bf : 0 ≤ f ∧ f ≤ 255) (v : Value) (xs : List OpM) (hx : SlIn w v 5 opL xs) (hok : ∀ x ∈ xs, OpOK w x) :
    Calls Try.prog 6 #[.int .u8 c, .int .u8 f, v] w fun e w' => e = .returned (.bool true) ∧ Below w.heap.size w w' := by
  have HB := fun W => Lib.hid (begun_any W)
  have HFW := Lib.hid (few_any w v xs hx)
  have HX := Lib.hid hok
  obtain ⟨c0, c1⟩ := bc
  obtain ⟨f0, f1⟩ := bf
  have e1 : c.tmod 8 = c % 8 := Int.tmod_eq_emod_of_nonneg c0
  have e2 : f.tmod 8 = f % 8 := Int.tmod_eq_emod_of_nonneg f0
  have e3 : IntKind.u8.wrap (c % 8) = c % 8 := by simp [IntKind.wrap, IntKind.signed, IntKind.bits]; omega
  have e4 : IntKind.u8.wrap (f % 8) = f % 8 := by simp [IntKind.wrap, IntKind.signed, IntKind.bits]; omega
  have e5 : IntKind.i64.wrap (c % 8) = c % 8 := by simp [IntKind.wrap, IntKind.signed, IntKind.bits]; omega
  have e6 : IntKind.i64.wrap (f % 8) = f % 8 := by simp [IntKind.wrap, IntKind.signed, IntKind.bits]; omega
  obtain ⟨p, hp⟩ : ∃ p, p = 1 + c % 8 := ⟨_, rfl⟩
  obtain ⟨q, hq⟩ : ∃ q, q = p + f % 8 := ⟨_, rfl⟩
  have e7 : IntKind.i64.wrap (1 + c % 8) = p := by simp [IntKind.wrap, IntKind.signed, IntKind.bits]; omega
  have e8 : IntKind.i64.wrap (p + f % 8) = q := by simp [IntKind.wrap, IntKind.signed, IntKind.bits]; omega
  have d1 : 1 ≤ p := by omega
  have d2 : p ≤ q := by omega
  have d3 : q ≤ 64 := by omega
  have HSW := Lib.hid (fun W (hz : W.heap.size ≥ w.heap.size) => new_yes W p q d1 d2 d3)
  have HOK0 := Lib.hid (OrdI.new d1 d2 d3)
  clear hok hx hp hq
  go_enter Try.func6, Try.ntmps6
  go_wp2_with fail
  refine HFW.out.mono ?_
  rintro e w1 ⟨⟨v1, ys, fb, rfl, y1, y2, y3, y4⟩, b1⟩
  have B1 := Lib.hid b1
  have HY := Lib.hid y1
  have HYX : Hid (∀ x ∈ ys, OpOK w1 x) := Lib.hid (fun x hx => by
    obtain ⟨k, rfl⟩ := y2
    exact (HX.out x (List.mem_of_mem_take hx)).below b1)
  have HY3 := Lib.hid y3
  clear HX HFW y2 y4 y1 y3
  obtain ⟨ya, yc, rfl, y1, y2, y5⟩ := HY.out
  have Y5 := Lib.hid y5
  unfold maxLen at y2
  clear y5
  go_wp2_with fail
  refine (HSW.out _ b1.size).mono ?_
  rintro e w2 ⟨rfl, hw2⟩
  have S0 : Hid (SetW w2 (fun n => n = w1.heap.size) (fun _ => False) w1.heap.size (.slice none 0 0) [] ⟨p, q, 0, []⟩) := Lib.hid (by rw [hw2]; exact new_set w1 p q)
  have B2 : Hid (Below w1.heap.size w1 w2) := Lib.hid (by rw [hw2]; exact (Below.refl _ _).alloc (Nat.le_refl _) _)
  have hz1 := b1.size
  clear hw2 b1 HSW
  generalize hb : w1.heap.size = b at *
  go_wp2_with fail
  refine (HB _).out.mono ?_
  rintro e w3 ⟨rfl, b3⟩
  have S1 := Lib.hid (S0.out.below b3)
  have B3 : Hid (Below b w1 w3) := Lib.hid (B2.out.trans (b3.mono (by have := B2.out.size; omega)))
  clear b3 S0 B2
  by_cases hfb : fb = false
  · subst hfb
    go_wp2_with fail
    refine (HB _).out.mono ?_
    rintro e w4 ⟨rfl, b4⟩
    have B4 := Lib.hid (B3.out.trans (b4.mono (by have := B3.out.size; omega)))
    clear b4
    go_wp2_with fail
    go_ret
    exact ⟨rfl, B1.out.trans (B4.out.mono hz1)⟩
  have hfb' : fb = true := by simpa using hfb
  subst hfb'
  go_wp2_with fail
  go_loopw [11, 12, 62] (fun v11 v12 v62 wr => ∃ (k : Nat) (a u : Int), k ≤ ys.length ∧ v62 = .int .i64 k ∧ v11 = .int .i64 a ∧ v12 = .int .i64 u ∧ Hid (∃ M V lv ps S, SetW wr M V b lv ps S ∧ OrdI k a u S ∧ (∀ n, M n → b ≤ n)) ∧ Hid (Below b w1 wr)) (fun _ _ i _ => ys.length - (intOf i).toNat)
  case atStart => exact ⟨0, 0, 0, Nat.zero_le _, rfl, rfl, rfl, Lib.hid ⟨_, _, _, _, _, S1.out, HOK0.out, fun n hn => Nat.le_of_eq hn.symm⟩, B3⟩
  case round =>
    clear S1 B3 HOK0
    obtain ⟨k, a, u, hk, rfl, rfl, rfl, HR, HBr⟩ := hrel
    obtain ⟨M, V, lv, ps, S, r1, r2, r3⟩ := HR.out
    have zr : b ≤ wr.heap.size := by have := HBr.out.size; omega
    have RO := Lib.hid r2
    have MM := Lib.hid r3
    by_cases hlt : k < ys.length
    case neg =>
      go_wp2_with fail
      go_ret
      exact ⟨rfl, B1.out.trans (HBr.out.mono hz1)⟩
    obtain ⟨by_, oy, rfl, hby, hry⟩ := Y5.out (by omega)
    have hsy := hry k hlt
    have hOPK := HYX.out ys[k] (List.getElem_mem hlt)
    have hk60 : k < 60 := by have := HY3.out; omega
    have hbyw : by_ < wr.heap.size := by omega
    rw [← obj_below HBr.out (by omega)] at hsy
    have g0 : wr.cell? ⟨by_, oy + k * 5, none⟩ = some (.int .i64 ys[k].d) := by have := subOf_cell hsy (j := 0) (by decide); simpa [opL] using this
    have g1 : wr.cell? ⟨by_, oy + k * 5 + 1, none⟩ = some (.int .i64 ys[k].poll) := by have := subOf_cell hsy (j := 1) (by decide); simpa [opL] using this
    have g2 : wr.cell? ⟨by_, oy + k * 5 + 2, none⟩ = some (.int .i64 ys[k].v) := by have := subOf_cell hsy (j := 2) (by decide); simpa [opL] using this
    have g3 : wr.cell? ⟨by_, oy + k * 5 + 3, none⟩ = some (.int .u8 ys[k].id) := by have := subOf_cell hsy (j := 3) (by decide); simpa [opL] using this
    have g4 : wr.cell? ⟨by_, oy + k * 5 + 4, none⟩ = some (.slice ys[k].oa ys[k].n ys[k].cap) := by have := subOf_cell hsy (j := 4) (by decide); simpa [opL] using this
    clear hry hsy
    generalize ys[k] = x at *
    obtain ⟨xd, xp, xv, xi, xo, xn, xc, xx⟩ := x
    simp only at g0 g1 g2 g3 g4
    obtain ⟨wo, rfl⟩ : ∃ wo : World, wo = wr := ⟨_, rfl⟩
    have T1 := Lib.hid (r1.alloc (.cells #[.int .i64 xd, .int .i64 xp, .int .i64 xv, .int .u8 xi, .slice xo xn xc] 54))
    have OB : Hid (obj (wo.alloc (.cells #[.int .i64 xd, .int .i64 xp, .int .i64 xv, .int .u8 xi, .slice xo xn xc] 54)) wo.heap.size = some (.cells #[.int .i64 xd, .int .i64 xp, .int .i64 xv, .int .u8 xi, .slice xo xn xc] 54 (0, 0))) := Lib.hid (obj_alloc_at _ _ _ rfl)
    have BA : Hid (Below b w1 (wo.alloc (.cells #[.int .i64 xd, .int .i64 xp, .int .i64 xv, .int .u8 xi, .slice xo xn xc] 54))) := Lib.hid (HBr.out.alloc (by omega) _)
    have PM : Hid (∀ n, M n → n < wo.heap.size) := Lib.hid (fun n hn => r1.mlt n hn)
    have HZA : Hid ((wo.alloc (.cells #[.int .i64 xd, .int .i64 xp, .int .i64 xv, .int .u8 xi, .slice xo xn xc] 54)).heap.size = wo.heap.size + 1) := Lib.hid (by simp)
    have ha0 : 0 ≤ a ∧ a ≤ 60 ∧ 0 ≤ u ∧ u ≤ a := by have h1 := r2.len; have h2 := r2.ak; have h3 := r2.u0; omega
    obtain ⟨a0, a60, u0, ua⟩ := ha0
    have HOPK := Lib.hid hOPK
    clear r1 r2 r3 HR hOPK
    by_cases hd0 : xd = 0
    case pos =>
      subst hd0
      go_wp2_with fail
      have cl := cell_at OB.out 1
      have cv := cell_at OB.out 2
      have ci := cell_at OB.out 3
      have cs := cell_at OB.out 4
      have hza := HZA.out
      generalize hWA : wo.alloc (.cells #[.int .i64 0, .int .i64 xp, .int .i64 xv, .int .u8 xi, .slice xo xn xc] 54) = wa at *
      clear hWA g0 g1 g2 g3 g4
      simp at cv ci cl cs
      have hsl : RdAt wa M (.slice xo xn xc) xx := ⟨HOPK.out.sl.below (by rw [hb]; exact BA.out), fun bb off len cap e h0 hm => by
        obtain ⟨oa', cap', e1, _, _, h3⟩ := HOPK.out.sl
        obtain ⟨b', off', e2, hb', _⟩ := h3 h0
        have h5 := MM.out bb hm
        injection e1 with e3 _ _
        injection e with e4 _ _
        have e5 := (show xo = some ⟨b', off', none⟩ from e3.trans e2).symm.trans e4
        injection e5 with e6
        injection e6 with e7 _ _
        omega⟩
      by_cases ho : openC S xx = 0
      case neg =>
        have HOP := Lib.hid (open_no wa M V b lv ps S T1.out RO.out.ok.p0 _ _ hsl.1 ho)
        have OI := Lib.hid RO.out.next
        have BT := BA
        have ST := T1
        have MM' := MM
        clear hsl
        generalize openC S xx = oc at *
        have hoc : ¬ oc = 0 := ho
        refine HOP.out.mono ?_
        rintro e w7 ⟨rfl, hw7⟩
        cases hw7
        have HLE := Lib.hid (len_any wa M V b lv ps S ST.out OI.out.ok.p0)
        rw [OI.out.len] at HLE
        have hzt : b ≤ wa.heap.size := by have := BT.out.size; omega
        have hl1 : u ≤ a := by have := OI.out.len; omega
        have hl2 : 0 ≤ u ∧ a ≤ 61 := by have h1 := OI.out.u0; have h2 := OI.out.ak; omega
        have hws : IntKind.i64.wrap (a - (u)) = a - (u) := by simp [IntKind.wrap, IntKind.signed, IntKind.bits]; omega
        have hl3 : ¬ a < u := by omega
        go_wp2_with fail
        refine HLE.out.mono ?_
        rintro e w9 ⟨rfl, hw9⟩
        cases hw9
        go_wp2_with fail
        go_roundw
        case rel => exact ⟨k + 1, _, _, by omega, by go_num, rfl, rfl, Lib.hid ⟨_, _, _, _, _, ST.out, OI.out, MM'.out⟩, BT⟩
        case measure => simp [intOf]; omega
      have hla := RO.out.last
      have HOP := Lib.hid (open_yes wa M V b lv ps S T1.out RO.out.ok (by rw [hla]; omega) _ _ hsl ho)
      have OI := Lib.hid (RO.out.add ho)
      rw [hla] at HOP
      have hwa1 : IntKind.i64.wrap (a + 1) = a + 1 := by simp [IntKind.wrap, IntKind.signed, IntKind.bits]; omega
      clear hsl ho hla
      refine HOP.out.mono ?_
      rintro e w7 ⟨rfl, M7, lv7, ps7, s7, m1, m2, k7⟩
      have ST := Lib.hid s7
      have MM' : Hid (∀ n, M7 n → b ≤ n) := Lib.hid (fun n hn => by
        rcases m2 n hn with h | h
        · exact MM.out n h
        · omega)
      have BT : Hid (Below b w1 w7) := Lib.hid (BA.out.trans (k7.below MM.out (by omega)))
      clear s7 m1 m2 k7 HOP
      generalize addS S xx = T7 at *
      have HLE := Lib.hid (len_any w7 M7 V b lv7 ps7 T7 ST.out OI.out.ok.p0)
      rw [OI.out.len] at HLE
      have hzt : b ≤ w7.heap.size := by have := BT.out.size; omega
      have hl1 : u ≤ (a + 1) := by have := OI.out.len; omega
      have hl2 : 0 ≤ u ∧ (a + 1) ≤ 61 := by have h1 := OI.out.u0; have h2 := OI.out.ak; omega
      have hws : IntKind.i64.wrap ((a + 1) - (u)) = (a + 1) - (u) := by simp [IntKind.wrap, IntKind.signed, IntKind.bits]; omega
      have hl3 : ¬ (a + 1) < u := by omega
      go_wp2_with fail
      refine HLE.out.mono ?_
      rintro e w9 ⟨rfl, hw9⟩
      cases hw9
      go_wp2_with fail
      go_roundw
      case rel => exact ⟨k + 1, _, _, by omega, by go_num, rfl, rfl, Lib.hid ⟨_, _, _, _, _, ST.out, OI.out, MM'.out⟩, BT⟩
      case measure => simp [intOf]; omega
    by_cases hd1 : xd = 1
    case pos =>
      subst hd1
      go_wp2_with fail
      have cl := cell_at OB.out 1
      have cv := cell_at OB.out 2
      have ci := cell_at OB.out 3
      have cs := cell_at OB.out 4
      have hza := HZA.out
      generalize hWA : wo.alloc (.cells #[.int .i64 1, .int .i64 xp, .int .i64 xv, .int .u8 xi, .slice xo xn xc] 54) = wa at *
      clear hWA g0 g1 g2 g3 g4
      simp at cv ci cl cs
      refine wp_region_later_tail wa (Below.refl _ _) 8 (by kernel_rfl) (by kernel_rfl) ?_
      simp only [List.take_succ_cons, List.take_zero, List.drop_succ_cons, List.drop_zero]
      repeat (go_big_quiet_step (first | (go_at_call 15; with_reducible exact Calls.later (name_any _ _ HOPK.out.lo HOPK.out.hi))))
      refine wpQuiet_nil ?_
      intro _ hxx
      obtain ⟨⟨w6, b6⟩, hxx⟩ := hxx
      subst hxx
      rename_i w6
      have hz6 := b6.size
      have HVO := Lib.hid (vote_any w6 M V b lv ps S (T1.out.below b6) RO.out.ok xp xv (nameP xi))
      have OI := Lib.hid (RO.out.next.voteM xp xv (nameP xi))
      have B6 : Hid (Below b w1 w6) := Lib.hid (BA.out.trans (b6.mono (by omega)))
      clear b6
      go_wp2_with fail
      refine HVO.out.mono ?_
      rintro e w7 ⟨rfl, V7, s7, q1, q2, k7⟩
      have ST := Lib.hid s7
      have MM' := MM
      have BT : Hid (Below b w1 w7) := Lib.hid (B6.out.trans (k7.below MM.out (by have := B6.out.size; omega)))
      clear s7 q1 q2 k7 HVO
      generalize voteM S xp xv (nameP xi) = T7 at *
      have HLE := Lib.hid (len_any w7 M V7 b lv ps T7.1 ST.out OI.out.ok.p0)
      rw [OI.out.len] at HLE
      have hzt : b ≤ w7.heap.size := by have := BT.out.size; omega
      have hl1 : u ≤ a := by have := OI.out.len; omega
      have hl2 : 0 ≤ u ∧ a ≤ 61 := by have h1 := OI.out.u0; have h2 := OI.out.ak; omega
      have hws : IntKind.i64.wrap (a - (u)) = a - (u) := by simp [IntKind.wrap, IntKind.signed, IntKind.bits]; omega
      have hl3 : ¬ a < u := by omega
      go_wp2_with fail
      refine HLE.out.mono ?_
      rintro e w9 ⟨rfl, hw9⟩
      cases hw9
      go_wp2_with fail
      go_roundw
      case rel => exact ⟨k + 1, _, _, by omega, by go_num, rfl, rfl, Lib.hid ⟨_, _, _, _, _, ST.out, OI.out, MM'.out⟩, BT⟩
      case measure => simp [intOf]; omega
    by_cases hd2 : xd = 2
    case pos =>
      subst hd2
      go_wp2_with fail
      have cl := cell_at OB.out 1
      have cv := cell_at OB.out 2
      have ci := cell_at OB.out 3
      have cs := cell_at OB.out 4
      have hza := HZA.out
      generalize hWA : wo.alloc (.cells #[.int .i64 2, .int .i64 xp, .int .i64 xv, .int .u8 xi, .slice xo xn xc] 54) = wa at *
      clear hWA g0 g1 g2 g3 g4
      simp at cv ci cl cs
      have HVO := Lib.hid (drop_any wa M V b lv ps S T1.out RO.out.ok xp xv)
      have OI := Lib.hid (RO.out.next.dropM xp xv)
      have B6 := BA
      refine HVO.out.mono ?_
      rintro e w7 ⟨rfl, V7, s7, q1, q2, k7⟩
      have ST := Lib.hid s7
      have MM' := MM
      have BT : Hid (Below b w1 w7) := Lib.hid (B6.out.trans (k7.below MM.out (by have := B6.out.size; omega)))
      clear s7 q1 q2 k7 HVO
      generalize dropM S xp xv = T7 at *
      have HLE := Lib.hid (len_any w7 M V7 b lv ps T7.1 ST.out OI.out.ok.p0)
      rw [OI.out.len] at HLE
      have hzt : b ≤ w7.heap.size := by have := BT.out.size; omega
      have hl1 : u ≤ a := by have := OI.out.len; omega
      have hl2 : 0 ≤ u ∧ a ≤ 61 := by have h1 := OI.out.u0; have h2 := OI.out.ak; omega
      have hws : IntKind.i64.wrap (a - (u)) = a - (u) := by simp [IntKind.wrap, IntKind.signed, IntKind.bits]; omega
      have hl3 : ¬ a < u := by omega
      go_wp2_with fail
      refine HLE.out.mono ?_
      rintro e w9 ⟨rfl, hw9⟩
      cases hw9
      go_wp2_with fail
      go_roundw
      case rel => exact ⟨k + 1, _, _, by omega, by go_num, rfl, rfl, Lib.hid ⟨_, _, _, _, _, ST.out, OI.out, MM'.out⟩, BT⟩
      case measure => simp [intOf]; omega
    by_cases hd3 : xd = 3
    case neg =>
      go_wp2_with fail
      have cl := cell_at OB.out 1
      have cv := cell_at OB.out 2
      have ci := cell_at OB.out 3
      have cs := cell_at OB.out 4
      have hza := HZA.out
      generalize hWA : wo.alloc (.cells #[.int .i64 xd, .int .i64 xp, .int .i64 xv, .int .u8 xi, .slice xo xn xc] 54) = wa at *
      clear hWA g0 g1 g2 g3 g4
      simp at cv ci cl cs
      have ST := T1
      have OI := Lib.hid RO.out.next
      have MM' := MM
      have BT := BA
      have HLE := Lib.hid (len_any wa M V b lv ps S ST.out OI.out.ok.p0)
      rw [OI.out.len] at HLE
      have hzt : b ≤ wa.heap.size := by have := BT.out.size; omega
      have hl1 : u ≤ a := by have := OI.out.len; omega
      have hl2 : 0 ≤ u ∧ a ≤ 61 := by have h1 := OI.out.u0; have h2 := OI.out.ak; omega
      have hws : IntKind.i64.wrap (a - (u)) = a - (u) := by simp [IntKind.wrap, IntKind.signed, IntKind.bits]; omega
      have hl3 : ¬ a < u := by omega
      refine HLE.out.mono ?_
      rintro e w9 ⟨rfl, hw9⟩
      cases hw9
      go_wp2_with fail
      go_roundw
      case rel => exact ⟨k + 1, _, _, by omega, by go_num, rfl, rfl, Lib.hid ⟨_, _, _, _, _, ST.out, OI.out, MM'.out⟩, BT⟩
      case measure => simp [intOf]; omega
    subst hd3
    go_wp2_with fail
    have cl := cell_at OB.out 1
    have cv := cell_at OB.out 2
    have ci := cell_at OB.out 3
    have cs := cell_at OB.out 4
    have hza := HZA.out
    generalize hWA : wo.alloc (.cells #[.int .i64 3, .int .i64 xp, .int .i64 xv, .int .u8 xi, .slice xo xn xc] 54) = wa at *
    clear hWA g0 g1 g2 g3 g4
    simp at cv ci cl cs
    have hll : S.l.length ≤ 60 := by have := RO.out.len; omega
    have HDN := Lib.hid (doneS_any wa M V b lv ps S T1.out RO.out.ok (by omega))
    have OI := Lib.hid (RO.out.next.drop (doneN S) (doneN_le S))
    have hdl := doneN_le S
    have FR : Hid (∀ o, (dropS S (doneN S)).l[0]? = some o → isDone (dropS S (doneN S)) o = false) := Lib.hid (fun o h => first_rest h)
    have HID : Hid (∀ (i : Nat) (o : OneM), S.l[i]? = some o → o.id = u + 1 + i) := Lib.hid RO.out.ids
    refine HDN.out.mono ?_
    rintro e w5 ⟨v5, es, lv5, ps5, rfl, o5, s5, e5, k5⟩
    have hz5 := k5.size
    have hel : es.length = doneN S := by rw [e5.1]; simp; omega
    have EID : Hid (∀ j (hj : j < es.length), es[j].id = u + 1 + j) := Lib.hid (fun j hj => by
      have hjs : j < S.l.length := by omega
      have h1 := (e5.2 j es[j] S.l[j] (List.getElem?_eq_getElem hj) (by rw [List.getElem?_take_of_lt (by omega)]; exact List.getElem?_eq_getElem hjs)).id
      rw [h1]
      exact HID.out j _ (List.getElem?_eq_getElem hjs))
    have B5 : Hid (Below b w1 w5) := Lib.hid (BA.out.trans (k5.below MM.out (by omega)))
    have S5 := Lib.hid s5
    have OB5 := Lib.hid ((k5.block wo.heap.size (by omega) (fun h => by have := PM.out _ h; omega)).trans OB.out)
    have G5 : Hid (∀ g, v5.ownBlock = some g → ¬ M g) := Lib.hid (fun g hg hm => by have h1 := (o5.1.lt g hg).1; have h2 := PM.out g hm; omega)
    obtain ⟨ea, ec, rfl, g1, g2, g3⟩ := o5.slIn endL_length
    have E3 := Lib.hid g3
    unfold maxLen at g2
    have HEL := Lib.hid hel
    clear o5 s5 e5 k5 g3 HDN hel
    generalize doneN S = dn at *
    generalize dropS S dn = T5 at *
    go_wp2_with fail
    go_loopw [12, 108] (fun v12 v108 wr => ∃ j : Nat, j ≤ es.length ∧ v108 = .int .i64 j ∧ v12 = .int .i64 (u + j) ∧ Hid (∃ V', SetW wr M V' b lv5 ps5 T5) ∧ Hid (Keeps M w5 wr)) (fun _ i _ => es.length - (intOf i).toNat)
    case atStart => exact ⟨0, Nat.zero_le _, rfl, by simp, Lib.hid ⟨_, S5.out⟩, Lib.hid (Keeps.refl _ _)⟩
    case round =>
      obtain ⟨j, hj, rfl, rfl, HS, HK⟩ := hrel
      obtain ⟨V6, s6⟩ := HS.out
      have zx := HK.out.size
      have BX : Hid (Below b w1 wr) := Lib.hid (B5.out.trans (HK.out.below MM.out (by omega)))
      by_cases hjl : j < es.length
      case neg =>
        have hj' : j = es.length := by omega
        subst hj'
        rw [HEL.out]
        have HAL := Lib.hid (all_any wr M V6 b lv5 ps5 T5 s6 OI.out.ok (by have := OI.out.len; have := OI.out.u0; have := OI.out.ak; omega))
        have hlt5 : T5.l.length ≤ 1048576 := by have := OI.out.len; have := OI.out.u0; have := OI.out.ak; omega
        have hwb := s6.below (Below.refl _ _)
        clear s6 HS
        go_wp2_with fail
        refine HAL.out.mono ?_
        rintro e w7 hall
        obtain ⟨ib, db, rfl, htold, b7⟩ := hall.told hlt5
        have HT := Lib.hid (htold w7 1 (Below.refl _ _))
        have S7 := Lib.hid (hwb.below b7)
        have B7 : Hid (Below b w1 w7) := Lib.hid (BX.out.trans (b7.mono (by omega)))
        clear hall htold b7 hwb HAL
        go_wp2_with fail
        refine HT.out.mono ?_
        rintro e w8 ⟨v8, rfl, o8, b8⟩
        have ST := Lib.hid (S7.out.below b8)
        have BT : Hid (Below b w1 w8) := Lib.hid (B7.out.trans (b8.mono (by have := B7.out.size; omega)))
        have MM' := MM
        clear b8 S7 B7 HT
        cases hT : T5.l with
        | nil =>
          have hnil : (toldL T5).take (1 : Int).toNat = [] := by unfold toldL; rw [hT]; rfl
          rw [hnil] at o8
          obtain ⟨ra, rc, rfl⟩ := o8.slice
          have HTL := Lib.hid hT
          clear o8 hT hnil
          have HLE := Lib.hid (len_any w8 M V6 b lv5 ps5 T5 ST.out OI.out.ok.p0)
          rw [OI.out.len] at HLE
          have hzt : b ≤ w8.heap.size := by have := BT.out.size; omega
          have hl1 : (u + (dn : Int)) ≤ a := by have := OI.out.len; omega
          have hl2 : 0 ≤ (u + (dn : Int)) ∧ a ≤ 61 := by have h1 := OI.out.u0; have h2 := OI.out.ak; omega
          have hws : IntKind.i64.wrap (a - ((u + (dn : Int)))) = a - ((u + (dn : Int))) := by simp [IntKind.wrap, IntKind.signed, IntKind.bits]; omega
          have hl3 : ¬ a < (u + (dn : Int)) := by omega
          go_wp2_with fail
          refine HLE.out.mono ?_
          rintro e w9 ⟨rfl, hw9⟩
          cases hw9
          go_wp2_with fail
          go_roundw
          case rel => exact ⟨k + 1, _, _, by omega, by go_num, rfl, rfl, Lib.hid ⟨_, _, _, _, _, ST.out, OI.out, MM'.out⟩, BT⟩
          case measure => simp [intOf]; omega
        | cons o r =>
          have hone : (toldL T5).take (1 : Int).toNat = [(o.id, isDone T5 o)] := by unfold toldL; rw [hT]; rfl
          have hnd : isDone T5 o = false := FR.out o (by rw [hT]; rfl)
          rw [hone, hnd] at o8
          obtain ⟨ra, rc, e8, g81, g82, g83⟩ := o8.slIn oneL_length
          obtain ⟨rb, ro, rfl, hrb, hrr⟩ := g83 (by simp)
          subst e8
          have hs8 := hrr 0 (by simp)
          have cr : w8.cell? ⟨rb, ro + 1, none⟩ = some (.bool false) := by have := subOf_cell hs8 (j := 1) (by decide); simpa [oneL] using this
          have HTL := Lib.hid hT
          clear o8 hT hone hnd hs8 hrr g83
          have HLE := Lib.hid (len_any w8 M V6 b lv5 ps5 T5 ST.out OI.out.ok.p0)
          rw [OI.out.len] at HLE
          have hzt : b ≤ w8.heap.size := by have := BT.out.size; omega
          have hl1 : (u + (dn : Int)) ≤ a := by have := OI.out.len; omega
          have hl2 : 0 ≤ (u + (dn : Int)) ∧ a ≤ 61 := by have h1 := OI.out.u0; have h2 := OI.out.ak; omega
          have hws : IntKind.i64.wrap (a - ((u + (dn : Int)))) = a - ((u + (dn : Int))) := by simp [IntKind.wrap, IntKind.signed, IntKind.bits]; omega
          have hl3 : ¬ a < (u + (dn : Int)) := by omega
          go_wp2_with fail
          refine HLE.out.mono ?_
          rintro e w9 ⟨rfl, hw9⟩
          cases hw9
          go_wp2_with fail
          go_roundw
          case rel => exact ⟨k + 1, _, _, by omega, by go_num, rfl, rfl, Lib.hid ⟨_, _, _, _, _, ST.out, OI.out, MM'.out⟩, BT⟩
          case measure => simp [intOf]; omega
      obtain ⟨be, oe, rfl, hbe, hre⟩ := E3.out (by omega)
      have hse := hre j hjl
      have hbm : ¬ M be := G5.out be rfl
      rw [← HK.out.block be hbe hbm] at hse
      have hber : be < wr.heap.size := by omega
      have hid := EID.out j hjl
      clear hre
      have f0 : wr.cell? ⟨be, oe + j * 3, none⟩ = some (.int .i64 es[j].id) := by have := subOf_cell hse (j := 0) (by decide); simpa [endL] using this
      have f1 : wr.cell? ⟨be, oe + j * 3 + 1, none⟩ = some (.slice es[j].oa es[j].len es[j].cap) := by have := subOf_cell hse (j := 1) (by decide); simpa [endL] using this
      have f2 : wr.cell? ⟨be, oe + j * 3 + 2, none⟩ = some (.int .i64 es[j].slots) := by have := subOf_cell hse (j := 2) (by decide); simpa [endL] using this
      have hsl := es[j].slots
      rw [hid] at f0
      clear hse hid
      generalize es[j].oa = eoa at *
      generalize es[j].len = eln at *
      generalize es[j].cap = ecp at *
      generalize es[j].slots = esl at *
      have hju : u + 1 + (j : Int) = u + (j : Int) + 1 := by omega
      rw [hju] at f0
      obtain ⟨n, hn⟩ : ∃ n, n = u + (j : Int) + 1 := ⟨_, rfl⟩
      have hwn : IntKind.i64.wrap (u + (j : Int) + 1) = n := by have := HEL.out; simp [IntKind.wrap, IntKind.signed, IntKind.bits]; omega
      rw [← hn] at f0
      have HN := Lib.hid hn
      clear hn
      obtain ⟨wx, rfl⟩ : ∃ wx : World, wx = wr := ⟨_, rfl⟩
      have OE : Hid (obj (wx.alloc (.cells #[.int .i64 n, .slice eoa eln ecp, .int .i64 esl] 43)) wx.heap.size = some (.cells #[.int .i64 n, .slice eoa eln ecp, .int .i64 esl] 43 (0, 0))) := Lib.hid (obj_alloc_at _ _ _ rfl)
      have SY := Lib.hid (s6.alloc (.cells #[.int .i64 n, .slice eoa eln ecp, .int .i64 esl] 43))
      have OY : Hid (obj (wx.alloc (.cells #[.int .i64 n, .slice eoa eln ecp, .int .i64 esl] 43)) wo.heap.size = some (.cells #[.int .i64 3, .int .i64 xp, .int .i64 xv, .int .u8 xi, .slice xo xn xc] 54 (0, 0))) := Lib.hid ((obj_alloc_past _ _ _ (by omega)).trans ((HK.out.block wo.heap.size (by omega) (fun h => by have := PM.out _ h; omega)).trans OB5.out))
      have HZY : Hid ((wx.alloc (.cells #[.int .i64 n, .slice eoa eln ecp, .int .i64 esl] 43)).heap.size = wx.heap.size + 1) := Lib.hid (by simp)
      have KY : Hid (Keeps M w5 (wx.alloc (.cells #[.int .i64 n, .slice eoa eln ecp, .int .i64 esl] 43))) := Lib.hid (HK.out.alloc _)
      clear s6 HS
      go_wp2_with fail
      have ce := cell_at OE.out 0
      have cy := cell_at OY.out 2
      have hzy := HZY.out
      generalize hWY : wx.alloc (.cells #[.int .i64 n, .slice eoa eln ecp, .int .i64 esl] 43) = wy at *
      clear hWY f0 f1 f2
      simp at ce cy
      have hnle : n ≤ u + (dn : Int) := by have := HEL.out; have := HN.out; omega
      have HWT := Lib.hid (fun y : Later wy => waits_any y.w M V6 b lv5 ps5 T5 (SY.out.below y.h) OI.out.ok n xv)
      rw [OI.out.waits hnle] at HWT
      have hoy : wo.heap.size < wy.heap.size := by omega
      have hxy : wx.heap.size < wy.heap.size := by omega
      have hyb : b ≤ wy.heap.size := by omega
      have hy5 : w5.heap.size ≤ wy.heap.size := by omega
      clear hzy hza
      refine wp_region_later_tail wy (Below.refl _ _) 19 (by kernel_rfl) (by kernel_rfl) ?_
      simp only [List.take_succ_cons, List.take_zero, List.drop_succ_cons, List.drop_zero]
      repeat (go_big_quiet_step (first | (go_at_call 12; with_reducible exact Calls.later (HWT.out _)) | (go_at_call 15; with_reducible exact Calls.later (name_any _ _ (by decide) (by decide)))))
      refine wpQuiet_nil ?_
      intro _ hxx
      obtain ⟨⟨w6, b6⟩, hxx⟩ := hxx
      subst hxx
      rename_i w6
      have hz6 := b6.size
      have S6 := Lib.hid (SY.out.below b6)
      have HVO := Lib.hid (vote_any w6 M V6 b lv5 ps5 T5 S6.out OI.out.ok n xv (nameP 1))
      rw [OI.out.votes hnle] at HVO
      have K6 : Hid (Keeps M w5 w6) := Lib.hid (KY.out.trans (Keeps.of_below b6))
      clear b6 HWT
      go_wp2_with fail
      refine HVO.out.mono ?_
      rintro e w7 ⟨rfl, V7, s7, q1, q2, k7⟩
      have HS7 : Hid (∃ V', SetW w7 M V' b lv5 ps5 T5) := Lib.hid ⟨_, s7⟩
      have K7 : Hid (Keeps M w5 w7) := Lib.hid (K6.out.trans k7)
      clear s7 q1 q2 k7 HVO
      go_wp2_with fail
      go_roundw
      case rel => exact ⟨j + 1, by omega, by go_num, by rw [HN.out]; congr 1; push_cast; omega, HS7, K7⟩
      case measure => simp [intOf]; omega
end Go.Proofs.Ytfejhekoijemdaa
