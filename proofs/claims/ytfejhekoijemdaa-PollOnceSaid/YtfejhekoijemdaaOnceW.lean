import Derived.Test.YtfejhekoijemdaaOnceN
import Derived.Test.YtfejhekoijemdaaFew
namespace Go.Proofs.Ytfejhekoijemdaa
open Go.RowKit

set_option maxRecDepth 100000 in
set_option maxHeartbeats 8000000 in
theorem onceLaw_any (w : World) (c : Int) (c0 : 0 ≤ c) (c1 : c ≤ 255) (sv : Value) (slots : List Int) (hs : SlIn w sv 1 intL slots) (v : Value) (xs : List OpM) (hx : SlIn w v 5 opL xs) (hok : ∀ x ∈ xs, OpOK w x) :
    Calls Try.prog 5 #[.int .u8 c, sv, v] w fun e w' => e = .returned (.bool true) ∧ Below w.heap.size w w' := by
  have HB := fun W => Lib.hid (begun_any W)
  have HFW := Lib.hid (few_any w v xs hx)
  have HX := Lib.hid hok
  obtain ⟨sa, sc, rfl, s1, s2, s3⟩ := hs
  have S3 := Lib.hid s3
  unfold maxLen at s2
  have e1 : IntKind.i64.wrap c = c := by simp [IntKind.wrap, IntKind.signed, IntKind.bits]; omega
  have e2 : c.tmod 64 = c % 64 := Int.tmod_eq_emod_of_nonneg c0
  have e3 : IntKind.i64.wrap (c % 64) = c % 64 := by simp [IntKind.wrap, IntKind.signed, IntKind.bits]; omega
  obtain ⟨d, hd⟩ : ∃ d, d = 1 + c % 64 := ⟨_, rfl⟩
  have e4 : IntKind.i64.wrap (1 + c % 64) = d := by simp [IntKind.wrap, IntKind.signed, IntKind.bits]; omega
  have d1 : 1 ≤ d := by omega
  have d2 : d ≤ 64 := by omega
  have HSW := Lib.hid (fun W (hz : W.heap.size ≥ w.heap.size) => new_yes W d d d1 (Int.le_refl _) d2)
  have HOK0 := Lib.hid (SetOK.new d1 (Int.le_refl _) d2)
  clear s3 hok hx hd
  go_enter Try.func5, Try.ntmps5
  go_wp2_with fail
  refine HFW.out.mono ?_
  rintro e w1 ⟨⟨v1, ys, fb, rfl, y1, y2, y3, y4⟩, b1⟩
  have B1 := Lib.hid b1
  have HY := Lib.hid y1
  have HYX : Hid (∀ x ∈ ys, OpOK w x) := Lib.hid (fun x hx => by
    obtain ⟨k, rfl⟩ := y2
    exact HX.out x (List.mem_of_mem_take hx))
  clear HX HFW y2 y4 y1
  obtain ⟨ya, yc, rfl, y1, y2, y5⟩ := HY.out
  have Y5 := Lib.hid y5
  unfold maxLen at y2
  clear y5
  go_wp2_with fail
  refine (HSW.out _ b1.size).mono ?_
  rintro e w2 ⟨rfl, hw2⟩
  have SL1 : Hid (SlIn w1 (.slice sa slots.length sc) 1 intL slots) := Lib.hid ((show SlIn w (.slice sa slots.length sc) 1 intL slots from ⟨_, _, rfl, s1, by unfold maxLen; omega, S3.out⟩).below b1)
  have S0 : Hid (SetW w2 (fun n => n = w1.heap.size) (fun _ => False) w1.heap.size (.slice none 0 0) [] ⟨d, d, 0, []⟩) := Lib.hid (by rw [hw2]; exact new_set w1 d d)
  have B2 : Hid (Below w1.heap.size w1 w2) := Lib.hid (by rw [hw2]; exact (Below.refl _ _).alloc (Nat.le_refl _) _)
  have hz1 := b1.size
  clear hw2 b1 HSW
  generalize hb : w1.heap.size = b at *
  go_wp2_with fail
  refine (HB _).out.mono ?_
  rintro e w3 ⟨rfl, b3⟩
  have S1 := Lib.hid (S0.out.below b3)
  have B3 : Hid (Below b w1 w3) := Lib.hid (B2.out.trans (b3.mono (by have := B2.out.size; omega)))
  clear b3 S0 B2
  by_cases hfb : fb = false
  · subst hfb
    go_wp2_with fail
    refine (HB _).out.mono ?_
    rintro e w4 ⟨rfl, b4⟩
    have B4 := Lib.hid (B3.out.trans (b4.mono (by have := B3.out.size; omega)))
    clear b4
    go_wp2_with fail
    go_ret
    exact ⟨rfl, B1.out.trans (B4.out.mono hz1)⟩
  have hfb' : fb = true := by simpa using hfb
  subst hfb'
  by_cases hlen : 100 < slots.length
  · have hlen1 : (100 : Int) < slots.length := by omega
    go_wp2_with fail
    refine (HB _).out.mono ?_
    rintro e w4 ⟨rfl, b4⟩
    have B4 := Lib.hid (B3.out.trans (b4.mono (by have := B3.out.size; omega)))
    clear b4
    go_wp2_with fail
    go_ret
    exact ⟨rfl, B1.out.trans (B4.out.mono hz1)⟩
  have hlen1 : ¬ (100 : Int) < slots.length := by omega
  have hsl : RdAt w3 (fun n => n = b) (.slice sa slots.length sc) slots := ⟨SL1.out.below (by rw [hb]; exact B3.out), fun bb off len cap e h0 hm => by
    obtain ⟨b', off', e', hb', _⟩ := S3.out h0
    subst e'
    simp at e <;> omega⟩
  by_cases ho : openC ⟨d, d, 0, []⟩ slots = 0
  case neg =>
    have HOP := Lib.hid (open_no w3 _ _ b _ _ ⟨d, d, 0, []⟩ S1.out d1 _ _ hsl.1 ho)
    rw [openC_1 ho] at HOP
    clear hsl ho
    go_wp2_with fail
    refine HOP.out.mono ?_
    rintro e w4 ⟨rfl, hw4⟩
    cases hw4
    go_wp2_with fail
    go_ret
    exact ⟨rfl, B1.out.trans (B3.out.mono hz1)⟩
  have HOP := Lib.hid (open_yes w3 _ _ b _ _ ⟨d, d, 0, []⟩ S1.out HOK0.out (by show (0:Int) < _; decide) _ _ hsl ho)
  have HON := Lib.hid (OnceI.new HOK0.out ho)
  have ht0 : (⟨d, d, 0, []⟩ : SetM).last + 1 = 1 := rfl
  rw [ht0] at HOP
  clear hsl ho
  go_wp2_with fail
  refine HOP.out.mono ?_
  rintro e w4 ⟨rfl, M4, lv4, ps4, q1, q2, q3, q4⟩
  have S4 := Lib.hid q1
  have MM : Hid (∀ n, M4 n → b ≤ n) := Lib.hid (fun n hn => by rcases q3 n hn with h | h; exact (by omega); have := B3.out.size; omega)
  have B4 : Hid (Below b w1 w4) := Lib.hid (B3.out.trans (q4.below (fun n hn => (by omega)) (by have := B3.out.size; omega)))
  clear q1 q2 q3 q4 S1 B3 HOP
  generalize addS ⟨d, d, 0, []⟩ slots = T4 at *
  generalize newO ⟨d, d, 0, []⟩ slots = o4 at *
  have hmm := @run_makeMap Try.prog
  go_wp2_with fail
  have SS : Hid (SetW (w4.alloc (.map #[] 0)) M4 (fun _ => False) b lv4 ps4 T4) := Lib.hid (S4.out.alloc _)
  have BB : Hid (Below b w1 (w4.alloc (.map #[] 0))) := Lib.hid (B4.out.alloc (by have := B4.out.size; omega) _)
  have MI : Hid (MapI (w4.alloc (.map #[] 0)) w4.heap.size boolV ([] : List (Int × Bool))) := Lib.hid ⟨#[], 0, obj_alloc_at _ _ _ rfl, trivial⟩
  have NM : Hid (¬ M4 w4.heap.size) := Lib.hid (fun h => by have := S4.out.mlt _ h; omega)
  have hzm : b ≤ w4.heap.size := (by have := B4.out.size; omega)
  clear S4 B4 hmm
  generalize hm4 : w4.heap.size = mb at *
  go_loopw [14, 80] (fun v14 v80 wr => ∃ (k : Nat) (n : Int), k ≤ ys.length ∧ v80 = .int .i64 k ∧ v14 = .int .i64 n ∧ Hid (∃ V S o Vp, SetW wr M4 Vp b lv4 ps4 S ∧ OnceI slots V n S o ∧ MapI wr mb boolV V ∧ ¬ Vp mb) ∧ Hid (Below b w1 wr)) (fun _ i _ => ys.length - (intOf i).toNat)
  case atStart => exact ⟨0, 0, Nat.zero_le _, rfl, rfl, Lib.hid ⟨_, _, _, _, SS.out, HON.out, MI.out, fun h => h⟩, BB⟩
  case round =>
    clear SS BB MI HON
    obtain ⟨k, n, hk, rfl, rfl, HR, HBr⟩ := hrel
    obtain ⟨V, S, o, Vp, r1, r2, r3, r4⟩ := HR.out
    have zr : b ≤ wr.heap.size := by have := HBr.out.size; omega
    have RO := Lib.hid r2
    have NV := Lib.hid r4
    by_cases hlt : k < ys.length
    case neg =>
      have hk' : k = ys.length := by omega
      subst hk'
      have HDN := Lib.hid (doneS_any wr M4 Vp b lv4 ps4 S r1 r2.ok (by rw [r2.l]; simp))
      have hnn : 0 ≤ n ∧ n ≤ slots.length := by have := r2.left; omega
      clear r1 r2 r3 r4 HR
      go_wp2_with fail
      refine HDN.out.mono ?_
      rintro e w5 ⟨v5, es, lv5, ps5, rfl, o5, s5, e5, k5⟩
      obtain ⟨hl1, hend⟩ := RO.out.ends e5
      have HE := Lib.hid hend
      have B5 : Hid (Below b w1 w5) := Lib.hid (HBr.out.trans (k5.below MM.out zr))
      obtain ⟨ea, ec, rfl, g1, g2, g3⟩ := o5.slIn endL_length
      have G3 := Lib.hid g3
      unfold maxLen at g2
      clear o5 s5 e5 k5 hend g3
      go_wp2_with fail
      go_loopw [158] (fun v158 wx => ∃ j : Nat, j ≤ es.length ∧ v158 = .int .i64 j ∧ Hid (Below w5.heap.size w5 wx)) (fun i _ => es.length - (intOf i).toNat)
      case atStart => exact ⟨0, Nat.zero_le _, rfl, Lib.hid (Below.refl _ _)⟩
      case round =>
        obtain ⟨wx, rfl⟩ : ∃ wx : World, wx = wr := ⟨_, rfl⟩
        obtain ⟨j, hj, rfl, HBx⟩ := hrel
        have zx := HBx.out.size
        by_cases hjl : j < es.length
        case neg =>
          go_wp2_with fail
          go_ret
          exact ⟨rfl, B1.out.trans ((B5.out.trans (HBx.out.mono (by have := B5.out.size; omega))).mono hz1)⟩
        have hh := HE.out j hjl
        obtain ⟨be, oe, rfl, hbe, hre⟩ := G3.out (by omega)
        have hse := hre j hjl
        rw [← obj_below HBx.out hbe] at hse
        have hbr : be < wx.heap.size := by omega
        have hsl := RO.out.sl
        have hsum := RO.out.sum
        have hvp := RO.out.one.vpos
        have t2 := hh.slots.trans hsl
        have HVT := Lib.hid (hh.vt.1.below HBx.out)
        clear hh hre
        generalize es[j] = en at *
        obtain ⟨ei, va, vn, vc, et⟩ := en
        simp only at t2
        subst t2
        obtain ⟨va', vc', e', u1, u2, u3⟩ := HVT.out
        simp only [EndM.v, Value.slice.injEq] at e'
        obtain ⟨rfl, rfl, rfl⟩ := e'
        have U3 := Lib.hid u3
        unfold maxLen at u2
        have f0 : wx.cell? ⟨be, oe + j * 3, none⟩ = some (.int .i64 ei) := by have := subOf_cell hse (j := 0) (by decide); simpa [endL] using this
        have f1 : wx.cell? ⟨be, oe + j * 3 + 1, none⟩ = some (.slice va o.votes.length vc) := by have := subOf_cell hse (j := 1) (by decide); simpa [endL] using this
        have f2 : wx.cell? ⟨be, oe + j * 3 + 2, none⟩ = some (.int .i64 slots.length) := by have := subOf_cell hse (j := 2) (by decide); simpa [endL] using this
        have HVP := Lib.hid hvp
        have HSM := Lib.hid hsum
        clear hse u3 hvp hsum hsl HVT
        generalize o.votes = vs at *
        go_wp2_with fail
        have OB : Hid (obj (wx.alloc (.cells #[.int .i64 ei, .slice va vs.length vc, .int .i64 slots.length] 43)) wx.heap.size = some (.cells #[.int .i64 ei, .slice va vs.length vc, .int .i64 slots.length] 43 (0, 0))) := Lib.hid (obj_alloc_at _ _ _ rfl)
        have BX : Hid (Below wx.heap.size wx (wx.alloc (.cells #[.int .i64 ei, .slice va vs.length vc, .int .i64 slots.length] 43))) := Lib.hid ((Below.refl _ wx).alloc (Nat.le_refl _) _)
        go_loopw [25, 165] (fun v25 v165 wy => ∃ i : Nat, i ≤ vs.length ∧ v165 = .int .i64 i ∧ v25 = .int .i64 (sumN (vs.take i)) ∧ Hid (Below (wx.heap.size + 1) (wx.alloc (.cells #[.int .i64 ei, .slice va vs.length vc, .int .i64 slots.length] 43)) wy)) (fun _ i _ => vs.length - (intOf i).toNat)
        case atStart => exact ⟨0, Nat.zero_le _, rfl, rfl, Lib.hid (by simpa using Below.refl _ _)⟩
        case round =>
          obtain ⟨wy, rfl⟩ : ∃ wy : World, wy = wr := ⟨_, rfl⟩
          obtain ⟨i, hi, rfl, rfl, HBy⟩ := hrel
          have hzy : wx.heap.size + 1 ≤ wy.heap.size := by have := HBy.out.size; simpa using this
          have oy := (HBy.out.block wx.heap.size (by omega)).trans OB.out
          have BY : Hid (Below wx.heap.size wx wy) := Lib.hid (BX.out.trans (HBy.out.mono (by omega)))
          have hzx : wx.heap.size < wy.heap.size := by omega
          by_cases hil : i < vs.length
          case neg =>
            have hi' : i = vs.length := by omega
            subst hi'
            have c2 : wy.cell? ⟨wx.heap.size, 2, none⟩ = some (.int .i64 slots.length) := cell_at oy 2
            rw [List.take_of_length_le (Nat.le_refl _), HSM.out]
            go_wp2_with fail
            go_roundw
            case rel => exact ⟨j + 1, by omega, by go_num, Lib.hid (HBx.out.trans (BY.out.mono zx))⟩
            case measure => simp [intOf]; omega
          obtain ⟨bv, ov, rfl, hbv, hrv⟩ := U3.out (by omega)
          have hsv := hrv i hil
          rw [← obj_below BY.out hbv] at hsv
          have hbvy : bv < wy.heap.size := by omega
          obtain ⟨t1, t2⟩ := vt_parts hsv
          have hsn : sumN (vs.take (i + 1)) = sumN (vs.take i) + vs[i].n := by
            rw [List.take_succ_eq_append_getElem hil, sumN_app]; simp [sumN]
          have hb1 := sumN_take HVP.out i
          have hb2 := sumN_take HVP.out (i + 1)
          have hs1 := HSM.out
          generalize vs[i] = y at *
          rw [hsn] at hb2
          have hw1 : IntKind.i64.wrap (sumN (vs.take i) + y.n) = sumN (vs.take i) + y.n := by simp [IntKind.wrap, IntKind.signed, IntKind.bits]; omega
          have HSN := Lib.hid hsn
          clear hsn hrv hs1
          generalize sumN (vs.take i) = sm at *
          go_wp2_with fail
          go_roundw
          case rel => exact ⟨i + 1, by omega, by go_num, by rw [HSN.out], Lib.hid (HBy.out.alloc (by omega) _)⟩
          case measure => simp [intOf]; omega
    obtain ⟨by_, oy, rfl, hby, hry⟩ := Y5.out (by omega)
    have hsy := hry k hlt
    have hOPK := HYX.out ys[k] (List.getElem_mem hlt)
    have hbyw : by_ < wr.heap.size := by omega
    rw [← obj_below HBr.out (by omega)] at hsy
    have g0 : wr.cell? ⟨by_, oy + k * 5, none⟩ = some (.int .i64 ys[k].d) := by have := subOf_cell hsy (j := 0) (by decide); simpa [opL] using this
    have g1 : wr.cell? ⟨by_, oy + k * 5 + 1, none⟩ = some (.int .i64 ys[k].poll) := by have := subOf_cell hsy (j := 1) (by decide); simpa [opL] using this
    have g2 : wr.cell? ⟨by_, oy + k * 5 + 2, none⟩ = some (.int .i64 ys[k].v) := by have := subOf_cell hsy (j := 2) (by decide); simpa [opL] using this
    have g3 : wr.cell? ⟨by_, oy + k * 5 + 3, none⟩ = some (.int .u8 ys[k].id) := by have := subOf_cell hsy (j := 3) (by decide); simpa [opL] using this
    have g4 : wr.cell? ⟨by_, oy + k * 5 + 4, none⟩ = some (.slice ys[k].oa ys[k].n ys[k].cap) := by have := subOf_cell hsy (j := 4) (by decide); simpa [opL] using this
    clear hry hsy
    generalize ys[k] = x at *
    have hmr : mb < wr.heap.size := by obtain ⟨es, clk, h, _⟩ := r3; exact lt_of_obj h
    obtain ⟨wo, rfl⟩ : ∃ wo : World, wo = wr := ⟨_, rfl⟩
    have T1 := Lib.hid (r1.alloc (.cells #[.int .i64 x.d, .int .i64 x.poll, .int .i64 x.v, .int .u8 x.id, .slice x.oa x.n x.cap] 54))
    have OB : Hid (obj (wo.alloc (.cells #[.int .i64 x.d, .int .i64 x.poll, .int .i64 x.v, .int .u8 x.id, .slice x.oa x.n x.cap] 54)) wo.heap.size = some (.cells #[.int .i64 x.d, .int .i64 x.poll, .int .i64 x.v, .int .u8 x.id, .slice x.oa x.n x.cap] 54 (0, 0))) := Lib.hid (obj_alloc_at _ _ _ rfl)
    have MB : Hid (MapI (wo.alloc (.cells #[.int .i64 x.d, .int .i64 x.poll, .int .i64 x.v, .int .u8 x.id, .slice x.oa x.n x.cap] 54)) mb boolV V) := Lib.hid (by obtain ⟨es, clk, h1, h2⟩ := r3; exact ⟨es, clk, (obj_alloc_past _ _ _ hmr).trans h1, h2⟩)
    have BA : Hid (Below b w1 (wo.alloc (.cells #[.int .i64 x.d, .int .i64 x.poll, .int .i64 x.v, .int .u8 x.id, .slice x.oa x.n x.cap] 54))) := Lib.hid (HBr.out.alloc (by omega) _)
    have PM : Hid (∀ n, M4 n → n ≠ wo.heap.size ∧ n < wo.heap.size) := Lib.hid (fun n hn => by have := r1.mlt n hn; omega)
    have PV : Hid (∀ n, Vp n → n ≠ wo.heap.size ∧ n < wo.heap.size) := Lib.hid (fun n hn => by have := r1.vlt n hn; omega)
    have HZA : Hid ((wo.alloc (.cells #[.int .i64 x.d, .int .i64 x.poll, .int .i64 x.v, .int .u8 x.id, .slice x.oa x.n x.cap] 54)).heap.size = wo.heap.size + 1) := Lib.hid (by simp)
    have hnn : 0 ≤ n ∧ n ≤ slots.length := by have := r2.left; omega
    clear r1 r2 r3 r4 HR
    go_wp2_with fail
    have cv := cell_at OB.out 2
    have cd := cell_at OB.out 0
    have ci := cell_at OB.out 3
    have hza := HZA.out
    generalize hWA : wo.alloc (.cells #[.int .i64 x.d, .int .i64 x.poll, .int .i64 x.v, .int .u8 x.id, .slice x.oa x.n x.cap] 54) = wa at *
    clear hWA g0 g1 g2 g3 g4
    simp at cv cd ci
    obtain ⟨bs, os, hso, hbs, hrs⟩ : ∃ bs os, (0 < slots.length → sa = some ⟨bs, os, none⟩) ∧ (0 < slots.length → bs < w1.heap.size) ∧ Hid (0 < slots.length → RowAt w1 bs os 1 intL slots) := by
      obtain ⟨_, _, e, _, _, h⟩ := SL1.out
      simp only [Value.slice.injEq] at e
      obtain ⟨rfl, _, _⟩ := e
      by_cases h0 : 0 < slots.length
      · obtain ⟨bs, os, h1, h2, h3⟩ := h h0
        exact ⟨bs, os, fun _ => h1, fun _ => h2, Lib.hid fun _ => h3⟩
      · exact ⟨0, 0, fun h => absurd h h0, fun h => absurd h h0, Lib.hid fun h => absurd h h0⟩
    go_loopw [17, 86] (fun v17 v86 wr => ∃ i : Nat, i ≤ slots.length ∧ v86 = .int .i64 i ∧ v17 = .int .i64 (cntI x.v (slots.take i)) ∧ wr = wa) (fun _ i _ => slots.length - (intOf i).toNat)
    case atStart => exact ⟨0, Nat.zero_le _, rfl, rfl, rfl⟩
    case round =>
      obtain ⟨i, hi, rfl, rfl, rfl⟩ := hrel
      by_cases hil : i < slots.length
      case pos =>
        have h0 : 0 < slots.length := by omega
        have hsa := hso h0
        have hbs' := hbs h0
        subst hsa
        have hrs' := hrs.out h0 i hil
        rw [← obj_below BA.out (by omega)] at hrs'
        have hbw : bs < wr.heap.size := by omega
        have cx : wr.cell? ⟨bs, os + i * 1, none⟩ = some (.int .i64 slots[i]) := by
          have := subOf_cell hrs' (j := 0) (by decide)
          simpa [intL] using this
        rw [Nat.mul_one] at cx
        have hct := cntI_take (v := x.v) hil
        have hcb := cntI_le x.v (slots.take i)
        have hcn := cntI_nn x.v (slots.take i)
        have hcl : (slots.take i).length = i := by simp; omega
        rw [hcl] at hcb
        have HCT := Lib.hid hct
        clear hct hrs' hcl
        generalize slots[i] = u at *
        generalize cntI x.v (slots.take i) = cn at *
        have hwc : IntKind.i64.wrap (cn + 1) = cn + 1 := by simp [IntKind.wrap, IntKind.signed, IntKind.bits]; omega
        by_cases huv : u = x.v
        · subst huv
          go_wp2_with fail
          go_roundw
          case rel => exact ⟨i + 1, by omega, by go_num, by rw [HCT.out, if_pos rfl], trivial⟩
          case measure => simp [intOf]; omega
        · go_wp2_with fail
          go_roundw
          case rel => exact ⟨i + 1, by omega, by go_num, by rw [HCT.out, if_neg huv, Int.add_zero], trivial⟩
          case measure => simp [intOf]; omega
      have hi' : i = slots.length := by omega
      subst hi'
      rw [List.take_of_length_le (Nat.le_refl _)]
      obtain ⟨wa, rfl⟩ : ∃ wa : World, wa = wr := ⟨_, rfl⟩
      have hcb := cntI_le x.v slots
      have hcn := cntI_nn x.v slots
      have hmA : mb < wa.heap.size := by omega
      clear hso hbs hrs
      by_cases hd1 : x.d = 1
      case pos =>
        rw [hd1] at cd
        go_wp2_with fail
        refine wp_region_later_tail wa (Below.refl _ _) 7 (by kernel_rfl) (by kernel_rfl) ?_
        simp only [List.take_succ_cons, List.take_zero, List.drop_succ_cons, List.drop_zero]
        repeat (go_big_quiet_step (first | (go_at_call 15; with_reducible exact Calls.later (name_any _ _ hOPK.lo hOPK.hi))))
        refine wpQuiet_nil ?_
        intro _ hxx
        obtain ⟨⟨w6, b6⟩, hxx⟩ := hxx
        subst hxx
        rename_i w6
        have hz6 := b6.size
        have HVO := Lib.hid (vote_any w6 M4 Vp b lv4 ps4 S (T1.out.below b6) RO.out.ok 1 x.v (nameP x.id))
        have MP6 : Hid (MapI w6 mb boolV V) := Lib.hid (by obtain ⟨es, clk, h1, h2⟩ := MB.out; exact ⟨es, clk, (obj_below b6 (lt_of_obj h1)).trans h1, h2⟩)
        have OB6 := Lib.hid ((obj_below b6 (lt_of_obj OB.out)).trans OB.out)
        have B6 : Hid (Below b w1 w6) := Lib.hid (BA.out.trans (b6.mono (by omega)))
        clear b6
        go_wp2_with fail
        refine HVO.out.mono ?_
        rintro e w7 ⟨rfl, V7, s7, q1, q2, k7⟩
        have hz7 := k7.size
        have NW : Hid (¬ V7 mb) := Lib.hid (fun h => by
          rcases q2 mb h with h | h
          · exact NV.out h
          · omega)
        have MP : Hid (MapI w7 mb boolV V) := Lib.hid (by obtain ⟨es, clk, h1, h2⟩ := MP6.out; exact ⟨es, clk, (k7.block mb (lt_of_obj h1) (fun h => by have := PM.out mb h; exact NM.out h)).trans h1, h2⟩)
        have OB7 := Lib.hid ((k7.block wo.heap.size (by omega) (fun h => (PM.out wo.heap.size h).1 rfl)).trans OB6.out)
        have BT : Hid (Below b w1 w7) := Lib.hid (B6.out.trans (k7.below MM.out (by have := B6.out.size; omega)))
        have ST := Lib.hid s7
        have hmb7 : mb < w7.heap.size := by omega
        have hpb7 : wo.heap.size < w7.heap.size := by omega
        have cv7 := cell_at OB7.out 2
        simp at cv7
        clear s7 q1 q2 k7 HVO
        obtain ⟨o7, hr⟩ := RO.out.voteR x.v (nameP x.id)
        rcases hr with ⟨hc, hI⟩ | ⟨hc, hv0, hc0, hI⟩
        · rw [hc]
          have OI := Lib.hid hI
          clear hc hI
          generalize (voteM S 1 x.v (nameP x.id)).1 = T7 at *
          obtain ⟨lf, hl, l0, l1⟩ := OI.out.leftR
          have HLF := Lib.hid (left_any w7 M4 V7 b lv4 ps4 T7 ST.out OI.out.ok 1)
          rw [hl] at HLF
          have hzt : b ≤ w7.heap.size := by have := BT.out.size; omega
          have hnn' : 0 ≤ n := OI.out.left.2.1
          have hwl : IntKind.i64.wrap (n + lf) = n + lf := by simp [IntKind.wrap, IntKind.signed, IntKind.bits]; omega
          have hl3 : ¬ (slots.length : Int) < n + lf := by omega
          have hl4 : ¬ lf < 0 := by omega
          go_wp2_with fail
          refine HLF.out.mono ?_
          rintro e w9 ⟨rfl, b9⟩
          have HR9 : Hid (∃ V S o Vp, SetW w9 M4 Vp b lv4 ps4 S ∧ OnceI slots V (n) S o ∧ MapI w9 mb boolV V ∧ ¬ Vp mb) := Lib.hid ⟨_, _, _, _, ST.out.below b9, OI.out, (by obtain ⟨es, clk, h1, h2⟩ := MP.out; exact ⟨es, clk, (obj_below b9 (lt_of_obj h1)).trans h1, h2⟩), NW.out⟩
          have B9 : Hid (Below b w1 w9) := Lib.hid (BT.out.trans (b9.mono (by omega)))
          clear b9 HLF
          go_wp2_with fail
          go_roundw
          case rel => exact ⟨k + 1, n, by omega, by go_num, rfl, HR9, B9⟩
          case measure => simp [intOf]; omega
        · rw [hc]
          have OI7 := Lib.hid hI
          clear hc hI
          generalize (voteM S 1 x.v (nameP x.id)).1 = T7 at *
          have hwn : IntKind.i64.wrap (n + cntI x.v slots) = n + cntI x.v slots := by simp [IntKind.wrap, IntKind.signed, IntKind.bits]; omega
          have hlk := run_voted MP.out x.v
          rw [hv0] at hlk
          obtain ⟨es, clk, hm, hrep⟩ := MP.out
          obtain ⟨es', clk', hup, hrep'⟩ := run_mapUpdate_int (enc := boolV) (P := Try.prog) (clk := clk) Try.underlying32 Try.underlying3 hrep mb x.v true
          have hup2 : (Instr.mapUpdate 32 (.map (some mb)) (.int .i64 x.v) (.bool true)).run Try.prog w7 = .ok () (putObj w7 mb (.map es' clk')) := hup w7 hm
          have ST8 : Hid (SetW (putObj w7 mb (.map es' clk')) M4 V7 b lv4 ps4 T7) := Lib.hid (ST.out.frame (by simp) fun n _ hn => obj_putObj_ne _ _ _ _ (by rintro rfl; rcases hn with h | h; exact NM.out h; exact NW.out h))
          have MP8 : Hid (MapI (putObj w7 mb (.map es' clk')) mb boolV (aPut x.v true V)) := Lib.hid ⟨es', clk', obj_putObj_eq _ _ _ hmb7, hrep'⟩
          have BT8 : Hid (Below b w1 (putObj w7 mb (.map es' clk'))) := Lib.hid (BT.out.trans (((Keeps.refl (fun k => k = mb) w7).putObj rfl _).below (fun k hk => by omega) (by have := BT.out.size; omega)))
          generalize hW8 : putObj w7 mb (.map es' clk') = w8 at *
          have ST := ST8
          have MP := MP8
          have BT := BT8
          have OI := OI7
          clear hm hrep hrep' hup hW8 ST8 MP8 BT8 OI7
          generalize hcq : cntI x.v slots = cq at *
          obtain ⟨lf, hl, l0, l1⟩ := OI.out.leftR
          have HLF := Lib.hid (left_any w8 M4 V7 b lv4 ps4 T7 ST.out OI.out.ok 1)
          rw [hl] at HLF
          have hzt : b ≤ w8.heap.size := by have := BT.out.size; omega
          have hnn' : 0 ≤ n + cq := OI.out.left.2.1
          have hwl : IntKind.i64.wrap (n + cq + lf) = n + cq + lf := by simp [IntKind.wrap, IntKind.signed, IntKind.bits]; omega
          have hl3 : ¬ (slots.length : Int) < n + cq + lf := by omega
          have hl4 : ¬ lf < 0 := by omega
          go_wp2_with fail
          refine HLF.out.mono ?_
          rintro e w9 ⟨rfl, b9⟩
          have HR9 : Hid (∃ V S o Vp, SetW w9 M4 Vp b lv4 ps4 S ∧ OnceI slots V (n + cq) S o ∧ MapI w9 mb boolV V ∧ ¬ Vp mb) := Lib.hid ⟨_, _, _, _, ST.out.below b9, OI.out, (by obtain ⟨es, clk, h1, h2⟩ := MP.out; exact ⟨es, clk, (obj_below b9 (lt_of_obj h1)).trans h1, h2⟩), NW.out⟩
          have B9 : Hid (Below b w1 w9) := Lib.hid (BT.out.trans (b9.mono (by omega)))
          clear b9 HLF
          go_wp2_with fail
          go_roundw
          case rel => exact ⟨k + 1, n + cq, by omega, by go_num, rfl, HR9, B9⟩
          case measure => simp [intOf]; omega
      by_cases hd2 : x.d = 2
      case pos =>
        rw [hd2] at cd
        have HVO := Lib.hid (drop_any wa M4 Vp b lv4 ps4 S T1.out RO.out.ok 1 x.v)
        have MP6 := MB
        have OB6 := OB
        have B6 := BA
        have hz6 := Nat.le_refl wa.heap.size
        go_wp2_with fail
        refine HVO.out.mono ?_
        rintro e w7 ⟨rfl, V7, s7, q1, q2, k7⟩
        have hz7 := k7.size
        have NW : Hid (¬ V7 mb) := Lib.hid (fun h => by
          rcases q2 mb h with h | h
          · exact NV.out h
          · omega)
        have MP : Hid (MapI w7 mb boolV V) := Lib.hid (by obtain ⟨es, clk, h1, h2⟩ := MP6.out; exact ⟨es, clk, (k7.block mb (lt_of_obj h1) (fun h => by have := PM.out mb h; exact NM.out h)).trans h1, h2⟩)
        have OB7 := Lib.hid ((k7.block wo.heap.size (by omega) (fun h => (PM.out wo.heap.size h).1 rfl)).trans OB6.out)
        have BT : Hid (Below b w1 w7) := Lib.hid (B6.out.trans (k7.below MM.out (by have := B6.out.size; omega)))
        have ST := Lib.hid s7
        have hmb7 : mb < w7.heap.size := by omega
        have hpb7 : wo.heap.size < w7.heap.size := by omega
        have cv7 := cell_at OB7.out 2
        simp at cv7
        clear s7 q1 q2 k7 HVO
        obtain ⟨o7, hr⟩ := RO.out.dropR x.v
        rcases hr with ⟨hc, hI⟩ | ⟨hc, hv0, hc0, hI⟩
        · rw [hc]
          have OI := Lib.hid hI
          clear hc hI
          generalize (dropM S 1 x.v).1 = T7 at *
          obtain ⟨lf, hl, l0, l1⟩ := OI.out.leftR
          have HLF := Lib.hid (left_any w7 M4 V7 b lv4 ps4 T7 ST.out OI.out.ok 1)
          rw [hl] at HLF
          have hzt : b ≤ w7.heap.size := by have := BT.out.size; omega
          have hnn' : 0 ≤ n := OI.out.left.2.1
          have hwl : IntKind.i64.wrap (n + lf) = n + lf := by simp [IntKind.wrap, IntKind.signed, IntKind.bits]; omega
          have hl3 : ¬ (slots.length : Int) < n + lf := by omega
          have hl4 : ¬ lf < 0 := by omega
          go_wp2_with fail
          refine HLF.out.mono ?_
          rintro e w9 ⟨rfl, b9⟩
          have HR9 : Hid (∃ V S o Vp, SetW w9 M4 Vp b lv4 ps4 S ∧ OnceI slots V (n) S o ∧ MapI w9 mb boolV V ∧ ¬ Vp mb) := Lib.hid ⟨_, _, _, _, ST.out.below b9, OI.out, (by obtain ⟨es, clk, h1, h2⟩ := MP.out; exact ⟨es, clk, (obj_below b9 (lt_of_obj h1)).trans h1, h2⟩), NW.out⟩
          have B9 : Hid (Below b w1 w9) := Lib.hid (BT.out.trans (b9.mono (by omega)))
          clear b9 HLF
          go_wp2_with fail
          go_roundw
          case rel => exact ⟨k + 1, n, by omega, by go_num, rfl, HR9, B9⟩
          case measure => simp [intOf]; omega
        · rw [hc]
          have OI7 := Lib.hid hI
          clear hc hI
          generalize (dropM S 1 x.v).1 = T7 at *
          have hwn : IntKind.i64.wrap (n + cntI x.v slots) = n + cntI x.v slots := by simp [IntKind.wrap, IntKind.signed, IntKind.bits]; omega
          have hlk := run_voted MP.out x.v
          rw [hv0] at hlk
          obtain ⟨es, clk, hm, hrep⟩ := MP.out
          obtain ⟨es', clk', hup, hrep'⟩ := run_mapUpdate_int (enc := boolV) (P := Try.prog) (clk := clk) Try.underlying32 Try.underlying3 hrep mb x.v true
          have hup2 : (Instr.mapUpdate 32 (.map (some mb)) (.int .i64 x.v) (.bool true)).run Try.prog w7 = .ok () (putObj w7 mb (.map es' clk')) := hup w7 hm
          have ST8 : Hid (SetW (putObj w7 mb (.map es' clk')) M4 V7 b lv4 ps4 T7) := Lib.hid (ST.out.frame (by simp) fun n _ hn => obj_putObj_ne _ _ _ _ (by rintro rfl; rcases hn with h | h; exact NM.out h; exact NW.out h))
          have MP8 : Hid (MapI (putObj w7 mb (.map es' clk')) mb boolV (aPut x.v true V)) := Lib.hid ⟨es', clk', obj_putObj_eq _ _ _ hmb7, hrep'⟩
          have BT8 : Hid (Below b w1 (putObj w7 mb (.map es' clk'))) := Lib.hid (BT.out.trans (((Keeps.refl (fun k => k = mb) w7).putObj rfl _).below (fun k hk => by omega) (by have := BT.out.size; omega)))
          generalize hW8 : putObj w7 mb (.map es' clk') = w8 at *
          have ST := ST8
          have MP := MP8
          have BT := BT8
          have OI := OI7
          clear hm hrep hrep' hup hW8 ST8 MP8 BT8 OI7
          generalize hcq : cntI x.v slots = cq at *
          obtain ⟨lf, hl, l0, l1⟩ := OI.out.leftR
          have HLF := Lib.hid (left_any w8 M4 V7 b lv4 ps4 T7 ST.out OI.out.ok 1)
          rw [hl] at HLF
          have hzt : b ≤ w8.heap.size := by have := BT.out.size; omega
          have hnn' : 0 ≤ n := OI.out.left.2.1
          have hwl : IntKind.i64.wrap (n + lf) = n + lf := by simp [IntKind.wrap, IntKind.signed, IntKind.bits]; omega
          have hl3 : ¬ (slots.length : Int) < n + lf := by omega
          have hl4 : ¬ lf < 0 := by omega
          go_wp2_with fail
          refine HLF.out.mono ?_
          rintro e w9 ⟨rfl, b9⟩
          have HR9 : Hid (∃ V S o Vp, SetW w9 M4 Vp b lv4 ps4 S ∧ OnceI slots V (n) S o ∧ MapI w9 mb boolV V ∧ ¬ Vp mb) := Lib.hid ⟨_, _, _, _, ST.out.below b9, OI.out, (by obtain ⟨es, clk, h1, h2⟩ := MP.out; exact ⟨es, clk, (obj_below b9 (lt_of_obj h1)).trans h1, h2⟩), NW.out⟩
          have B9 : Hid (Below b w1 w9) := Lib.hid (BT.out.trans (b9.mono (by omega)))
          clear b9 HLF
          go_wp2_with fail
          go_roundw
          case rel => exact ⟨k + 1, n, by omega, by go_num, rfl, HR9, B9⟩
          case measure => simp [intOf]; omega
      have ST := T1
      have OI := RO
      have MP := MB
      have NW := NV
      have BT := BA
      obtain ⟨lf, hl, l0, l1⟩ := OI.out.leftR
      have HLF := Lib.hid (left_any wa M4 Vp b lv4 ps4 S ST.out OI.out.ok 1)
      rw [hl] at HLF
      have hzt : b ≤ wa.heap.size := by have := BT.out.size; omega
      have hnn' : 0 ≤ n := OI.out.left.2.1
      have hwl : IntKind.i64.wrap (n + lf) = n + lf := by simp [IntKind.wrap, IntKind.signed, IntKind.bits]; omega
      have hl3 : ¬ (slots.length : Int) < n + lf := by omega
      have hl4 : ¬ lf < 0 := by omega
      go_wp2_with fail
      refine HLF.out.mono ?_
      rintro e w9 ⟨rfl, b9⟩
      have HR9 : Hid (∃ V S o Vp, SetW w9 M4 Vp b lv4 ps4 S ∧ OnceI slots V (n) S o ∧ MapI w9 mb boolV V ∧ ¬ Vp mb) := Lib.hid ⟨_, _, _, _, ST.out.below b9, OI.out, (by obtain ⟨es, clk, h1, h2⟩ := MP.out; exact ⟨es, clk, (obj_below b9 (lt_of_obj h1)).trans h1, h2⟩), NW.out⟩
      have B9 : Hid (Below b w1 w9) := Lib.hid (BT.out.trans (b9.mono (by omega)))
      clear b9 HLF
      go_wp2_with fail
      go_roundw
      case rel => exact ⟨k + 1, n, by omega, by go_num, rfl, HR9, B9⟩
      case measure => simp [intOf]; omega
end Go.Proofs.Ytfejhekoijemdaa
