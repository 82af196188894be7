import Derived.Test.YtfejhekoijemdaaRpN
import Derived.Test.YtfejhekoijemdaaRpQ
import Derived.Test.YtfejhekoijemdaaRpR
import Derived.Test.YtfejhekoijemdaaBegX
import Derived.Test.YtfejhekoijemdaaFew
namespace Go.Proofs.Ytfejhekoijemdaa
open Go.RowKit

/-! ### a set that goes its own way: all of it lies in blocks of Y -/
structure CloS (w : World) (Y : Nat → Prop) (c : Nat) (S : SetM) : Prop where
  ex : ∃ M V lv ps, SetW w M V c lv ps S ∧ ∀ n, M n ∨ V n → Y n
theorem CloS.keep {w w' : World} {Y : Nat → Prop} {c : Nat} {S : SetM} (h : CloS w Y c S) (hk : Keeps (NX Y) w w') : CloS w' Y c S := by
  obtain ⟨M, V, lv, ps, h1, h2⟩ := h.ex
  exact ⟨M, V, lv, ps, h1.frame hk.size (fun n hn hm => hk.block n hn fun hx => hx (h2 n hm)), h2⟩
theorem CloS.mono {w : World} {Y Z : Nat → Prop} {c : Nat} {S : SetM} (h : CloS w Y c S) (hY : ∀ n, Y n → Z n) : CloS w Z c S := by
  obtain ⟨M, V, lv, ps, h1, h2⟩ := h.ex
  exact ⟨M, V, lv, ps, h1, fun n hn => hY n (h2 n hn)⟩
theorem duo_clone {w : World} {X : Nat → Prop} {b rb : Nat} {S1 S2 : SetM} {R : List (List Int)} (h : Duo w X b rb S1 S2 R) (hok : SetOK S1) (hlen : S1.l.length ≤ 100000) :
    Calls Try.prog 27 #[.pointer (some ⟨b, 0, none⟩)] w fun e w' => ∃ c, e = .returned (.pointer (some ⟨c, 0, none⟩)) ∧ CloS w' (fun n => w.heap.size ≤ n ∧ n < w'.heap.size) c S1 ∧ Below w.heap.size w w' := by
  obtain ⟨M, V, G, lv, ps, lr, pr, h1, h2, h3, h4⟩ := h.ex
  refine (clone_any w M V b lv ps S1 h1 hok hlen).mono ?_
  rintro e w' ⟨c, lv', ps', rfl, s, hb⟩
  exact ⟨c, rfl, ⟨_, _, lv', ps', s, fun n hn => by
    rcases hn with hn | hn
    · exact ⟨hn.1, hn.2.1⟩
    · exact ⟨hn.1, s.vlt n hn⟩⟩, hb⟩
/-- the clone takes the set's place -/
theorem Duo.swap {w : World} {X Y Z : Nat → Prop} {b c rb : Nat} {T S S2 : SetM} {R : List (List Int)} (h : Duo w Y b rb T S2 R) (hc : CloS w Z c S) (hZ : ∀ n, Z n → Y n) (hX : ∀ n, X n → Y n) (hXZ : ∀ n, X n → ¬ Z n) : Duo w X c rb S S2 R := by
  obtain ⟨M, V, G, lv, ps, lr, pr, h1, h2, h3, h4⟩ := h.ex
  obtain ⟨Mc, Vc, lvc, psc, g1, g2⟩ := hc.ex
  refine ⟨Mc, Vc, G, lvc, psc, lr, pr, g1, h2, fun n hn => ⟨fun hm => (h4 n (hZ n (g2 n (.inl hm)))).2.1 hn, fun hv => (h4 n (hZ n (g2 n (.inr hv)))).2.1 hn, (h3 n hn).2.2⟩, fun n hn => ⟨fun hm => hXZ n hn (g2 n (.inl hm)), (h4 n (hX n hn)).2.1, (h4 n (hX n hn)).2.2⟩⟩
theorem duo_new {w : World} (p q : Int) : Duo ((w.alloc (.cells #[.int .i64 p, .int .i64 q, .int .i64 0, .slice none 0 0] 78)).alloc (.cells #[.int .i64 p, .int .i64 q, .slice none 0 0, .int .i64 0] 101)) (fun n => n < w.heap.size) w.heap.size (w.heap.size + 1) ⟨p, q, 0, []⟩ ⟨p, q, 0, []⟩ [] := by
  have h2 := rnew_set (w.alloc (.cells #[.int .i64 p, .int .i64 q, .int .i64 0, .slice none 0 0] 78)) p q
  have e : (w.alloc (.cells #[.int .i64 p, .int .i64 q, .int .i64 0, .slice none 0 0] 78)).heap.size = w.heap.size + 1 := by simp
  rw [e] at h2
  have hz : ((w.alloc (.cells #[.int .i64 p, .int .i64 q, .int .i64 0, .slice none 0 0] 78)).alloc (.cells #[.int .i64 p, .int .i64 q, .slice none 0 0, .int .i64 0] 101)).heap.size = w.heap.size + 2 := by simp
  exact ⟨fun n => n = w.heap.size, fun _ => False, fun n => n = w.heap.size + 1, _, _, _, _, (new_set w p q).alloc _, h2, fun n hn => ⟨by show ¬ n = w.heap.size; omega, fun h => h, by omega⟩, fun n hn => ⟨by show ¬ n = w.heap.size; have : n < w.heap.size := hn; omega, by show ¬ n = w.heap.size + 1; have : n < w.heap.size := hn; omega, by have : n < w.heap.size := hn; omega⟩⟩
set_option maxRecDepth 100000 in
set_option maxHeartbeats 8000000 in
theorem doesLaw_any (w : World) (p q : Int) (v : Value) (xs : List OpM) (hx : SlIn w v 5 opL xs) (hok : ∀ x ∈ xs, OpOK w x) :
    Calls Try.prog 7 #[.int .i64 p, .int .i64 q, v] w fun e w' => e = .returned (.bool true) ∧ Below w.heap.size w w' := by
  have HBG := fun W => Lib.hid (begun_any W)
  have HFW := Lib.hid (few_any w v xs hx)
  have HX := Lib.hid hok
  clear hok hx
  go_enter Try.func7, Try.ntmps7
  go_wp2_with fail
  refine HFW.out.mono ?_
  rintro e w1 ⟨⟨v1, ys, fb, rfl, y1, y2, y3, y4⟩, b1⟩
  have B1 := Lib.hid b1
  have HY := Lib.hid y1
  have HYX : Hid (∀ x ∈ ys, OpOK w1 x) := Lib.hid (fun x hx => by
    obtain ⟨k, rfl⟩ := y2
    exact (HX.out x (List.mem_of_mem_take hx)).below b1)
  have HY3 := Lib.hid y3
  clear HX HFW y2 y4 y1 y3
  obtain ⟨ya, yc, rfl, y1, y2, y5⟩ := HY.out
  have Y5 := Lib.hid y5
  unfold maxLen at y2
  have hz1 := b1.size
  clear y5 b1
  by_cases hgood : 1 ≤ p ∧ p ≤ q ∧ q ≤ 64
  case neg =>
    have hbad : p < 1 ∨ q < p ∨ 64 < q := by omega
    clear hgood
    have N1 := Lib.hid (new_no w1 p q hbad)
    have N2 := Lib.hid (rnew_no w1 p q hbad)
    clear hbad
    go_wp2_with fail
    refine N1.out.mono ?_
    rintro e w2 ⟨rfl, hw⟩
    cases hw
    go_wp2_with fail
    refine N2.out.mono ?_
    rintro e w2 ⟨rfl, hw⟩
    cases hw
    clear N1 N2
    go_wp2_with fail
    refine (HBG _).out.mono ?_
    rintro e w3 ⟨rfl, b3⟩
    have B3 := Lib.hid (B1.out.trans (b3.mono hz1))
    clear b3
    by_cases hfb : fb = false
    · subst hfb
      go_wp2_with fail
      refine (HBG _).out.mono ?_
      rintro e w4 ⟨rfl, b4⟩
      have B4 := Lib.hid (B3.out.trans (b4.mono B3.out.size))
      clear b4
      go_wp2_with fail
      go_ret
      exact ⟨rfl, B4.out⟩
    have hfb' : fb = true := by simpa using hfb
    subst hfb'
    go_wp2_with fail
    go_ret
    exact ⟨rfl, B3.out⟩
  obtain ⟨d1, d2, d3⟩ := hgood
  have N1 := Lib.hid (new_yes w1 p q d1 d2 d3)
  have N2 := Lib.hid (fun W => rnew_yes W p q d1 d2 d3)
  have D0 := Lib.hid (duo_new (w := w1) p q)
  have OK0 := Lib.hid (SetOK.new d1 d2 d3)
  have BN : Hid (Below w1.heap.size w1 ((w1.alloc (.cells #[.int .i64 p, .int .i64 q, .int .i64 0, .slice none 0 0] 78)).alloc (.cells #[.int .i64 p, .int .i64 q, .slice none 0 0, .int .i64 0] 101))) := Lib.hid (((Below.refl _ w1).alloc (Nat.le_refl _) _).alloc (by simp) _)
  have HZ2 : Hid ((w1.alloc (.cells #[.int .i64 p, .int .i64 q, .int .i64 0, .slice none 0 0] 78)).heap.size = w1.heap.size + 1) := Lib.hid (by simp)
  clear d1 d2 d3
  go_wp2_with fail
  refine N1.out.mono ?_
  rintro e w2 ⟨rfl, hw⟩
  subst hw
  go_wp2_with fail
  refine (N2.out _).mono ?_
  rintro e w3 ⟨rfl, hw⟩
  subst hw
  rw [HZ2.out]
  clear N1 N2
  have BT0 : Hid (Both ((w1.alloc (.cells #[.int .i64 p, .int .i64 q, .int .i64 0, .slice none 0 0] 78)).alloc (.cells #[.int .i64 p, .int .i64 q, .slice none 0 0, .int .i64 0] 101)) (fun n => n < w1.heap.size) w1.heap.size (w1.heap.size + 1) ⟨p, q, 0, []⟩ [] 0) := Lib.hid ⟨D0.out, OK0.out, RelS.nil p q, Nat.le_refl _, Int.le_refl _⟩
  generalize (w1.alloc (.cells #[.int .i64 p, .int .i64 q, .int .i64 0, .slice none 0 0] 78)).alloc (.cells #[.int .i64 p, .int .i64 q, .slice none 0 0, .int .i64 0] 101) = w3 at *
  clear D0 OK0 HZ2
  generalize hB : w1.heap.size = B at *
  generalize B + 1 = rb at *
  go_wp2_with fail
  refine (HBG _).out.mono ?_
  rintro e w4 ⟨rfl, b4⟩
  have BT1 := Lib.hid (BT0.out.below b4)
  have K4 : Hid (Keeps (NX fun n => n < B) w1 w4) := Lib.hid ((Keeps.of_below (hB ▸ BN.out)).trans (Keeps.of_below b4))
  have B4 : Hid (Below w.heap.size w w4) := Lib.hid (B1.out.trans ((K4.out.below (B := w.heap.size) (fun n hn => by unfold NX at hn; omega) (by omega))))
  clear b4 BT0 BN
  by_cases hfb : fb = false
  · subst hfb
    go_wp2_with fail
    refine (HBG _).out.mono ?_
    rintro e w5 ⟨rfl, b5⟩
    have B5 := Lib.hid (B4.out.trans (b5.mono B4.out.size))
    clear b5
    go_wp2_with fail
    go_ret
    exact ⟨rfl, B5.out⟩
  have hfb' : fb = true := by simpa using hfb
  subst hfb'
  clear hfb B4
  go_wp2_with fail
  go_loopw [9, 54] (fun v9 v54 wr => ∃ (k : Nat) (b : Nat), k ≤ ys.length ∧ v54 = .int .i64 k ∧ v9 = .pointer (some ⟨b, 0, none⟩) ∧ Hid (∃ S R, Both wr (fun n => n < B) b rb S R k) ∧ Hid (Keeps (NX fun n => n < B) w1 wr)) (fun _ i _ => ys.length - (intOf i).toNat)
  case atStart => exact ⟨0, B, Nat.zero_le _, rfl, rfl, Lib.hid ⟨_, _, BT1.out⟩, K4⟩
  case round =>
    clear BT1 K4
    obtain ⟨k, b, hk, rfl, rfl, HR, HK⟩ := hrel
    obtain ⟨S, R, hb⟩ := HR.out
    have BB := Lib.hid hb
    have BH : Hid (Below B w1 wr) := Lib.hid (HK.out.below (fun n hn => by unfold NX at hn; omega) (by omega))
    clear HR
    by_cases hlt : k < ys.length
    case neg =>
      clear hb
      have hkk : k = ys.length := by omega
      have h60 := HY3.out
      go_wp2_with fail
      refine (duo_done BB.out.d BB.out.ok (by have := BB.out.len; omega)).mono ?_
      rintro e w5 ⟨v5, Y, rfl, e5, xy, d5, k5⟩
      have E5 := Lib.hid e5
      have D5 := Lib.hid d5
      have K5 := Lib.hid (HK.out.trans k5)
      have XY := Lib.hid xy
      clear e5 d5 k5 xy
      go_wp2_with fail
      refine (duo_rdone D5.out BB.out.ok BB.out.rel (by have := BB.out.len; omega)).mono ?_
      rintro e w6 ⟨v6, rfl, e6, d6, k6⟩
      have ES := Lib.hid (ends_same (E5.out.keep k6) e6)
      have K6 : Hid (Keeps (NX fun n => n < B) w1 w6) := Lib.hid (K5.out.trans (k6.mono fun n hn hx => hn (XY.out n hx)))
      clear e6 d6 k6 E5 D5 K5 XY
      go_wp2_with fail
      refine ES.out.mono ?_
      rintro e w7 ⟨rfl, b7⟩
      have B7 : Hid (Below w.heap.size w w7) := Lib.hid (B1.out.trans ((K6.out.trans (Keeps.of_below b7)).below (fun n hn => by unfold NX at hn; omega) (by omega)))
      clear b7 K6 ES
      go_wp2_with fail
      go_ret
      exact ⟨rfl, B7.out⟩
    obtain ⟨by_, oy, rfl, hby, hry⟩ := Y5.out (by omega)
    have hsy := hry k hlt
    have hOPK := HYX.out ys[k] (List.getElem_mem hlt)
    have hk60 : k < 60 := by have := HY3.out; omega
    have zr : B ≤ wr.heap.size := by have := BH.out.size; omega
    have hbyw : by_ < wr.heap.size := by omega
    rw [← obj_below BH.out (by omega)] at hsy
    have g0 : wr.cell? ⟨by_, oy + k * 5, none⟩ = some (.int .i64 ys[k].d) := by have := subOf_cell hsy (j := 0) (by decide); simpa [opL] using this
    have g1 : wr.cell? ⟨by_, oy + k * 5 + 1, none⟩ = some (.int .i64 ys[k].poll) := by have := subOf_cell hsy (j := 1) (by decide); simpa [opL] using this
    have g2 : wr.cell? ⟨by_, oy + k * 5 + 2, none⟩ = some (.int .i64 ys[k].v) := by have := subOf_cell hsy (j := 2) (by decide); simpa [opL] using this
    have g3 : wr.cell? ⟨by_, oy + k * 5 + 3, none⟩ = some (.int .u8 ys[k].id) := by have := subOf_cell hsy (j := 3) (by decide); simpa [opL] using this
    have g4 : wr.cell? ⟨by_, oy + k * 5 + 4, none⟩ = some (.slice ys[k].oa ys[k].n ys[k].cap) := by have := subOf_cell hsy (j := 4) (by decide); simpa [opL] using this
    clear hry hsy
    generalize ys[k] = x at *
    obtain ⟨xd, xp, xv, xi, xo, xn, xc, xx⟩ := x
    simp only at g0 g1 g2 g3 g4
    obtain ⟨wo, rfl⟩ : ∃ wo : World, wo = wr := ⟨_, rfl⟩
    obtain ⟨wa, hwa⟩ : ∃ wa : World, wo.alloc (.cells #[.int .i64 xd, .int .i64 xp, .int .i64 xv, .int .u8 xi, .slice xo xn xc] 54) = wa := ⟨_, rfl⟩
    have bo : Below wo.heap.size wo wa := by rw [← hwa]; exact (Below.refl _ wo).alloc (Nat.le_refl _) _
    have OB : Hid (obj wa wo.heap.size = some (.cells #[.int .i64 xd, .int .i64 xp, .int .i64 xv, .int .u8 xi, .slice xo xn xc] 54 (0, 0))) := Lib.hid (by rw [← hwa]; exact obj_alloc_at _ _ _ rfl)
    have T1 : Hid (Both wa (AX (fun n => n < B) wo wa) b rb S R k) := Lib.hid ⟨BB.out.d.more bo, BB.out.ok, BB.out.rel, BB.out.len, BB.out.last⟩
    have BA : Hid (Below B w1 wa) := Lib.hid (BH.out.trans (bo.mono zr))
    have KA : Hid (Keeps (NX fun n => n < B) w1 wa) := Lib.hid (HK.out.trans (Keeps.of_below bo))
    have XB : Hid (AX (fun n => n < B) wo wa wo.heap.size) := Lib.hid (.inr ⟨Nat.le_refl _, lt_of_obj OB.out⟩)
    have XX : Hid (∀ n, n < B → AX (fun n => n < B) wo wa n) := Lib.hid (fun n hn => .inl hn)
    have HWA := Lib.hid hwa
    have HOPK : Hid (OpOK wa ⟨xd, xp, xv, xi, xo, xn, xc, xx⟩) := Lib.hid (hOPK.below (hB ▸ BA.out))
    have HXS : Hid (∀ g off n cap, Value.slice xo xn xc = .slice (some ⟨g, off, none⟩) n cap → 0 < xx.length → AX (fun n => n < B) wo wa g) := Lib.hid (fun g off n cap e h0 => by
      obtain ⟨oa', cap', e1, _, _, h3⟩ := hOPK.sl
      obtain ⟨b', off', e2, hb', _⟩ := h3 h0
      refine .inl ?_
      injection e1 with e3 _ _
      injection e with e4 _ _
      have e5 := (show xo = some ⟨b', off', none⟩ from e3.trans e2).symm.trans e4
      injection e5 with e6
      injection e6 with e7 _ _
      simp only
      omega)
    have HDO : Hid (Calls Try.prog 25 #[.pointer (some ⟨b, 0, none⟩), .pointer (some ⟨rb, 0, none⟩), .agg #[.int .i64 xd, .int .i64 xp, .int .i64 xv, .int .u8 xi, .slice xo xn xc]] wa (DoesR wa (AX (fun n => n < B) wo wa) b rb (k + 1))) := Lib.hid (does_any wa _ b rb S R k ⟨xd, xp, xv, xi, xo, xn, xc, xx⟩ T1.out (by omega) HOPK.out HXS.out)
    clear hwa bo hb HK BH BB hOPK T1
    go_wp2_with fail
    rw [HWA.out]
    refine HDO.out.mono ?_
    rintro e w5 ⟨rfl, ⟨S5, R5, h5⟩, k5⟩
    have T5 := Lib.hid h5
    have O5 : Hid (obj w5 wo.heap.size = some (.cells #[.int .i64 xd, .int .i64 xp, .int .i64 xv, .int .u8 xi, .slice xo xn xc] 54 (0, 0))) := Lib.hid ((k5.block _ (lt_of_obj OB.out) (fun hn => hn XB.out)).trans OB.out)
    have K5 : Hid (Keeps (NX fun n => n < B) w1 w5) := Lib.hid (KA.out.trans (k5.mono fun n hn hx => hn (XX.out n hx)))
    clear h5 k5 HDO g0 g1 g2 g3 g4 hbyw OB KA BA HWA
    go_wp2_with fail
    refine (same_any w5 _ b rb S5 R5 (k + 1) T5.out (by omega)).mono ?_
    rintro e w6 ⟨rfl, b6⟩
    have T6 := Lib.hid (T5.out.below b6)
    have O6 := Lib.hid ((obj_below b6 (lt_of_obj O5.out)).trans O5.out)
    have K6 : Hid (Keeps (NX fun n => n < B) w1 w6) := Lib.hid (K5.out.trans (Keeps.of_below b6))
    clear b6 T5 O5 K5
    have x0 : w6.cell? ⟨wo.heap.size, 0, none⟩ = some (.int .i64 xd) := cell_at O6.out 0
    have lo := lt_of_obj O6.out
    by_cases hd4 : xd = 4
    case neg =>
      go_wp2_with fail
      go_roundw
      case rel => exact ⟨k + 1, b, by omega, by go_num, rfl, Lib.hid ⟨S5, R5, T6.out.mono XX.out⟩, K6⟩
      case measure => simp [intOf]; omega
    subst hd4
    go_wp2_with fail
    refine (duo_clone T6.out.d T6.out.ok (by have := T6.out.len; omega)).mono ?_
    rintro e w7 ⟨c, rfl, c7, b7⟩
    have D7 : Hid (Duo w7 (AX (AX (fun n => n < B) wo wa) w6 w7) b rb S5 S5 R5) := Lib.hid (T6.out.d.more b7)
    have C7 := Lib.hid c7
    have O7 := Lib.hid ((obj_below b7 (lt_of_obj O6.out)).trans O6.out)
    have K7 : Hid (Keeps (NX fun n => n < B) w1 w7) := Lib.hid (K6.out.trans (Keeps.of_below b7))
    have XC : Hid (∀ n, AX (fun n => n < B) wo wa n → AX (AX (fun n => n < B) wo wa) w6 w7 n) := Lib.hid (fun n hn => .inl hn)
    have XD : Hid (∀ n, (w6.heap.size ≤ n ∧ n < w7.heap.size) → AX (AX (fun n => n < B) wo wa) w6 w7 n) := Lib.hid (fun n hn => .inr hn)
    have XE : Hid (∀ n, n < B → ¬ (w6.heap.size ≤ n ∧ n < w7.heap.size)) := Lib.hid (fun n hn h => by have := K6.out.size; omega)
    have OK7 := Lib.hid T6.out.ok
    have REL7 := Lib.hid T6.out.rel
    have hl7 := T6.out.len
    have ha7 := T6.out.last
    clear b7 c7 T6 O6 K6 x0 lo
    generalize AX (AX (fun n => n < B) wo wa) w6 w7 = X7 at *
    obtain ⟨w8, hw8⟩ : ∃ w8 : World, w7.alloc (.cells #[.int .i64 1, .int .i64 2] 3) = w8 := ⟨_, rfl⟩
    have b8 : Below w7.heap.size w7 w8 := by rw [← hw8]; exact (Below.refl _ w7).alloc (Nat.le_refl _) _
    have OS : obj w8 w7.heap.size = some (.cells #[.int .i64 1, .int .i64 2] 3 (0, 0)) := by rw [← hw8]; exact obj_alloc_at _ _ _ rfl
    have D8 : Hid (Duo w8 (AX X7 w7 w8) b rb S5 S5 R5) := Lib.hid (D7.out.more b8)
    have SL : Hid (SlIn w8 (.slice (some ⟨w7.heap.size, 0, none⟩) 2 2) 1 intL [1, 2]) := Lib.hid ⟨some ⟨w7.heap.size, 0, none⟩, 2, rfl, by decide, by decide, fun _ => ⟨w7.heap.size, 0, rfl, lt_of_obj OS, fun j hj => by
      rw [OS, subOf_cells (by simp at hj ⊢; omega)]
      have : j = 0 ∨ j = 1 := by simp at hj; omega
      rcases this with rfl | rfl <;> rfl⟩⟩
    have XS : Hid (∀ g off n cap, Value.slice (some ⟨w7.heap.size, 0, none⟩) 2 2 = .slice (some ⟨g, off, none⟩) n cap → 0 < ([1, 2] : List Int).length → AX X7 w7 w8 g) := Lib.hid (fun g off n cap e h0 => by
      injection e with e1 _ _
      injection e1 with e2
      injection e2 with e3 _ _
      subst e3
      exact .inr ⟨Nat.le_refl _, lt_of_obj OS⟩)
    have C8 : Hid (CloS w8 (fun n => w6.heap.size ≤ n ∧ n < w7.heap.size) c S5) := Lib.hid (C7.out.keep (Keeps.of_below b8))
    have O8 := Lib.hid ((obj_below b8 (lt_of_obj O7.out)).trans O7.out)
    have K8 : Hid (Keeps (NX fun n => n < B) w1 w8) := Lib.hid (K7.out.trans (Keeps.of_below b8))
    have HW8 := Lib.hid hw8
    have X8 : Hid (∀ n, X7 n → AX X7 w7 w8 n) := Lib.hid (fun n hn => .inl hn)
    have HOP := Lib.hid (duo_open D8.out OK7.out (by omega) _ [1, 2] SL.out XS.out)
    have XB8 : Hid (AX X7 w7 w8 wo.heap.size) := Lib.hid (.inl (XC.out _ XB.out))
    clear hw8 b8 OS C7 D7 O7 K7 SL XS
    go_wp2_with fail
    rw [HW8.out]
    refine HOP.out.mono ?_
    rintro e w9 ⟨rfl, d9, k9⟩
    have D9 := Lib.hid d9
    have C9 := Lib.hid (C8.out.keep (k9.mono fun n hn hx => hn (X8.out n (XD.out n hx))))
    have O9 := Lib.hid ((k9.block _ (lt_of_obj O8.out) (fun hn => hn XB8.out)).trans O8.out)
    have K9 : Hid (Keeps (NX fun n => n < B) w1 w9) := Lib.hid (K8.out.trans (k9.mono fun n hn hx => hn (X8.out n (XC.out n (XX.out n hx)))))
    have OK9 := Lib.hid (OK7.out.open [1, 2])
    have hl9 := (ropenM_size (T := S5) [1, 2]).1
    clear d9 k9 D8 C8 O8 K8 HOP HW8
    generalize (ropenM S5 [1, 2]).1 = S9 at *
    generalize (ropenM S5 [1, 2]).2.1 = q1 at *
    generalize (ropenM S5 [1, 2]).2.2 = q2 at *
    generalize AX X7 w7 w8 = X9 at *
    have x1 : w9.cell? ⟨wo.heap.size, 1, none⟩ = some (.int .i64 xp) := cell_at O9.out 1
    have x2 : w9.cell? ⟨wo.heap.size, 2, none⟩ = some (.int .i64 xv) := cell_at O9.out 2
    have lo := lt_of_obj O9.out
    go_wp2_with fail
    refine wp_region_later_tail w9 (Below.refl _ _) 6 (by kernel_rfl) (by kernel_rfl) ?_
    simp only [List.take_succ_cons, List.take_zero, List.drop_succ_cons, List.drop_zero]
    repeat (go_big_quiet_step (first | (go_at_call 15; with_reducible exact Calls.later (name_any _ _ (by decide) (by decide)))))
    refine wpQuiet_nil ?_
    intro _ hxx
    obtain ⟨⟨w10, b10⟩, hxx⟩ := hxx
    subst hxx
    rename_i w10
    have D10 := Lib.hid (D9.out.below b10)
    have C10 := Lib.hid (C9.out.keep (Keeps.of_below b10))
    have K10 : Hid (Keeps (NX fun n => n < B) w1 w10) := Lib.hid (K9.out.trans (Keeps.of_below b10))
    have HVO := Lib.hid (duo_vote D10.out OK9.out xp xv (nameP 3))
    clear b10 D9 C9 K9 O9 x1 x2 lo
    go_wp2_with fail
    refine HVO.out.mono ?_
    rintro e w11 ⟨rfl, d11, k11⟩
    have D11 := Lib.hid d11
    have C11 := Lib.hid (C10.out.keep (k11.mono fun n hn hx => hn (X8.out n (XD.out n hx))))
    have K11 : Hid (Keeps (NX fun n => n < B) w1 w11) := Lib.hid (K10.out.trans (k11.mono fun n hn hx => hn (X8.out n (XC.out n (XX.out n hx)))))
    have OK11 := Lib.hid (OK9.out.voteM xp xv (nameP 3))
    have hl11 := (voteM_size (T := S9) xp xv (nameP 3)).1
    clear d11 k11 D10 C10 K10 HVO
    generalize (voteM S9 xp xv (nameP 3)).1 = S11 at *
    generalize (voteM S9 xp xv (nameP 3)).2 = q3 at *
    have HDN := Lib.hid (duo_done D11.out OK11.out (by omega))
    go_wp2_with fail
    refine HDN.out.mono ?_
    rintro e w12 ⟨v12, Y12, rfl, -, xy, d12, k12⟩
    have C12 := Lib.hid (C11.out.keep (k12.mono fun n hn hx => hn (X8.out n (XD.out n hx))))
    have K12 : Hid (Keeps (NX fun n => n < B) w1 w12) := Lib.hid (K11.out.trans (k12.mono fun n hn hx => hn (X8.out n (XC.out n (XX.out n hx)))))
    have T12 : Hid (Both w12 (fun n => n < B) c rb S5 R5 (k + 1)) := Lib.hid ⟨d12.swap C12.out (fun n hn => xy n (X8.out n (XD.out n hn))) (fun n hn => xy n (X8.out n (XC.out n (XX.out n hn)))) XE.out, OK7.out, REL7.out, hl7, ha7⟩
    clear xy d12 k12 D11 C11 K11 HDN C12
    go_wp2_with fail
    refine (same_any w12 _ c rb S5 R5 (k + 1) T12.out (by omega)).mono ?_
    rintro e w13 ⟨rfl, b13⟩
    have T13 : Hid (∃ S R, Both w13 (fun n => n < B) c rb S R (k + 1)) := Lib.hid ⟨_, _, T12.out.below b13⟩
    have K13 : Hid (Keeps (NX fun n => n < B) w1 w13) := Lib.hid (K12.out.trans (Keeps.of_below b13))
    clear b13 T12 K12
    go_wp2_with fail
    go_roundw
    case rel => exact ⟨k + 1, c, by omega, by go_num, rfl, T13, K13⟩
    case measure => simp [intOf]; omega
end Go.Proofs.Ytfejhekoijemdaa
