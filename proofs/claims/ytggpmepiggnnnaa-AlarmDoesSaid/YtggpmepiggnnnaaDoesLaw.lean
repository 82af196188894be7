import Derived.Test.YtggpmepiggnnnaaSame
namespace Go.Proofs.Ytggpmepiggnnnaa
open Go.RowKit

theorem RefAt.past {w w' : World} {G F : Nat → Prop} {rb : Nat} {W : List Al} (h : RefAt w G rb W) (hk : Keeps F w w') (hr : ¬ F rb) (hd : ∀ n, G n → ¬ F n) : RefAt w' G rb W := by
  obtain ⟨v, h1, h2, h3⟩ := h
  exact ⟨v, (hk.block _ (lt_of_obj h1) hr).trans h1, h2.keeps fun g hg => hk.block g (h2.1.lt g hg).2 (hd g (h3 g hg)), h3⟩
theorem RefAt.weaken {w : World} {G G' : Nat → Prop} {rb : Nat} {W : List Al} (h : RefAt w G rb W) (hd : ∀ n, n < w.heap.size → G n → G' n) : RefAt w G' rb W := by
  obtain ⟨v, h1, h2, h3⟩ := h
  exact ⟨v, h1, h2, fun n hn => hd n (h2.1.lt n hn).2 (h3 n hn)⟩
set_option maxRecDepth 100000 in
set_option maxHeartbeats 8000000 in
theorem doesLaw_any (w : World) (v1 : Value) (os : List Act3) (h1 : SlIn w v1 3 opL os) :
    Calls Try.prog 7 #[v1] w fun e w' => e = .returned (.bool true) ∧ Below w.heap.size w w' := by
  obtain ⟨oa, cap, rfl, g1, g2, g3⟩ := h1
  unfold maxLen at g2
  have H3 := Lib.hid g3
  clear g3
  obtain ⟨n, hn⟩ : ∃ n : Nat, n = min os.length 100 := ⟨_, rfl⟩
  have hmin : min (os.length : Int) 100 = (n : Int) := by omega
  have hmax : max (n : Int) 0 = (n : Int) := by omega
  have hnl : n ≤ os.length := by omega
  have hn100 : n ≤ 100 := by omega
  have HN := Lib.hid (new_hp w)
  clear hn
  go_enter Try.func7, Try.ntmps7
  go_wp2_with fail
  refine HN.out.mono ?_
  rintro e w1 ⟨rfl, h1, b1⟩
  have b2 : Below w1.heap.size w1 (w1.alloc (.cells #[.slice none 0 0] 63)) := (Below.refl _ w1).alloc (Nat.le_refl _) _
  have D2 : Hid (∃ F, DSx (w1.alloc (.cells #[.slice none 0 0] 63)) w.heap.size (w.heap.size + 1) w1.heap.size F [] []) := Lib.hid ⟨_, h1.below b2, ⟨_, obj_alloc_at _ _ _ rfl, OwnS.nil _ _ _ _ _, fun n hn => by simp [Value.ownBlock] at hn⟩, fun hf => absurd (h1.old _ hf) (by omega), b1.size, fun n hn => by rcases hn with rfl | rfl <;> omega⟩
  have B2 := Lib.hid (b1.trans (b2.mono b1.size))
  have HB := fun W => Lib.hid (begun_any W)
  clear h1 b1 b2 HN
  go_wp2_with fail
  generalize w1.alloc (.cells #[.slice none 0 0] 63) = w2 at *
  generalize w1.heap.size = rb at *
  refine (HB _).out.mono ?_
  rintro e w3 ⟨rfl, b3⟩
  have D3 : Hid (∃ hb F W, DSx w3 w.heap.size hb rb F W W ∧ hb = w.heap.size + 1) := Lib.hid (by
    obtain ⟨F, h⟩ := D2.out
    exact ⟨_, F, _, h.below b3, rfl⟩)
  have B3 := Lib.hid (B2.out.trans (b3.mono B2.out.size))
  clear b3 D2 B2 HB
  go_wp2
  go_loopw [3, 23] (fun v3 v23 wr => ∃ (k hb : Nat), k ≤ n ∧ v23 = .int .i64 k ∧ v3 = .pointer (some ⟨hb, 0, none⟩) ∧ Hid (∃ F W, DSx wr w.heap.size hb rb F W W) ∧ Hid (Below w.heap.size w wr)) (fun _ i _ => n - (intOf i).toNat)
  case atStart => exact ⟨0, _, Nat.zero_le _, rfl, rfl, Lib.hid (by obtain ⟨hb, F, W, h, e⟩ := D3.out; rw [← e]; exact ⟨F, W, h⟩), B3⟩
  case round =>
    obtain ⟨k, hb, hk, rfl, rfl, HS, HBr⟩ := hrel
    by_cases hlt : k < n
    · obtain ⟨b, off, hoa, hbb, hrow⟩ := H3.out (by omega)
      subst hoa
      have hs1 := hrow k (by omega)
      rw [← obj_below HBr.out hbb] at hs1
      have hbl : b < wr.heap.size := Nat.lt_of_lt_of_le hbb HBr.out.size
      generalize os[k]'(by omega) = o at *
      obtain ⟨d, t, kk⟩ := o
      simp only [opL] at hs1
      clear hrow
      obtain ⟨F, W, p1⟩ := HS.out
      have b4 : Below wr.heap.size wr (wr.alloc (.cells #[.int .i64 d, .int .i64 t, .int .i64 kk] 55)) := (Below.refl _ wr).alloc (Nat.le_refl _) _
      have o4 : obj (wr.alloc (.cells #[.int .i64 d, .int .i64 t, .int .i64 kk] 55)) wr.heap.size = some (.cells #[.int .i64 d, .int .i64 t, .int .i64 kk] 55 (0, 0)) := obj_alloc_at _ _ _ rfl
      have D4 := Lib.hid (p1.below b4)
      have FO := Lib.hid (p1.new _ (Nat.le_refl _))
      have hrw : rb < wr.heap.size := p1.ref.lt
      have B4 := Lib.hid (HBr.out.trans (b4.mono HBr.out.size))
      have HD := Lib.hid (does_any _ w.heap.size hb rb F W d t kk D4.out)
      clear p1 b4 HS
      go_wp2_with fail
      generalize wr.alloc (.cells #[.int .i64 d, .int .i64 t, .int .i64 kk] 55) = w4 at *
      generalize wr.heap.size = ob at *
      refine HD.out.mono ?_
      rintro e w5 ⟨rfl, ⟨F5, W5, d5, g5⟩, k5⟩
      have D5 := Lib.hid d5
      have o5 := (k5.block _ (lt_of_obj o4) (fun h9 => h9.elim FO.out (by omega))).trans o4
      have B5 := Lib.hid (B4.out.trans (k5.below (fun n hn => hn.elim (D4.out.ge n) (fun e => e ▸ D4.out.rge)) B4.out.size))
      have HSM := Lib.hid (same_any w5 w.heap.size hb rb F5 W5 d5)
      have NO : Hid (¬ F5 ob) := Lib.hid (fun hf => (g5 _ hf).elim FO.out (by have := lt_of_obj o4; omega))
      clear d5 k5 o4 g5 HD D4 B4
      go_wp2_with fail
      refine HSM.out.mono ?_
      rintro e w6 ⟨rfl, b6⟩
      have o6 := (obj_below b6 (lt_of_obj o5)).trans o5
      have D6 := Lib.hid (D5.out.below b6)
      have B6 := Lib.hid (B5.out.trans (b6.mono B5.out.size))
      have c60 : w6.cell? ⟨ob, 0, none⟩ = some (.int .i64 d) := cell_at o6 0
      have hz6 := lt_of_obj o6
      clear b6 o5 HSM D5 B5
      by_cases d6 : d = 6
      · subst d6
        have HCL := Lib.hid (cloneH w6 F5 hb W5 D6.out.hp)
        go_wp2_with fail
        refine HCL.out.mono ?_
        rintro e w7 ⟨⟨nb, F7, rfl, h7, n7⟩, b7⟩
        have o7 := (obj_below b7 hz6).trans o6
        have HP7 := Lib.hid (D6.out.hp.below b7)
        have HN7 := Lib.hid h7
        have NF : Hid (∀ n, F7 n → ¬ F5 n) := Lib.hid (fun n hn hf => absurd (D6.out.hp.old n hf) (by have := n7 n hn; omega))
        have NR : Hid (¬ F7 rb) := Lib.hid (fun hn => by have := n7 _ hn; have := D6.out.ref.lt; omega)
        have R7 : Hid (RefAt w7 (fun n => ¬ F5 n ∧ ¬ F7 n) rb W5) := Lib.hid ((D6.out.ref.weaken (G' := fun n => ¬ F5 n ∧ ¬ F7 n) (fun n hn hg => ⟨hg, fun h9 => by have := n7 n h9; omega⟩)).below b7)
        have GE : Hid (∀ n, F7 n → w.heap.size ≤ n) := Lib.hid (fun n hn => Nat.le_trans B6.out.size (n7 n hn))
        have B7 := Lib.hid (B6.out.trans (b7.mono B6.out.size))
        have HDU := Lib.hid (due_hp w7 F5 hb W5 4611686018427387904 HP7.out)
        clear b7 h7 n7 HCL o6 c60
        go_wp2_with fail
        refine HDU.out.mono ?_
        rintro e w8 ⟨⟨v8, rfl, _, _⟩, h8, k8⟩
        have o8 := (k8.block _ (lt_of_obj o7) NO.out).trans o7
        have c82 : w8.cell? ⟨ob, 2, none⟩ = some (.int .i64 kk) := cell_at o8 2
        have hz8 := lt_of_obj o8
        have HN8 := Lib.hid (HN7.out.other k8 (fun n _ hn => NF.out n hn))
        have R8 := Lib.hid (R7.out.past k8 D6.out.rF (fun n hn => hn.1))
        have B8 := Lib.hid (B7.out.trans (k8.below D6.out.ge B7.out.size))
        have HPU := Lib.hid (push_hp w8 F5 hb _ 1 kk h8)
        clear h8 k8 HDU o7 HN7 R7
        go_wp2_with fail
        refine HPU.out.mono ?_
        rintro e w9 ⟨rfl, _, k9⟩
        have D9 : Hid (DSx w9 w.heap.size nb rb F7 W5 W5) := Lib.hid ⟨HN8.out.other k9 (fun n _ hn => NF.out n hn), (R8.out.past k9 D6.out.rF (fun n hn => hn.1)).weaken (fun n _ hn => hn.2), NR.out, D6.out.rge, GE.out⟩
        have B9 := Lib.hid (B8.out.trans (k9.below D6.out.ge B8.out.size))
        have HS9 := Lib.hid (same_any w9 w.heap.size nb rb F7 W5 D9.out)
        clear k9 HPU HN8 R8 o8
        go_wp2_with fail
        refine HS9.out.mono ?_
        rintro e w10 ⟨rfl, b10⟩
        have D10 := Lib.hid (D9.out.below b10)
        have B10 := Lib.hid (B9.out.trans (b10.mono B9.out.size))
        clear b10 HS9 D9 B9
        go_wp2
        go_roundw
        case rel => exact ⟨k + 1, nb, by omega, by go_num, rfl, Lib.hid ⟨_, _, D10.out⟩, B10⟩
        case measure => simp [intOf]; omega
      · have e6 : (d != 6) = true := by simpa using d6
        go_wp2
        go_roundw
        case rel => exact ⟨k + 1, hb, by omega, by go_num, rfl, Lib.hid ⟨_, _, D6.out⟩, B6⟩
        case measure => simp [intOf]; omega
    · have hk' : k = n := by omega
      subst hk'
      go_wp2
      go_ret
      exact ⟨rfl, HBr.out⟩
end Go.Proofs.Ytggpmepiggnnnaa
