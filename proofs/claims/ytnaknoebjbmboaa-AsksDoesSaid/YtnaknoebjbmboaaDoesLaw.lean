import Derived.Test.YtnaknoebjbmboaaSame
namespace Go.Proofs.Ytnaknoebjbmboaa
open Go.RowKit

theorem RefK.weaken {w : World} {G G' : Nat → Prop} {rb : Nat} {S : RefD} {W : List AskD} (h : RefK w G rb S W) (hd : ∀ n, n < w.heap.size → G n → G' n) : RefK w G' rb S W := by
  obtain ⟨v, h1, h2, h3⟩ := h
  exact ⟨v, h1, h2, fun n hn => hd n (h2.1.lt n hn).2 (h3 n hn)⟩
set_option maxRecDepth 100000 in
theorem new_no (w : World) (room last : Int) (h : room < 1 ∨ 1024 < room ∨ last < 0 ∨ 2147483647 < last) :
    Calls Try.prog 8 #[.int .i64 room, .int .i64 last] w fun e w' => e = .returned (.tuple #[.pointer none, .int .i64 1]) ∧ w' = w := by
  by_cases d1 : room < 1
  · clear h
    go_enter Try.func8, Try.ntmps8
    go_wp2
    go_ret2
    exact ⟨rfl, rfl⟩
  by_cases d2 : 1024 < room
  · clear h
    go_enter Try.func8, Try.ntmps8
    go_wp2
    go_ret2
    exact ⟨rfl, rfl⟩
  by_cases d3 : last < 0
  · clear h
    go_enter Try.func8, Try.ntmps8
    go_wp2
    go_ret2
    exact ⟨rfl, rfl⟩
  · have d4 : 2147483647 < last := by omega
    clear h
    go_enter Try.func8, Try.ntmps8
    go_wp2
    go_ret2
    exact ⟨rfl, rfl⟩
@[go_sem ↓] theorem hide_load45 (a : Addr) : loadVar 45 a = loadAgg 45 a := rfl
@[go_sem ↓] theorem hide_store45 (a : Addr) (v : Value) : storeVar 45 a v = storeAgg 45 a v := rfl
@[go_sem] theorem run_load45 (b off : Nat) (W : World) : (loadAgg 45 ⟨b, off, none⟩).run Try.prog W = loadRes Try.prog 45 ⟨b, off, none⟩ W (subOf (obj W b) off 4) := run_loadAgg Try.isAgg45 Try.sizeOf45 b off W
@[go_sem] theorem run_store45 (b off : Nat) (cs : Array Value) (W : World) : (storeAgg 45 ⟨b, off, none⟩ (.agg cs)).run Try.prog W = storeRes Try.prog 45 ⟨b, off, none⟩ (.agg cs) W (putOf (obj W b) off 4 cs) := run_storeAgg Try.sizeOf45 b off cs W
structure Op4 where
  d : Int
  n : Int
  k : Int
  i : Int
instance : Inhabited Op4 := ⟨⟨0, 0, 0, 0⟩⟩
def opL (o : Op4) : List Value := [.int .i64 o.d, .int .i64 o.n, .int .i64 o.k, .int .i64 o.i]
theorem opL_length (o : Op4) : (opL o).length = 4 := rfl
set_option maxRecDepth 100000 in
set_option maxHeartbeats 8000000 in
theorem doesLaw_any (w : World) (room last : Int) (v1 : Value) (os : List Op4) (h1 : SlIn w v1 4 opL os) :
    Calls Try.prog 7 #[.int .i64 room, .int .i64 last, v1] w fun e w' => e = .returned (.bool true) ∧ Below w.heap.size w w' := by
  obtain ⟨oa, cap, rfl, g1, g2, g3⟩ := h1
  unfold maxLen at g2
  have H3 := Lib.hid g3
  clear g3
  obtain ⟨n, hn⟩ : ∃ n : Nat, n = min os.length 80 := ⟨_, rfl⟩
  have hmin : min (os.length : Int) 80 = (n : Int) := by omega
  have hmax : max (n : Int) 0 = (n : Int) := by omega
  have hnl : n ≤ os.length := by omega
  have hn80 : n ≤ 80 := by omega
  have HB := fun W => Lib.hid (begun_any W)
  clear hn
  by_cases hok : 1 ≤ room ∧ room ≤ 1024 ∧ 0 ≤ last ∧ last ≤ 2147483647
  · have HN := Lib.hid (new_ok w room last hok.1 hok.2.1 hok.2.2.1 hok.2.2.2)
    have HNR := fun W => Lib.hid (ref_new W room last hok)
    have HI0 : Hid (InvK ⟨room, last, [], 0, 0, 0⟩ 0) := Lib.hid ⟨⟨List.Pairwise.nil, fun p hp => (by cases hp)⟩, fun p hp => (by cases hp), (by simp; omega), hok.2.1, hok.2.2.1, hok.2.2.2, by simp, by simp, by simp, by simp, by simp, by simp⟩
    clear hok
    go_enter Try.func7, Try.ntmps7
    go_wp2_with fail
    refine HN.out.mono ?_
    rintro e w1 ⟨rfl, h1, b1⟩
    have K1 : Hid (BK w1 (w.heap.size + 1) w.heap.size ⟨room, last, [], 0, 0, 0⟩) := Lib.hid ⟨h1, by
      obtain ⟨es, clk, h2, h3⟩ := h1.map
      refine ⟨es, clk, h2, ?_⟩
      have := h3.length
      have he : es.toList = [] := List.eq_nil_of_length_eq_zero this
      rw [he]
      exact ⟨List.nodup_nil, fun e he => by cases he⟩, HI0.out.rise⟩
    have B1 := Lib.hid b1
    clear h1 b1 HN
    go_wp2_with fail
    refine (HNR _).out.mono ?_
    rintro e w2 ⟨rfl, hw2⟩
    have b2 : Below w1.heap.size w1 w2 := by rw [hw2]; exact (Below.refl _ w1).alloc (Nat.le_refl _) _
    have o2 : obj w2 w1.heap.size = some (.cells (refC ⟨room, last, 0, 0, 0⟩ (.slice none 0 0)) 71 (0, 0)) := by rw [hw2]; exact obj_alloc_at _ _ _ rfl
    have hsz1 := K1.out.at_.lt
    have D2 : Hid (DK w2 w.heap.size (w.heap.size + 1) w.heap.size w1.heap.size ⟨room, last, [], 0, 0, 0⟩) := Lib.hid ⟨K1.out.below b2, ⟨_, o2, OwnS.nil _ _ _ _ _, fun n hn => by simp [Value.ownBlock] at hn⟩, by omega, by omega, by omega, Nat.le_refl _, B1.out.size⟩
    have B2 := Lib.hid (B1.out.trans (b2.mono B1.out.size))
    clear b2 o2 hw2 K1 B1 HNR
    generalize w1.heap.size = rb at *
    go_wp2_with fail
    refine (HB _).out.mono ?_
    rintro e w3 ⟨rfl, b3⟩
    have D3 := Lib.hid (D2.out.below b3)
    have B3 := Lib.hid (B2.out.trans (b3.mono B2.out.size))
    clear b3 D2 B2 HB
    go_wp2
    go_loopw [7, 48] (fun v7 v48 wr => ∃ (k b : Nat), k ≤ n ∧ v48 = .int .i64 k ∧ v7 = .pointer (some ⟨b, 0, none⟩) ∧ Hid (∃ m S, DK wr w.heap.size b m rb S ∧ InvK S k) ∧ Hid (Below w.heap.size w wr)) (fun _ i _ => n - (intOf i).toNat)
    case atStart => exact ⟨0, _, Nat.zero_le _, rfl, rfl, Lib.hid ⟨_, _, D3.out, HI0.out⟩, B3⟩
    case round =>
      obtain ⟨k, b, hk, rfl, rfl, HS, HBr⟩ := hrel
      by_cases hlt : k < n
      · obtain ⟨bb, off, hoa, hbb, hrow⟩ := H3.out (by omega)
        subst hoa
        have hs1 := hrow k (by omega)
        rw [← obj_below HBr.out hbb] at hs1
        have hbl : bb < wr.heap.size := Nat.lt_of_lt_of_le hbb HBr.out.size
        generalize os[k]'(by omega) = o at *
        obtain ⟨d, nd, kd, id⟩ := o
        simp only [opL] at hs1
        clear hrow
        obtain ⟨m, S, p1, p2⟩ := HS.out
        have b4 : Below wr.heap.size wr (wr.alloc (.cells #[.int .i64 d, .int .i64 nd, .int .i64 kd, .int .i64 id] 45)) := (Below.refl _ wr).alloc (Nat.le_refl _) _
        have o4 : obj (wr.alloc (.cells #[.int .i64 d, .int .i64 nd, .int .i64 kd, .int .i64 id] 45)) wr.heap.size = some (.cells #[.int .i64 d, .int .i64 nd, .int .i64 kd, .int .i64 id] 45 (0, 0)) := obj_alloc_at _ _ _ rfl
        have D4 := Lib.hid (p1.below b4)
        have NO : Hid (¬ (wr.heap.size = b ∨ wr.heap.size = m ∨ wr.heap.size = rb)) := Lib.hid (fun h => by
          have q1 := p1.bk.at_.lt
          have q2 := p1.bk.at_.mlt
          have q3 := p1.ref.lt
          omega)
        have B4 := Lib.hid (HBr.out.trans (b4.mono HBr.out.size))
        have HD := Lib.hid (does_any _ w.heap.size b m rb S k (by omega) d nd kd id D4.out p2)
        clear p1 b4 HS p2
        go_wp2_with fail
        generalize wr.alloc (.cells #[.int .i64 d, .int .i64 nd, .int .i64 kd, .int .i64 id] 45) = w4 at *
        generalize wr.heap.size = ob at *
        refine HD.out.mono ?_
        rintro e w5 ⟨rfl, ⟨S5, i5, d5⟩, k5⟩
        have D5 := Lib.hid d5
        have I5 := Lib.hid i5
        have o5 := (k5.block _ (lt_of_obj o4) NO.out).trans o4
        have B5 := Lib.hid (B4.out.trans (k5.below (fun n hn => by
          have q1 := D4.out.gb
          have q2 := D4.out.gm
          have q3 := D4.out.gr
          omega) B4.out.size))
        have HSM := Lib.hid (same_any w5 w.heap.size b m rb S5 (k + 1) nd d5 i5)
        have c51 : w5.cell? ⟨ob, 1, none⟩ = some (.int .i64 nd) := cell_at o5 1
        have hz5 := lt_of_obj o5
        clear d5 k5 o4 HD D4 B4 i5
        go_wp2_with fail
        refine HSM.out.mono ?_
        rintro e w6 ⟨rfl, b6⟩
        have o6 := (obj_below b6 hz5).trans o5
        have D6 := Lib.hid (D5.out.below b6)
        have B6 := Lib.hid (B5.out.trans (b6.mono B5.out.size))
        have c60 : w6.cell? ⟨ob, 0, none⟩ = some (.int .i64 d) := cell_at o6 0
        have hz6 := lt_of_obj o6
        clear b6 o5 HSM D5 B5 c51 hz5
        by_cases d6 : d = 4
        · subst d6
          have HCL := Lib.hid (clone_book w6 b m S5 D6.out.bk)
          obtain ⟨ax, ae, S7, i7, ap, _⟩ := ask_both S5 (k + 1) (by omega) I5.out 1 7
          obtain ⟨xa, xe, S8, i8, xp, _⟩ := expire_both S7 (k + 1 + 1) (by omega) i7 id
          have HAP := Lib.hid ap
          have HXP := Lib.hid xp
          clear ap xp i7 i8
          go_wp2_with fail
          refine HCL.out.mono ?_
          rintro e w7 ⟨rfl, h7, b7⟩
          have o7 := (obj_below b7 hz6).trans o6
          have P7 := Lib.hid (D6.out.bk.below b7)
          have N7 := Lib.hid h7
          have hq1 := D6.out.bk.at_.lt
          have hq2 := D6.out.bk.at_.mlt
          have hq3 := D6.out.ref.lt
          have R7 : Hid (RefK w7 (fun n => (n ≠ b ∧ n ≠ m) ∧ (n ≠ w6.heap.size ∧ n ≠ w6.heap.size + 1)) rb (refOf S5) (wtL S5)) := Lib.hid ((D6.out.ref.weaken (G' := fun n => (n ≠ b ∧ n ≠ m) ∧ (n ≠ w6.heap.size ∧ n ≠ w6.heap.size + 1)) (fun n hn hg => ⟨hg, by omega, by omega⟩)).below b7)
          have B7 := Lib.hid (B6.out.trans (b7.mono B6.out.size))
          have hge : w.heap.size ≤ w6.heap.size := B6.out.size
          have HA := Lib.hid (HAP.out w7 b m P7.out)
          clear b7 h7 HCL o6 c60 HAP
          generalize w6.heap.size = nb at *
          go_wp2_with fail
          refine HA.out.mono ?_
          rintro e w8 ⟨rfl, h8, k8⟩
          have hno := NO.out
          have o8 := (k8.block _ (lt_of_obj o7) (by omega)).trans o7
          have c83 : w8.cell? ⟨ob, 3, none⟩ = some (.int .i64 id) := cell_at o8 3
          have hz8 := lt_of_obj o8
          have N8 := Lib.hid (N7.out.past k8 (by omega) (by omega))
          have R8 := Lib.hid (R7.out.past k8 (fun h => h.elim D6.out.nb D6.out.nm) (fun n hn h => h.elim hn.1.1 hn.1.2))
          have B8 := Lib.hid (B7.out.trans (k8.below (fun n hn => by
            have q1 := D6.out.gb
            have q2 := D6.out.gm
            omega) B7.out.size))
          have HX := Lib.hid (HXP.out w8 b m h8)
          clear h8 k8 HA o7 N7 R7 HXP
          go_wp2_with fail
          refine HX.out.mono ?_
          rintro e w9 ⟨rfl, h9, k9⟩
          have o9 := (k9.block _ (lt_of_obj o8) (by omega)).trans o8
          have c91 : w9.cell? ⟨ob, 1, none⟩ = some (.int .i64 nd) := cell_at o9 1
          have hz9 := lt_of_obj o9
          have D9 : Hid (DK w9 w.heap.size nb (nb + 1) rb S5) := Lib.hid ⟨N8.out.past k9 (by omega) (by omega), (R8.out.past k9 (fun h => h.elim D6.out.nb D6.out.nm) (fun n hn h => h.elim hn.1.1 hn.1.2)).weaken (fun n _ hn => hn.2), by omega, by omega, hge, by omega, D6.out.gr⟩
          have B9 := Lib.hid (B8.out.trans (k9.below (fun n hn => by
            have q1 := D6.out.gb
            have q2 := D6.out.gm
            omega) B8.out.size))
          have HS9 := Lib.hid (same_any w9 w.heap.size nb (nb + 1) rb S5 (k + 1) nd D9.out I5.out)
          clear h9 k9 HX N8 R8 o8
          go_wp2_with fail
          refine HS9.out.mono ?_
          rintro e w10 ⟨rfl, b10⟩
          have D10 := Lib.hid (D9.out.below b10)
          have B10 := Lib.hid (B9.out.trans (b10.mono B9.out.size))
          clear b10 HS9 D9 B9
          go_wp2
          go_roundw
          case rel => exact ⟨k + 1, nb, by omega, by go_num, rfl, Lib.hid ⟨_, _, D10.out, I5.out⟩, B10⟩
          case measure => simp [intOf]; omega
        · have e6 : (d != 4) = true := by simpa using d6
          go_wp2
          go_roundw
          case rel => exact ⟨k + 1, b, by omega, by go_num, rfl, Lib.hid ⟨_, _, D6.out, I5.out⟩, B6⟩
          case measure => simp [intOf]; omega
      · have hk' : k = n := by omega
        subst hk'
        go_wp2
        go_ret
        exact ⟨rfl, HBr.out⟩
  · have hno : room < 1 ∨ 1024 < room ∨ last < 0 ∨ 2147483647 < last := by omega
    have HN := Lib.hid (new_no w room last hno)
    have HNR := fun W => Lib.hid (ref_new_no W room last hno)
    clear hno hok
    go_enter Try.func7, Try.ntmps7
    go_wp2_with fail
    refine HN.out.mono ?_
    rintro e w1 ⟨rfl, hw1⟩
    cases hw1
    go_wp2_with fail
    refine (HNR _).out.mono ?_
    rintro e w2 ⟨rfl, hw2⟩
    cases hw2
    go_wp2_with fail
    refine (HB _).out.mono ?_
    rintro e w3 ⟨rfl, b3⟩
    have B3 := Lib.hid b3
    clear b3
    go_wp2
    go_ret
    exact ⟨rfl, B3.out⟩
end Go.Proofs.Ytnaknoebjbmboaa
