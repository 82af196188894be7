import Derived.Test.YtnaknoebjbmboaaRefM
namespace Go.Proofs.Ytnaknoebjbmboaa
open Go.RowKit

theorem RefIn.refK {w : World} {B rb : Nat} {S : RefD} {W : List AskD} (h : RefIn w B rb S W) : RefK w (fun _ => True) rb S W := by
  obtain ⟨v, h1, h2⟩ := h
  exact ⟨v, h1, h2.lower (Nat.zero_le _), fun _ _ => trivial⟩
theorem findA_neg {W : List AskD} {k : Int} (h : ∀ a ∈ W, a.id ≠ k) : findA W k = -1 := by
  unfold findA
  rw [if_neg]
  rw [List.any_eq_true]
  rintro ⟨a, ha, he⟩
  exact h a ha (by simpa using he)
theorem findA_pos {W : List AskD} {i : Nat} (hi : i < W.length) (hn : (W.map (·.id)).Nodup) : findA W W[i].id = i := by
  refine findA_hit hi (fun j hj hlt => ?_) (by simp)
  rw [beq_eq_false_iff_ne]
  intro e
  have h1 : (W.map (·.id))[j]'(by simpa using hj) = (W.map (·.id))[i]'(by simpa using hi) := by simpa using e
  exact List.pairwise_iff_getElem.1 hn j i (by simpa using hj) (by simpa using hi) hlt h1
/-! ### Get -/
set_option maxRecDepth 100000 in
set_option maxHeartbeats 1000000 in
theorem ref_get_none (w : World) (G : Nat → Prop) (rb : Nat) (S : RefD) (W : List AskD) (q : Int) (h : RefK w G rb S W) (hq : ∀ a ∈ W, a.id ≠ q) :
    Calls Try.prog 35 #[.pointer (some ⟨rb, 0, none⟩), .int .i64 q] w fun e w' => e = .returned (.tuple #[akV ⟨0, 0, 0⟩, .int .i64 4]) ∧ Below w.heap.size w w' := by
  have b1 : Below w.heap.size w (w.alloc (.cells #[.int .i64 0, .int .i64 0, .int .i64 0] 32)) := (Below.refl _ w).alloc (Nat.le_refl _) _
  have o1 : obj (w.alloc (.cells #[.int .i64 0, .int .i64 0, .int .i64 0] 32)) w.heap.size = some (.cells #[.int .i64 0, .int .i64 0, .int .i64 0] 32 (0, 0)) := obj_alloc_at _ _ _ rfl
  have HF := Lib.hid (find_ref _ G rb S W q (h.below b1))
  rw [findA_neg hq] at HF
  clear h hq
  go_enter Try.func35, Try.ntmps35
  go_wp2_with fail
  refine HF.out.mono ?_
  rintro e w2 ⟨rfl, b2⟩
  have o2 := (obj_below b2 (lt_of_obj o1)).trans o1
  have z2 := lt_of_obj o2
  have B2 := Lib.hid (b1.trans (b2.mono b1.size))
  clear b1 b2 o1
  go_wp2
  have oo : obj (putObj w2 w.heap.size (.cells #[.int .i64 0, .int .i64 0, .int .i64 0] 32)) w.heap.size = some (.cells #[.int .i64 0, .int .i64 0, .int .i64 0] 32 (0, 0)) := obj_putObj_eq _ _ _ z2
  refine bodyPost_ret (results_cell_tmp rfl _ rfl (by rw [run_load32, oo]; rfl)) rfl ?_
  exact ⟨rfl, below_putObj B2.out (Nat.le_refl _) _⟩
set_option maxRecDepth 100000 in
set_option maxHeartbeats 1000000 in
theorem ref_get (w : World) (G : Nat → Prop) (rb : Nat) (S : RefD) (W : List AskD) (i : Nat) (hi : i < W.length) (h : RefK w G rb S W) (hn : (W.map (·.id)).Nodup) :
    Calls Try.prog 35 #[.pointer (some ⟨rb, 0, none⟩), .int .i64 W[i].id] w fun e w' => e = .returned (.tuple #[akV W[i], .int .i64 0]) ∧ Below w.heap.size w w' := by
  have b1 : Below w.heap.size w (w.alloc (.cells #[.int .i64 0, .int .i64 0, .int .i64 0] 32)) := (Below.refl _ w).alloc (Nat.le_refl _) _
  have o1 : obj (w.alloc (.cells #[.int .i64 0, .int .i64 0, .int .i64 0] 32)) w.heap.size = some (.cells #[.int .i64 0, .int .i64 0, .int .i64 0] 32 (0, 0)) := obj_alloc_at _ _ _ rfl
  have HF := Lib.hid (find_ref _ G rb S W W[i].id (h.below b1))
  rw [findA_pos hi hn] at HF
  obtain ⟨v, h1, h2, _⟩ := h.below b1
  obtain ⟨oa, cap, rfl, g1, g2, g3⟩ := h2.slIn akL_length
  unfold maxLen at g2
  obtain ⟨b, off, rfl, hbb, hrow⟩ := g3 (by omega)
  have hs0 := Lib.hid (hrow i hi)
  have H1 := Lib.hid h1
  clear h hn h1 h2 g3 hrow
  generalize W[i] = x at *
  go_enter Try.func35, Try.ntmps35
  go_wp2_with fail
  generalize w.alloc (.cells #[.int .i64 0, .int .i64 0, .int .i64 0] 32) = w1 at *
  refine HF.out.mono ?_
  rintro e w2 ⟨rfl, b2⟩
  have o2 := (obj_below b2 (lt_of_obj o1)).trans o1
  have z2 := lt_of_obj o2
  have B2 := Lib.hid (b1.trans (b2.mono b1.size))
  have ob := (obj_below b2 (lt_of_obj H1.out)).trans H1.out
  have c2 : w2.cell? ⟨rb, 2, none⟩ = some (.slice (some ⟨b, off, none⟩) W.length cap) := cell_at ob 2
  have zr := lt_of_obj ob
  have hs2 := hs0.out
  rw [← obj_below b2 hbb] at hs2
  have hb2 : b < w2.heap.size := Nat.lt_of_lt_of_le hbb b2.size
  simp only [akL] at hs2
  clear b1 b2 o1 ob
  go_wp2
  have oo : obj (putObj w2 w.heap.size (.cells #[.int .i64 x.id, .int .i64 x.node, .int .i64 x.kind] 32)) w.heap.size = some (.cells #[.int .i64 x.id, .int .i64 x.node, .int .i64 x.kind] 32 (0, 0)) := obj_putObj_eq _ _ _ z2
  refine bodyPost_ret (results_cell_tmp rfl _ rfl (by rw [run_load32, oo]; rfl)) rfl ?_
  exact ⟨rfl, below_putObj B2.out (Nat.le_refl _) _⟩
/-! ### Of -/
def cntN (nd : Int) (W : List AskD) : Nat := W.countP (fun a => a.node == nd)
set_option maxRecDepth 100000 in
set_option maxHeartbeats 1000000 in
theorem ref_of (w : World) (G : Nat → Prop) (rb : Nat) (S : RefD) (W : List AskD) (nd : Int) (h : RefK w G rb S W) (hlen : W.length ≤ 100000) :
    Calls Try.prog 36 #[.pointer (some ⟨rb, 0, none⟩), .int .i64 nd] w fun e w' => e = .returned (.int .i64 (cntN nd W : Nat)) ∧ Below w.heap.size w w' := by
  obtain ⟨v, h1, h2, h3⟩ := h
  obtain ⟨oa, cap, rfl, g1, g2, g3⟩ := h2.slIn akL_length
  unfold maxLen at g2
  have H1 := Lib.hid h1
  have H3 := Lib.hid g3
  have hz := lt_of_obj h1
  have HEND : Hid (cntN nd (W.take W.length) = cntN nd W) := Lib.hid (by rw [List.take_length])
  clear h1 h2 h3 g3
  go_enter Try.func36, Try.ntmps36
  go_wp2
  go_loopw [5, 6] (fun v5 v6 wr => ∃ k c : Nat, k ≤ W.length ∧ v6 = .int .i64 k ∧ v5 = .int .i64 c ∧ c ≤ k ∧ Hid (c = cntN nd (W.take k)) ∧ Hid (Below w.heap.size w wr)) (fun _ i _ => W.length - (intOf i).toNat)
  case atStart => exact ⟨0, 0, Nat.zero_le _, rfl, rfl, Nat.le_refl _, Lib.hid (by simp [cntN]), Lib.hid (Below.refl _ w)⟩
  case round =>
    obtain ⟨k, c, hk, rfl, rfl, hck, HK, HB⟩ := hrel
    have ob := (obj_below HB.out hz).trans H1.out
    have c0 : wr.cell? ⟨rb, 2, none⟩ = some (.slice oa W.length cap) := cell_at ob 2
    have hzr := lt_of_obj ob
    clear ob
    by_cases hlt : k < W.length
    · obtain ⟨b, off, hoa, hbb, hrow⟩ := H3.out (by omega)
      subst hoa
      have hs1 := hrow k hlt
      rw [← obj_below HB.out hbb] at hs1
      have hbl : b < wr.heap.size := Nat.lt_of_lt_of_le hbb HB.out.size
      have c1 := subOf_cell hs1 (j := 1) (by decide)
      simp only [akL, List.getElem?_toArray, List.getElem?_cons_zero, List.getElem?_cons_succ] at c1
      have HN : Hid (cntN nd (W.take (k + 1)) = cntN nd (W.take k) + (if (W[k].node == nd) = true then 1 else 0)) := Lib.hid (by
        rw [take_snocA hlt]
        unfold cntN
        rw [List.countP_append]
        simp [List.countP_cons])
      generalize W[k].node = x at *
      have hwc : IntKind.i64.wrap ((c : Int) + 1) = ((c + 1 : Nat) : Int) := by simp [IntKind.wrap, IntKind.signed, IntKind.bits]; omega
      clear hrow hs1
      cases hr : (x == nd)
      · rw [hr] at HN
        go_wp2
        go_roundw
        case rel => exact ⟨k + 1, c, by omega, by go_num, rfl, by omega, Lib.hid (by rw [HN.out, ← HK.out]; rfl), HB⟩
        case measure => simp [intOf]; omega
      · rw [hr] at HN
        go_wp2
        go_roundw
        case rel => exact ⟨k + 1, c + 1, by omega, by go_num, by go_num, by omega, Lib.hid (by rw [HN.out, ← HK.out]; rfl), HB⟩
        case measure => simp [intOf]; omega
    · have hk' : k = W.length := by omega
      subst hk'
      have HC := Lib.hid (HK.out.trans HEND.out)
      go_wp2
      go_ret
      exact ⟨ret_int (by rw [HC.out]), HB.out⟩
/-! ### Expire -/
set_option maxRecDepth 100000 in
set_option maxHeartbeats 1000000 in
theorem ref_expire_none (w : World) (G : Nat → Prop) (rb : Nat) (S : RefD) (W : List AskD) (q : Int) (h : RefK w G rb S W) (hq : ∀ a ∈ W, a.id ≠ q) :
    Calls Try.prog 34 #[.pointer (some ⟨rb, 0, none⟩), .int .i64 q] w fun e w' => e = .returned (.tuple #[akV ⟨0, 0, 0⟩, .int .i64 4]) ∧ Below w.heap.size w w' := by
  have b1 : Below w.heap.size w (w.alloc (.cells #[.int .i64 0, .int .i64 0, .int .i64 0] 32)) := (Below.refl _ w).alloc (Nat.le_refl _) _
  have o1 : obj (w.alloc (.cells #[.int .i64 0, .int .i64 0, .int .i64 0] 32)) w.heap.size = some (.cells #[.int .i64 0, .int .i64 0, .int .i64 0] 32 (0, 0)) := obj_alloc_at _ _ _ rfl
  have HF := Lib.hid (find_ref _ G rb S W q (h.below b1))
  rw [findA_neg hq] at HF
  clear h hq
  go_enter Try.func34, Try.ntmps34
  go_wp2_with fail
  refine HF.out.mono ?_
  rintro e w2 ⟨rfl, b2⟩
  have o2 := (obj_below b2 (lt_of_obj o1)).trans o1
  have z2 := lt_of_obj o2
  have B2 := Lib.hid (b1.trans (b2.mono b1.size))
  clear b1 b2 o1
  go_wp2
  have oo : obj (putObj w2 w.heap.size (.cells #[.int .i64 0, .int .i64 0, .int .i64 0] 32)) w.heap.size = some (.cells #[.int .i64 0, .int .i64 0, .int .i64 0] 32 (0, 0)) := obj_putObj_eq _ _ _ z2
  refine bodyPost_ret (results_cell_tmp rfl _ rfl (by rw [run_load32, oo]; rfl)) rfl ?_
  exact ⟨rfl, below_putObj B2.out (Nat.le_refl _) _⟩
set_option maxRecDepth 100000 in
set_option maxHeartbeats 2000000 in
theorem ref_expire (w : World) (G : Nat → Prop) (rb : Nat) (S : RefD) (W : List AskD) (i : Nat) (hi : i < W.length) (h : RefK w G rb S W) (hn : (W.map (·.id)).Nodup) (hlen : W.length ≤ 100000) (h0 : 0 ≤ S.exp) (h0' : S.exp < 4611686018427387904) :
    Calls Try.prog 34 #[.pointer (some ⟨rb, 0, none⟩), .int .i64 W[i].id] w fun e w' => e = .returned (.tuple #[akV W[i], .int .i64 0]) ∧ Keeps (fun n => n = rb) w w' ∧ RefIn w' w.heap.size rb { S with exp := S.exp + 1 } (W.eraseIdx i) := by
  have b1 : Below w.heap.size w (w.alloc (.cells #[.int .i64 0, .int .i64 0, .int .i64 0] 32)) := (Below.refl _ w).alloc (Nat.le_refl _) _
  have o1 : obj (w.alloc (.cells #[.int .i64 0, .int .i64 0, .int .i64 0] 32)) w.heap.size = some (.cells #[.int .i64 0, .int .i64 0, .int .i64 0] 32 (0, 0)) := obj_alloc_at _ _ _ rfl
  have hr1 := h.below b1
  have HF := Lib.hid (find_ref _ G rb S W W[i].id hr1)
  rw [findA_pos hi hn] at HF
  have hlt := h.lt
  have HR1 := Lib.hid hr1
  have HG := fun W' (hr : RefK W' G rb { S with exp := S.exp + 1 } W) => Lib.hid (gone_ref W' G rb _ W i hr hi hlen)
  have hw : IntKind.i64.wrap (S.exp + 1) = S.exp + 1 := by simp [IntKind.wrap, IntKind.signed, IntKind.bits]; omega
  clear h hn hr1
  generalize W[i] = x at *
  go_enter Try.func34, Try.ntmps34
  go_wp2_with fail
  generalize w.alloc (.cells #[.int .i64 0, .int .i64 0, .int .i64 0] 32) = w1 at *
  refine HF.out.mono ?_
  rintro e w2 ⟨rfl, b2⟩
  have o2 := (obj_below b2 (lt_of_obj o1)).trans o1
  have hr2 := HR1.out.below b2
  have HU := Lib.hid (hr2.upd (S' := { S with exp := S.exp + 1 }) (i := 5) (u := .int .i64 (S.exp + 1)) (fun _ => rfl))
  have B2 := Lib.hid (b1.trans (b2.mono b1.size))
  obtain ⟨v, q1, _, _⟩ := hr2
  have c5 : w2.cell? ⟨rb, 5, none⟩ = some (.int .i64 S.exp) := cell_at q1 5
  have fz := frozen_at q1
  have zr := lt_of_obj q1
  have O2 := Lib.hid o2
  clear b1 b2 o1 q1 o2
  go_wp2_with fail
  refine (HG _ HU.out.1).out.mono ?_
  have o3 : obj (w2.setCell ⟨rb, 5, none⟩ (.int .i64 (S.exp + 1))) w.heap.size = some (.cells #[.int .i64 0, .int .i64 0, .int .i64 0] 32 (0, 0)) := (obj_setCell_ne _ _ _ _ (by simp only; omega)).trans O2.out
  have hzw3 : (w2.setCell ⟨rb, 5, none⟩ (.int .i64 (S.exp + 1))).heap.size = w2.heap.size := by simp
  have K3 := Lib.hid ((Keeps.of_below (F := fun n => n = rb) B2.out).trans HU.out.2)
  generalize w2.setCell ⟨rb, 5, none⟩ (.int .i64 (S.exp + 1)) = w3 at *
  rintro e w4 ⟨rfl, k4, r4⟩
  have zz := lt_of_obj o3
  have o4 := (k4.block _ zz (by omega)).trans o3
  have z4 := lt_of_obj o4
  have K4 := Lib.hid (K3.out.trans k4)
  have R4 := Lib.hid r4
  clear k4 r4
  go_wp2
  have oo : obj (putObj w4 w.heap.size (.cells #[.int .i64 x.id, .int .i64 x.node, .int .i64 x.kind] 32)) w.heap.size = some (.cells #[.int .i64 x.id, .int .i64 x.node, .int .i64 x.kind] 32 (0, 0)) := obj_putObj_eq _ _ _ z4
  refine bodyPost_ret (results_cell_tmp rfl _ rfl (by rw [run_load32, oo]; rfl)) rfl ?_
  exact ⟨rfl, ⟨K4.out.os, K4.out.tape, K4.out.output, by rw [size_putObj]; exact K4.out.size, fun n hn hne => (obj_putObj_ne _ _ _ _ (by omega)).trans (K4.out.block n hn hne)⟩, (R4.out.putNew zz (by omega) _).low (by omega)⟩
/-! ### Answer -/
set_option maxRecDepth 100000 in
set_option maxHeartbeats 1000000 in
theorem ref_answer_none (w : World) (G : Nat → Prop) (rb : Nat) (S : RefD) (W : List AskD) (nd q kd : Int) (h : RefK w G rb S W) (hq : ∀ a ∈ W, a.id ≠ q) :
    Calls Try.prog 33 #[.pointer (some ⟨rb, 0, none⟩), .int .i64 nd, .int .i64 q, .int .i64 kd] w fun e w' => e = .returned (.tuple #[akV ⟨0, 0, 0⟩, .int .i64 4]) ∧ Below w.heap.size w w' := by
  have b1 : Below w.heap.size w (w.alloc (.cells #[.int .i64 0, .int .i64 0, .int .i64 0] 32)) := (Below.refl _ w).alloc (Nat.le_refl _) _
  have o1 : obj (w.alloc (.cells #[.int .i64 0, .int .i64 0, .int .i64 0] 32)) w.heap.size = some (.cells #[.int .i64 0, .int .i64 0, .int .i64 0] 32 (0, 0)) := obj_alloc_at _ _ _ rfl
  have HF := Lib.hid (find_ref _ G rb S W q (h.below b1))
  rw [findA_neg hq] at HF
  clear h hq
  go_enter Try.func33, Try.ntmps33
  go_wp2_with fail
  refine HF.out.mono ?_
  rintro e w2 ⟨rfl, b2⟩
  have o2 := (obj_below b2 (lt_of_obj o1)).trans o1
  have z2 := lt_of_obj o2
  have B2 := Lib.hid (b1.trans (b2.mono b1.size))
  clear b1 b2 o1
  go_wp2
  have oo : obj (putObj w2 w.heap.size (.cells #[.int .i64 0, .int .i64 0, .int .i64 0] 32)) w.heap.size = some (.cells #[.int .i64 0, .int .i64 0, .int .i64 0] 32 (0, 0)) := obj_putObj_eq _ _ _ z2
  refine bodyPost_ret (results_cell_tmp rfl _ rfl (by rw [run_load32, oo]; rfl)) rfl ?_
  exact ⟨rfl, below_putObj B2.out (Nat.le_refl _) _⟩
set_option maxRecDepth 100000 in
set_option maxHeartbeats 1000000 in
theorem ref_answer_bad (w : World) (G : Nat → Prop) (rb : Nat) (S : RefD) (W : List AskD) (nd kd : Int) (i : Nat) (hi : i < W.length) (h : RefK w G rb S W) (hn : (W.map (·.id)).Nodup) (hne : W[i].node ≠ nd ∨ replyOf W[i].kind ≠ kd) :
    Calls Try.prog 33 #[.pointer (some ⟨rb, 0, none⟩), .int .i64 nd, .int .i64 W[i].id, .int .i64 kd] w fun e w' => e = .returned (.tuple #[akV ⟨0, 0, 0⟩, .int .i64 4]) ∧ Below w.heap.size w w' := by
  have b1 : Below w.heap.size w (w.alloc (.cells #[.int .i64 0, .int .i64 0, .int .i64 0] 32)) := (Below.refl _ w).alloc (Nat.le_refl _) _
  have o1 : obj (w.alloc (.cells #[.int .i64 0, .int .i64 0, .int .i64 0] 32)) w.heap.size = some (.cells #[.int .i64 0, .int .i64 0, .int .i64 0] 32 (0, 0)) := obj_alloc_at _ _ _ rfl
  have HF := Lib.hid (find_ref _ G rb S W W[i].id (h.below b1))
  rw [findA_pos hi hn] at HF
  have HRY := fun w => Lib.hid (ref_reply_same W[i].kind w)
  obtain ⟨v0, h10, h20, _⟩ := h.below b1
  have HSL := Lib.hid (h20.slIn akL_length)
  obtain ⟨oa, cap, ev⟩ := h20.slice
  subst ev
  have HB0 := Lib.hid h10
  have hrow0 : Hid (∃ b off, oa = some ⟨b, off, none⟩ ∧ b < (w.alloc (.cells #[.int .i64 0, .int .i64 0, .int .i64 0] 32)).heap.size ∧ subOf (obj (w.alloc (.cells #[.int .i64 0, .int .i64 0, .int .i64 0] 32)) b) (off + i * 3) 3 = some (akL W[i]).toArray) := Lib.hid (by
    obtain ⟨_, _, e, _, _, g3⟩ := HSL.out
    simp only [Value.slice.injEq] at e
    obtain ⟨rfl, _, rfl⟩ := e
    obtain ⟨b, off, e2, e3, e4⟩ := g3 (by omega)
    exact ⟨b, off, e2, e3, e4 i hi⟩)
  clear h hn h10 h20 HSL
  generalize W[i] = x at *
  generalize replyOf x.kind = rk at *
  have hil : (i : Int) < (W.length : Int) := by omega
  go_enter Try.func33, Try.ntmps33
  go_wp2_with fail
  refine HF.out.mono ?_
  rintro e w2 ⟨rfl, b2⟩
  have o2 := (obj_below b2 (lt_of_obj o1)).trans o1
  have z2 := lt_of_obj o2
  have B2 := Lib.hid (b1.trans (b2.mono b1.size))
  have b2' := b2
  clear b1 b2 o1
  have q1 := (obj_below b2' (lt_of_obj HB0.out)).trans HB0.out
  obtain ⟨b, off, rfl, hbb, hs0⟩ := hrow0.out
  rw [← obj_below b2' hbb] at hs0
  have hb2 : b < w2.heap.size := Nat.lt_of_lt_of_le hbb b2'.size
  simp only [akL] at hs0
  have hx1 := subOf_cell hs0 (j := 1) (by decide)
  have hx2 := subOf_cell hs0 (j := 2) (by decide)
  simp only [List.getElem?_toArray, List.getElem?_cons_zero, List.getElem?_cons_succ] at hx1 hx2
  have c2 : w2.cell? ⟨rb, 2, none⟩ = some (.slice (some ⟨b, off, none⟩) W.length cap) := cell_at q1 2
  have zr := lt_of_obj q1
  clear q1 b2' hs0
  by_cases hd : x.node = nd
  · have hk : rk ≠ kd := hne.resolve_left (fun h => h hd)
    have hq1 : (x.node != nd) = false := by simp [hd]
    have hq2 : (rk != kd) = true := by simpa using hk
    go_wp2_with fail
    refine (HRY _).out.mono ?_
    rintro e w9 ⟨rfl, hw9⟩
    cases hw9
    go_wp2
    have oo : obj (putObj w2 w.heap.size (.cells #[.int .i64 0, .int .i64 0, .int .i64 0] 32)) w.heap.size = some (.cells #[.int .i64 0, .int .i64 0, .int .i64 0] 32 (0, 0)) := obj_putObj_eq _ _ _ z2
    refine bodyPost_ret (results_cell_tmp rfl _ rfl (by rw [run_load32, oo]; rfl)) rfl ?_
    exact ⟨rfl, below_putObj B2.out (Nat.le_refl _) _⟩
  · have hq1 : (x.node != nd) = true := by simpa using hd
    go_wp2
    have oo : obj (putObj w2 w.heap.size (.cells #[.int .i64 0, .int .i64 0, .int .i64 0] 32)) w.heap.size = some (.cells #[.int .i64 0, .int .i64 0, .int .i64 0] 32 (0, 0)) := obj_putObj_eq _ _ _ z2
    refine bodyPost_ret (results_cell_tmp rfl _ rfl (by rw [run_load32, oo]; rfl)) rfl ?_
    exact ⟨rfl, below_putObj B2.out (Nat.le_refl _) _⟩
set_option maxRecDepth 100000 in
set_option maxHeartbeats 2000000 in
theorem ref_answer (w : World) (G : Nat → Prop) (rb : Nat) (S : RefD) (W : List AskD) (kd : Int) (i : Nat) (hi : i < W.length) (h : RefK w G rb S W) (hn : (W.map (·.id)).Nodup) (hlen : W.length ≤ 100000) (hk : replyOf W[i].kind = kd) (h0 : 0 ≤ S.ans) (h0' : S.ans < 4611686018427387904) :
    Calls Try.prog 33 #[.pointer (some ⟨rb, 0, none⟩), .int .i64 W[i].node, .int .i64 W[i].id, .int .i64 kd] w fun e w' => e = .returned (.tuple #[akV W[i], .int .i64 0]) ∧ Keeps (fun n => n = rb) w w' ∧ RefIn w' w.heap.size rb { S with ans := S.ans + 1 } (W.eraseIdx i) := by
  have b1 : Below w.heap.size w (w.alloc (.cells #[.int .i64 0, .int .i64 0, .int .i64 0] 32)) := (Below.refl _ w).alloc (Nat.le_refl _) _
  have o1 : obj (w.alloc (.cells #[.int .i64 0, .int .i64 0, .int .i64 0] 32)) w.heap.size = some (.cells #[.int .i64 0, .int .i64 0, .int .i64 0] 32 (0, 0)) := obj_alloc_at _ _ _ rfl
  have hr1 := h.below b1
  have HF := Lib.hid (find_ref _ G rb S W W[i].id hr1)
  rw [findA_pos hi hn] at HF
  have hlt := h.lt
  have HRY := fun w => Lib.hid (ref_reply_same W[i].kind w)
  rw [hk] at HRY
  obtain ⟨v0, _, h20, _⟩ := id hr1
  have HSL := Lib.hid (h20.slIn akL_length)
  obtain ⟨oa, cap, ev⟩ := h20.slice
  subst ev
  have HB0 := Lib.hid ‹obj _ rb = _›
  have hrow0 : Hid (∃ b off, oa = some ⟨b, off, none⟩ ∧ b < (w.alloc (.cells #[.int .i64 0, .int .i64 0, .int .i64 0] 32)).heap.size ∧ subOf (obj (w.alloc (.cells #[.int .i64 0, .int .i64 0, .int .i64 0] 32)) b) (off + i * 3) 3 = some (akL W[i]).toArray) := Lib.hid (by
    obtain ⟨_, _, e, _, _, g3⟩ := HSL.out
    simp only [Value.slice.injEq] at e
    obtain ⟨rfl, _, rfl⟩ := e
    obtain ⟨b, off, e2, e3, e4⟩ := g3 (by omega)
    exact ⟨b, off, e2, e3, e4 i hi⟩)
  have HR1 := Lib.hid hr1
  have HG := fun W' (hr : RefK W' G rb { S with ans := S.ans + 1 } W) => Lib.hid (gone_ref W' G rb _ W i hr hi hlen)
  have hw : IntKind.i64.wrap (S.ans + 1) = S.ans + 1 := by simp [IntKind.wrap, IntKind.signed, IntKind.bits]; omega
  clear h hn hr1 h20 hk HSL
  generalize W[i] = x at *
  go_enter Try.func33, Try.ntmps33
  go_wp2_with fail
  generalize w.alloc (.cells #[.int .i64 0, .int .i64 0, .int .i64 0] 32) = w1 at *
  refine HF.out.mono ?_
  rintro e w2 ⟨rfl, b2⟩
  have o2 := (obj_below b2 (lt_of_obj o1)).trans o1
  have hr2 := HR1.out.below b2
  have HU := Lib.hid (hr2.upd (S' := { S with ans := S.ans + 1 }) (i := 4) (u := .int .i64 (S.ans + 1)) (fun _ => rfl))
  have B2 := Lib.hid (b1.trans (b2.mono b1.size))
  have q1 := (obj_below b2 (lt_of_obj HB0.out)).trans HB0.out
  obtain ⟨b, off, rfl, hbb, hs0⟩ := hrow0.out
  rw [← obj_below b2 hbb] at hs0
  have hb2 : b < w2.heap.size := Nat.lt_of_lt_of_le hbb b2.size
  simp only [akL] at hs0
  have hx1 := subOf_cell hs0 (j := 1) (by decide)
  have hx2 := subOf_cell hs0 (j := 2) (by decide)
  simp only [List.getElem?_toArray, List.getElem?_cons_zero, List.getElem?_cons_succ] at hx1 hx2
  have c2 : w2.cell? ⟨rb, 2, none⟩ = some (.slice (some ⟨b, off, none⟩) W.length cap) := cell_at q1 2
  have hq1 : (x.node != x.node) = false := by simp
  have hq2 : (kd != kd) = false := by simp
  have hil : (i : Int) < (W.length : Int) := by omega
  clear hr2
  have c5 : w2.cell? ⟨rb, 4, none⟩ = some (.int .i64 S.ans) := cell_at q1 4
  have fz := frozen_at q1
  have zr := lt_of_obj q1
  have O2 := Lib.hid o2
  clear b1 b2 o1 q1 o2
  go_wp2_with fail
  refine (HRY _).out.mono ?_
  rintro e w9 ⟨rfl, hw9⟩
  cases hw9
  go_wp2_with fail
  refine (HG _ HU.out.1).out.mono ?_
  have o3 : obj (w2.setCell ⟨rb, 4, none⟩ (.int .i64 (S.ans + 1))) w.heap.size = some (.cells #[.int .i64 0, .int .i64 0, .int .i64 0] 32 (0, 0)) := (obj_setCell_ne _ _ _ _ (by simp only; omega)).trans O2.out
  have hzw3 : (w2.setCell ⟨rb, 4, none⟩ (.int .i64 (S.ans + 1))).heap.size = w2.heap.size := by simp
  have K3 := Lib.hid ((Keeps.of_below (F := fun n => n = rb) B2.out).trans HU.out.2)
  generalize w2.setCell ⟨rb, 4, none⟩ (.int .i64 (S.ans + 1)) = w3 at *
  rintro e w4 ⟨rfl, k4, r4⟩
  have zz := lt_of_obj o3
  have o4 := (k4.block _ zz (by omega)).trans o3
  have z4 := lt_of_obj o4
  have K4 := Lib.hid (K3.out.trans k4)
  have R4 := Lib.hid r4
  clear k4 r4
  go_wp2
  have oo : obj (putObj w4 w.heap.size (.cells #[.int .i64 x.id, .int .i64 x.node, .int .i64 x.kind] 32)) w.heap.size = some (.cells #[.int .i64 x.id, .int .i64 x.node, .int .i64 x.kind] 32 (0, 0)) := obj_putObj_eq _ _ _ z4
  refine bodyPost_ret (results_cell_tmp rfl _ rfl (by rw [run_load32, oo]; rfl)) rfl ?_
  exact ⟨rfl, ⟨K4.out.os, K4.out.tape, K4.out.output, by rw [size_putObj]; exact K4.out.size, fun n hn hne => (obj_putObj_ne _ _ _ _ (by omega)).trans (K4.out.block n hn hne)⟩, (R4.out.putNew zz (by omega) _).low (by omega)⟩
end Go.Proofs.Ytnaknoebjbmboaa
