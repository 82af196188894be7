import Derived.Test.YtagpclgappcnbaaGreatAlN
import Derived.Test.YtagpclgappcnbaaGreatRange
import Derived.Deep.Onto
namespace Go.Proofs.YtagpclgappcnbaaGreat.Al
open Go.RowKit

/-! ### the document's heap: its alarms in order, in a slice of its own -/
def RefAt (w : World) (G : Nat → Prop) (rb : Nat) (W : List Al) : Prop := ∃ v, obj w rb = some (.cells #[v] 89 (0, 0)) ∧ OwnS w 0 114 2 alL v W ∧ ∀ n, v.ownBlock = some n → G n
theorem RefAt.lt {w : World} {G : Nat → Prop} {rb : Nat} {W : List Al} (h : RefAt w G rb W) : rb < w.heap.size := by
  obtain ⟨v, h1, _⟩ := h
  exact lt_of_obj h1
theorem RefAt.below {w w' : World} {G : Nat → Prop} {rb : Nat} {W : List Al} (h : RefAt w G rb W) (hb : Below w.heap.size w w') : RefAt w' G rb W := by
  obtain ⟨v, h1, h2, h3⟩ := h
  exact ⟨v, (obj_below hb (lt_of_obj h1)).trans h1, h2.below hb, h3⟩
def findI (W : List Al) (k : Int) : Int := if W.any (fun x => x.2 == k) then (W.findIdx (fun x => x.2 == k) : Nat) else -1
theorem findI_hit {xs : List Al} {q : Int} {k : Nat} (h : k < xs.length) (hn : ∀ j (hj : j < xs.length), j < k → (xs[j].2 == q) = false) (e : (xs[k].2 == q) = true) : findI xs q = k := by
  unfold findI
  rw [if_pos (by rw [List.any_eq_true]; exact ⟨xs[k], by simp, e⟩), List.findIdx_eq h |>.2 ⟨e, fun j hj => by simpa using hn j (by omega) hj⟩]
theorem findI_miss {xs : List Al} {q : Int} (hn : ∀ j (hj : j < xs.length), j < xs.length → (xs[j].2 == q) = false) : findI xs q = -1 := by
  unfold findI
  rw [if_neg]
  intro h
  rw [List.any_eq_true] at h
  obtain ⟨x, hx, e⟩ := h
  obtain ⟨j, hj, rfl⟩ := List.getElem_of_mem hx
  rw [hn j hj hj] at e
  cases e
set_option maxRecDepth 100000 in
set_option maxHeartbeats 1000000 in
theorem find_ref (w : World) (G : Nat → Prop) (rb : Nat) (W : List Al) (q : Int) (h : RefAt w G rb W) :
    Calls Tryz.prog 86 #[.pointer (some ⟨rb, 0, none⟩), .int .i64 q] w fun e w' => e = .returned (.int .i64 (findI W q)) ∧ Below w.heap.size w w' := by
  obtain ⟨v, h1, h2, h3⟩ := h
  obtain ⟨oa, cap, rfl, g1, g2, g3⟩ := h2.slIn alL_length
  unfold maxLen at g2
  have H1 := Lib.hid h1
  have H3 := Lib.hid g3
  have hz := lt_of_obj h1
  clear h1 h2 h3 g3
  go_enter Tryz.func86, Tryz.ntmps86
  go_wp2
  go_loopw [5] (fun v5 wr => ∃ k : Nat, k ≤ W.length ∧ v5 = .int .i64 k ∧ Hid (∀ j (h1 : j < W.length), j < k → (W[j].2 == q) = false) ∧ Hid (Below w.heap.size w wr)) (fun i _ => W.length - (intOf i).toNat)
  case atStart => exact ⟨0, Nat.zero_le _, rfl, Lib.hid (by omega), Lib.hid (Below.refl _ w)⟩
  case round =>
    obtain ⟨k, hk, rfl, HK, HB⟩ := hrel
    have ob := (obj_below HB.out hz).trans H1.out
    have c0 : wr.cell? ⟨rb, 0, none⟩ = some (.slice oa W.length cap) := cell_at ob 0
    have hzr := lt_of_obj ob
    clear ob
    by_cases hlt : k < W.length
    · obtain ⟨b, off, hoa, hbb, hrow⟩ := H3.out (by omega)
      subst hoa
      have hs1 := hrow k hlt
      rw [← obj_below HB.out hbb] at hs1
      have hbl : b < wr.heap.size := Nat.lt_of_lt_of_le hbb HB.out.size
      have c1 := subOf_cell hs1 (j := 1) (by decide)
      simp only [alL, List.getElem?_toArray, List.getElem?_cons_succ, List.getElem?_cons_zero] at c1
      have NX : Hid ((W[k].2 == q) = false → ∀ j (h1 : j < W.length), j < k + 1 → (W[j].2 == q) = false) := Lib.hid (fun h j h1 hlt' => by
          by_cases e : j = k
          · subst e; exact h
          · exact HK.out j h1 (by omega))
      have NO : Hid ((W[k].2 == q) = true → findI W q = k) := Lib.hid (fun h => findI_hit hlt HK.out h)
      generalize W[k].2 = x at *
      clear hrow hs1
      cases hr : (x == q)
      · go_wp2
        go_roundw
        case rel => exact ⟨k + 1, by omega, by go_num, Lib.hid (NX.out hr), HB⟩
        case measure => simp [intOf]; omega
      · go_wp2
        go_ret
        exact ⟨ret_int (NO.out hr).symm, HB.out⟩
    · have hk' : k = W.length := by omega
      subst hk'
      go_wp2
      go_ret
      exact ⟨ret_int (findI_miss HK.out).symm, HB.out⟩
/-! ### less, as the document has it -/
set_option maxRecDepth 100000 in
theorem lessR_any (w : World) (a b : Al) : Calls Tryz.prog 133 #[alV a, alV b] w fun e w' => e = .returned (.bool (alLt a b)) ∧ Below w.heap.size w w' := by
  have HB : Hid (alLt a b = (decide (a.1 < b.1) || ((a.1 == b.1) && decide (a.2 < b.2)))) := Lib.hid (by unfold alLt; congr 2)
  have hb : Below w.heap.size w ((w.alloc (.cells #[.int .i64 a.1, .int .i64 a.2] 114)).alloc (.cells #[.int .i64 b.1, .int .i64 b.2] 114)) := ((Below.refl _ w).alloc (Nat.le_refl _) _).alloc (by simp) _
  obtain ⟨a1, a2⟩ := a
  obtain ⟨b1, b2⟩ := b
  simp only at HB hb
  cases h1 : decide (a1 < b1)
  · cases h2 : a1 == b1
    · go_enter Tryz.func133, Tryz.ntmps133
      go_wp2
      go_ret
      exact ⟨ret_bool (by rw [HB.out, h1, h2]; rfl), hb⟩
    · go_enter Tryz.func133, Tryz.ntmps133
      go_wp2
      go_ret
      exact ⟨ret_bool (by rw [HB.out, h1, h2]; rfl), hb⟩
  · go_enter Tryz.func133, Tryz.ntmps133
    go_wp2
    go_ret
    exact ⟨ret_bool (by rw [HB.out, h1]; rfl), hb⟩
end Go.Proofs.YtagpclgappcnbaaGreat.Al
namespace Go.Proofs.YtagpclgappcnbaaGreat.Al
open Go.RowKit

end Go.Proofs.YtagpclgappcnbaaGreat.Al
namespace Go.Proofs.YtagpclgappcnbaaGreat
open Go.RowKit
open Go.Proofs.YtagpclgappcnbaaGreat.Al
theorem OwnS.lower {α : Type} {w : World} {base base' E k : Nat} {enc : α → List Value} {v : Value} {xs : List α} (h : OwnS w base E k enc v xs) (hb : base' ≤ base) : OwnS w base' E k enc v xs := ⟨h.1.mono hb, h.2⟩
end Go.Proofs.YtagpclgappcnbaaGreat
namespace Go.Proofs.YtagpclgappcnbaaGreat.Al
open Go.RowKit
def RefIn (w : World) (base rb : Nat) (W : List Al) : Prop := ∃ v, obj w rb = some (.cells #[v] 89 (0, 0)) ∧ OwnS w base 114 2 alL v W
theorem RefIn.putNew {w : World} {base rb m : Nat} {W : List Al} (h : RefIn w base rb W) (hm : m < base) (hr : m ≠ rb) (o : Obj) : RefIn (putObj w m o) base rb W := by
  obtain ⟨v, h1, h2⟩ := h
  refine ⟨v, (obj_putObj_ne _ _ _ _ (Ne.symm hr)).trans h1, h2.keeps fun g hg => obj_putObj_ne _ _ _ _ ?_⟩
  have := (h2.1.lt g hg).1
  omega
theorem RefIn.at_ {w : World} {B rb : Nat} {G : Nat → Prop} {W : List Al} (h : RefIn w B rb W) (hG : ∀ n, B ≤ n → G n) : RefAt w G rb W := by
  obtain ⟨v, h1, h2⟩ := h
  exact ⟨v, h1, h2.lower (Nat.zero_le _), fun n hn => hG n (h2.1.lt n hn).1⟩
theorem RefAt.keeps_box {w wr : World} {G : Nat → Prop} {rb : Nat} {W X : List Al} {v : Value} (h : RefAt w G rb W) (hb : Below w.heap.size w wr) (ho : OwnS wr w.heap.size 114 2 alL v X) (hG : ∀ n, w.heap.size ≤ n → G n) :
    RefAt (wr.setCell ⟨rb, 0, none⟩ v) G rb X ∧ Keeps (fun n => n = rb) w (wr.setCell ⟨rb, 0, none⟩ v) ∧ RefIn (wr.setCell ⟨rb, 0, none⟩ v) w.heap.size rb X := by
  obtain ⟨v0, h1, h2, h3⟩ := h
  have hz := lt_of_obj h1
  have ob := (obj_below hb hz).trans h1
  have key : RefIn (wr.setCell ⟨rb, 0, none⟩ v) w.heap.size rb X := by
    refine ⟨v, obj_setCell_at _ ob, ho.keeps fun g hg => ?_⟩
    have h4 := ho.1.lt g hg
    exact obj_setCell_ne _ _ _ _ (by simp only; omega)
  exact ⟨key.at_ hG, (Keeps.of_below (F := fun n => n = rb) hb).setCell (a := ⟨rb, 0, none⟩) (.inl rfl) _, key⟩
set_option maxRecDepth 100000 in
set_option maxHeartbeats 1000000 in
theorem gone_ref (w : World) (G : Nat → Prop) (rb : Nat) (W : List Al) (i : Nat) (h : RefAt w G rb W) (hi : i < W.length) (hlen : W.length ≤ 100000) (hG : ∀ n, w.heap.size ≤ n → G n) :
    Calls Tryz.prog 119 #[.pointer (some ⟨rb, 0, none⟩), .int .i64 i] w fun e w' => (∃ v, e = .returned v) ∧ RefAt w' G rb (W.eraseIdx i) ∧ Keeps (fun n => n = rb) w w' ∧ RefIn w' w.heap.size rb (W.eraseIdx i) := by
  have HR := Lib.hid h
  obtain ⟨v, h1, h2, h3⟩ := h
  obtain ⟨oa, cap, rfl, g1, g2, g3⟩ := h2.slIn alL_length
  unfold maxLen at g2
  have H1 := Lib.hid h1
  have H3 := Lib.hid g3
  have hz := lt_of_obj h1
  have hrow29 := run_row29
  have hend : (W.take W.length).eraseIdx i = W.eraseIdx i := by rw [List.take_length]
  have HEND := Lib.hid hend
  have HGG := Lib.hid hG
  clear h1 h2 h3 g3 hend hG
  go_enter Tryz.func119, Tryz.ntmps119
  go_wp2
  go_loopw [4, 5] (fun v4 v5 wr => ∃ k : Nat, k ≤ W.length ∧ v5 = .int .i64 k ∧ Hid (OwnS wr w.heap.size 114 2 alL v4 ((W.take k).eraseIdx i)) ∧ Hid (Below w.heap.size w wr)) (fun _ i _ => W.length - (intOf i).toNat)
  case atStart => exact ⟨0, Nat.zero_le _, rfl, Lib.hid (by simpa using OwnS.nil _ _ _ _ _), Lib.hid (Below.refl _ w)⟩
  case round =>
    obtain ⟨k, hk, rfl, HO, HB⟩ := hrel
    have ob := (obj_below HB.out hz).trans H1.out
    have c0 : wr.cell? ⟨rb, 0, none⟩ = some (.slice oa W.length cap) := cell_at ob 0
    have hzr := lt_of_obj ob
    by_cases hlt : k < W.length
    · obtain ⟨b, off, hoa, hbb, hrow⟩ := H3.out (by omega)
      subst hoa
      have hs1 := hrow k hlt
      rw [← obj_below HB.out hbb] at hs1
      have hbl : b < wr.heap.size := Nat.lt_of_lt_of_le hbb HB.out.size
      by_cases hki : k = i
      · subst hki
        have hq : ((k : Int) != (k : Int)) = false := by simp
        have HN : Hid (OwnS wr w.heap.size 114 2 alL u4 ((W.take (k + 1)).eraseIdx k)) := Lib.hid (by
          have := HO.out
          rw [List.eraseIdx_of_length_le (by simp; omega)] at this
          rw [take_snocA hlt, List.eraseIdx_append_of_length_le (by simp; omega)]
          simpa [show min k W.length = k by omega] using this)
        clear ob hrow hs1 HO
        go_wp2
        go_roundw
        case rel => exact ⟨k + 1, by omega, by go_num, HN, HB⟩
        case measure => simp [intOf]; omega
      · have hq : ((k : Int) != (i : Int)) = true := by simp; omega
        have HE : Hid ((W.take (k + 1)).eraseIdx i = (W.take k).eraseIdx i ++ [W[k]]) := Lib.hid (by
          rw [take_snocA hlt]
          by_cases h : i < k
          · rw [List.eraseIdx_append_of_lt_length (by simp; omega)]
          · rw [List.eraseIdx_of_length_le (by simp; omega), List.eraseIdx_of_length_le (by simp; omega)])
        have hln : ((W.take k).eraseIdx i).length ≤ 1048576 := by
          have := List.length_eraseIdx_le (l := W.take k) (i := i)
          simp at this
          omega
        generalize W[k] = x at *
        obtain ⟨x1, x2⟩ := x
        have hbase : w.heap.size ≤ (wr.alloc (.cells #[.int .i64 x1, .int .i64 x2] 114)).heap.size := by have := HB.out.size; simp; omega
        clear ob hrow
        go_wp2_with (at_builtin; refine push32 rfl _ _ rfl w.heap.size _ _ (x1, x2) rfl (HO.out.alloc _) wr.heap.size rfl (obj_alloc_at _ _ _ rfl) hln hbase ?_; intro v' w5 hown5 hb5 _)
        have HB5 := Lib.hid ((HB.out.alloc (by have := HB.out.size; omega) (.cells #[.int .i64 x1, .int .i64 x2] 114)).trans hb5)
        have HO5 := Lib.hid hown5
        rw [← HE.out] at HO5
        clear hown5 hb5
        go_wp2
        go_roundw
        case rel => exact ⟨k + 1, by omega, by go_num, HO5, HB5⟩
        case measure => simp [intOf]; omega
    · have hk' : k = W.length := by omega
      subst hk'
      obtain ⟨oz, cz, rfl⟩ := HO.out.slice
      have HX := Lib.hid (HR.out.keeps_box HB.out HO.out HGG.out)
      rw [HEND.out] at HX
      have fz := frozen_at ob
      clear ob HO
      go_wp2
      go_end0
      exact ⟨⟨_, rfl⟩, HX.out.1, HX.out.2.1, HX.out.2.2⟩
end Go.Proofs.YtagpclgappcnbaaGreat.Al
namespace Go.Proofs.YtagpclgappcnbaaGreat.Al
open Go.RowKit

def putR (a : Al) (W : List Al) (k : Nat) (d : Bool) : List Al := if d then W.drop k else insL a (W.drop k)
theorem putR_zero (a : Al) (W : List Al) : putR a W 0 false = insL a W := by simp [putR]
theorem drop_cons {W : List Al} {k : Nat} (h : k < W.length) : W.drop k = W[k] :: W.drop (k + 1) := (List.drop_eq_getElem_cons h)
theorem putR_in {a : Al} {W : List Al} {k : Nat} (h : k < W.length) (hl : alLt a W[k] = true) : putR a W k false = a :: W[k] :: putR a W (k + 1) true := by
  simp only [putR, Bool.false_eq_true, if_false, if_true]
  rw [drop_cons h]
  unfold insL
  rw [if_pos hl]
theorem putR_no {a : Al} {W : List Al} {k : Nat} (h : k < W.length) (hl : alLt a W[k] = false) : putR a W k false = W[k] :: putR a W (k + 1) false := by
  simp only [putR, Bool.false_eq_true, if_false]
  rw [drop_cons h]
  conv => lhs; unfold insL
  rw [if_neg (by rw [hl]; simp)]
theorem putR_yes {a : Al} {W : List Al} {k : Nat} (h : k < W.length) : putR a W k true = W[k] :: putR a W (k + 1) true := by
  simp only [putR, if_true]
  exact drop_cons h
theorem putR_end (a : Al) (W : List Al) (d : Bool) : putR a W W.length d = if d then [] else [a] := by
  cases d <;> simp [putR, insL]
set_option maxRecDepth 100000 in
set_option maxHeartbeats 2000000 in
theorem put_ref (w : World) (G : Nat → Prop) (rb : Nat) (W : List Al) (a : Al) (h : RefAt w G rb W) (hlen : W.length ≤ 100000) (hG : ∀ n, w.heap.size ≤ n → G n) :
    Calls Tryz.prog 118 #[.pointer (some ⟨rb, 0, none⟩), alV a] w fun e w' => (∃ v, e = .returned v) ∧ RefAt w' G rb (insL a W) ∧ Keeps (fun n => n = rb) w w' := by
  have b0 : Below w.heap.size w (w.alloc (.cells (alL a).toArray 114)) := (Below.refl _ w).alloc (Nat.le_refl _) _
  have hp := h.below b0
  have HR := Lib.hid hp
  have HGG : Hid (∀ n, (w.alloc (.cells (alL a).toArray 114)).heap.size ≤ n → G n) := Lib.hid (fun n hn => hG n (Nat.le_trans b0.size hn))
  have K0 := Lib.hid (Keeps.of_below (F := fun n => n = rb) b0)
  obtain ⟨v, h1, h2, h3⟩ := hp
  obtain ⟨oa, cap, rfl, g1, g2, g3⟩ := h2.slIn alL_length
  unfold maxLen at g2
  have H1 := Lib.hid h1
  have H3 := Lib.hid g3
  have hz := lt_of_obj h1
  have hrow29 := run_row29
  have o3 : obj (w.alloc (.cells (alL a).toArray 114)) w.heap.size = some (.cells (alL a).toArray 114 (0, 0)) := obj_alloc_at _ _ _ rfl
  have O3 := Lib.hid o3
  have HP := Lib.hid (fun k (hk : k < W.length) => And.intro (putR_in (a := a) hk) (And.intro (putR_no (a := a) hk) (putR_yes (a := a) hk)))
  have HPE := Lib.hid (putR_end a W)
  have HPZ := Lib.hid (putR_zero a W)
  obtain ⟨a1, a2⟩ := a
  simp only [alL] at O3 HR K0 H1 H3 hz HGG
  clear h1 h2 h3 g3 h b0 o3 hG
  go_enter Tryz.func118, Tryz.ntmps118
  go_wp2
  generalize w.alloc (.cells #[.int .i64 a1, .int .i64 a2] 114) = w0 at *
  generalize w.heap.size = ab at *
  have hza := lt_of_obj O3.out
  go_loopw [4, 5, 6] (fun v4 v5 v6 wr => ∃ (k : Nat) (d : Bool) (O : List Al), k ≤ W.length ∧ v5 = .bool d ∧ v6 = .int .i64 k ∧ O.length ≤ k + d.toNat ∧ Hid (insL (a1, a2) W = O ++ putR (a1, a2) W k d) ∧ Hid (OwnS wr w0.heap.size 114 2 alL v4 O) ∧ Hid (Below w0.heap.size w0 wr)) (fun _ _ i _ => W.length - (intOf i).toNat)
  case atStart => exact ⟨0, false, [], Nat.zero_le _, rfl, rfl, by simp, Lib.hid (by rw [HPZ.out]; rfl), Lib.hid (OwnS.nil _ _ _ _ _), Lib.hid (Below.refl _ _)⟩
  case round =>
    obtain ⟨k, d, O, hk, rfl, rfl, hol, HI, HO, HB⟩ := hrel
    have ob := (obj_below HB.out hz).trans H1.out
    have c0 : wr.cell? ⟨rb, 0, none⟩ = some (.slice oa W.length cap) := cell_at ob 0
    have oa3 := (obj_below HB.out hza).trans O3.out
    have hzr := lt_of_obj ob
    have hzar := lt_of_obj oa3
    have hzw := HB.out.size
    by_cases hlt : k < W.length
    · obtain ⟨b, off, hoa, hbb, hrow⟩ := H3.out (by omega)
      subst hoa
      have hs1 := hrow k hlt
      rw [← obj_below HB.out hbb] at hs1
      have hbl : b < wr.heap.size := Nat.lt_of_lt_of_le hbb HB.out.size
      obtain ⟨p1, p2, p3⟩ := HP.out k hlt
      generalize W[k] = x at *
      obtain ⟨x1, x2⟩ := x
      simp only [alL] at hs1
      have HL := Lib.hid fun v : Later wr => Calls.later (x := v) (lessR_any v.w (a1, a2) (x1, x2))
      have P1 := Lib.hid p1
      have P2 := Lib.hid p2
      have P3 := Lib.hid p3
      have OB := Lib.hid ob
      have OA3 := Lib.hid oa3
      have HS1 := Lib.hid hs1
      have HBB := Lib.hid hbl
      generalize hc : alLt (a1, a2) (x1, x2) = c at *
      obtain ⟨oz, cz, rfl⟩ := HO.out.slice
      have hol2 : O.length ≤ 1048576 := by cases d <;> simp at hol <;> omega
      clear p1 p2 p3 ob hrow hc
      cases d
      · go_wp2_with fail
        refine wp_region_later wr (Below.refl _ _) (by kernel_rfl) (by kernel_rfl) ?_
        repeat (go_big_quiet_step ((go_at_call 133; with_reducible exact HL.out _)))
        refine wpQuiet_nil ?_
        rintro w2 ⟨v, rfl⟩
        have B2 := Lib.hid (HB.out.trans (v.h.mono hzw))
        have HO2 := Lib.hid (HO.out.below v.h)
        have ob2 := (obj_below v.h hzr).trans OB.out
        have oa32 := (obj_below v.h hzar).trans OA3.out
        have hs2 := HS1.out
        rw [← obj_below v.h hbl] at hs2
        generalize v.w = w2 at *
        have c2 : w2.cell? ⟨rb, 0, none⟩ = some (.slice (some ⟨b, off, none⟩) W.length cap) := cell_at ob2 0
        have hzr2 := lt_of_obj ob2
        have hzar2 := lt_of_obj oa32
        have hbl2 : b < w2.heap.size := Nat.lt_of_lt_of_le hbb B2.out.size
        have hzw2 := B2.out.size
        clear HL OB OA3 HS1 c0 hs1 hzr hzar hbl oa3
        cases c
        · have hbase : w0.heap.size ≤ (w2.alloc (.cells #[.int .i64 x1, .int .i64 x2] 114)).heap.size := by simp; omega
          go_wp2_with (at_builtin; refine push32 rfl _ _ rfl w0.heap.size _ _ (x1, x2) rfl (HO2.out.alloc _) w2.heap.size rfl (obj_alloc_at _ _ _ rfl) hol2 hbase ?_; intro v' w5 hown5 hb5 _)
          have HB5 := Lib.hid ((B2.out.alloc (by omega) (.cells #[.int .i64 x1, .int .i64 x2] 114)).trans hb5)
          have HO5 := Lib.hid hown5
          have HI5 : Hid (insL (a1, a2) W = (O ++ [(x1, x2)]) ++ putR (a1, a2) W (k + 1) false) := Lib.hid (by rw [HI.out, P2.out rfl, List.append_assoc]; rfl)
          clear hown5 hb5
          go_wp2
          go_roundw
          case rel => exact ⟨k + 1, false, _, by omega, rfl, by go_num, by simp at hol ⊢; omega, HI5, HO5, HB5⟩
          case measure => simp [intOf]; omega
        · have hbase : w0.heap.size ≤ (w2.alloc (.cells #[.int .i64 a1, .int .i64 a2] 114)).heap.size := by simp; omega
          have hol3 : O.length + 1 ≤ 1048576 := by simp at hol; omega
          have H0B := Lib.hid (show w0.heap.size ≤ w2.heap.size by omega)
          have HS2 := Lib.hid hs2
          clear c2 hs2 ob2 hzr2 hzar2 hbl2
          go_wp2_with (at_builtin; first
            | (refine push32 rfl _ _ rfl w0.heap.size _ _ (a1, a2) rfl (HO2.out.alloc _) w2.heap.size rfl (obj_alloc_at _ _ _ rfl) hol2 hbase ?_
               intro v' w5 hown5 hb5 _
               have HB5 := Lib.hid ((B2.out.alloc H0B.out (.cells #[.int .i64 a1, .int .i64 a2] 114)).trans hb5)
               obtain ⟨O5, HE5⟩ : ∃ O5, Hid (O5 = O ++ [(a1, a2)]) := ⟨_, Lib.hid rfl⟩
               rw [← HE5.out] at hown5
               have HO5 := Lib.hid hown5
               have ob5 := (obj_below HB5.out hz).trans H1.out
               have c5 : w5.cell? ⟨rb, 0, none⟩ = some (.slice (some ⟨b, off, none⟩) W.length cap) := cell_at ob5 0
               have hzr5 := lt_of_obj ob5
               have hs5 : subOf (obj w5 b) (off + k * 2) 2 = some #[.int .i64 x1, .int .i64 x2] := by
                 have h5 := obj_below HB5.out hbb
                 have h2 := obj_below B2.out hbb
                 rw [h5, ← h2]; exact HS2.out
               have hbl5 : b < w5.heap.size := Nat.lt_of_lt_of_le hbb HB5.out.size
               have hzw5 := HB5.out.size
               obtain ⟨ox, cx, rfl⟩ := HO5.out.slice
               have hbase5 : w0.heap.size ≤ (w5.alloc (.cells #[.int .i64 x1, .int .i64 x2] 114)).heap.size := by simp; omega
               clear hown5 hb5 ob5)
            | (refine push32 rfl _ _ rfl w0.heap.size _ _ (x1, x2) rfl (HO5.out.alloc _) w5.heap.size rfl (obj_alloc_at _ _ _ rfl) (by rw [HE5.out]; simp; omega) hbase5 ?_
               intro v' w6 hown6 hb6 _))
          have HB6 := Lib.hid ((HB5.out.alloc (by omega) (.cells #[.int .i64 x1, .int .i64 x2] 114)).trans hb6)
          have HO6 := Lib.hid hown6
          have HI6 : Hid (insL (a1, a2) W = (O5 ++ [(x1, x2)]) ++ putR (a1, a2) W (k + 1) true) := Lib.hid (by rw [HI.out, P1.out rfl, HE5.out]; simp)
          have hol6 : (O5 ++ [(x1, x2)]).length ≤ k + 1 + true.toNat := by
            rw [HE5.out]; simp at hol ⊢; omega
          clear hown6 hb6
          go_wp2
          go_roundw
          case rel => exact ⟨k + 1, true, _, by omega, rfl, by go_num, hol6, HI6, HO6, HB6⟩
          case measure => simp [intOf]; omega
      · go_wp2_with fail
        refine wp_region_later wr (Below.refl _ _) (by kernel_rfl) (by kernel_rfl) ?_
        repeat (go_big_quiet_step ((go_at_call 133; with_reducible exact HL.out _)))
        refine wpQuiet_nil ?_
        rintro w2 ⟨v, rfl⟩
        have B2 := Lib.hid (HB.out.trans (v.h.mono hzw))
        have HO2 := Lib.hid (HO.out.below v.h)
        have ob2 := (obj_below v.h hzr).trans OB.out
        have hs2 := HS1.out
        rw [← obj_below v.h hbl] at hs2
        generalize v.w = w2 at *
        have c2 : w2.cell? ⟨rb, 0, none⟩ = some (.slice (some ⟨b, off, none⟩) W.length cap) := cell_at ob2 0
        have hzr2 := lt_of_obj ob2
        have hbl2 : b < w2.heap.size := Nat.lt_of_lt_of_le hbb B2.out.size
        have hzw2 := B2.out.size
        clear HL OB OA3 HS1 c0 hs1 hzr hzar hbl oa3
        have hbase : w0.heap.size ≤ (w2.alloc (.cells #[.int .i64 x1, .int .i64 x2] 114)).heap.size := by simp; omega
        go_wp2_with (at_builtin; refine push32 rfl _ _ rfl w0.heap.size _ _ (x1, x2) rfl (HO2.out.alloc _) w2.heap.size rfl (obj_alloc_at _ _ _ rfl) hol2 hbase ?_; intro v' w5 hown5 hb5 _)
        have HB5 := Lib.hid ((B2.out.alloc (by omega) (.cells #[.int .i64 x1, .int .i64 x2] 114)).trans hb5)
        have HO5 := Lib.hid hown5
        have HI5 : Hid (insL (a1, a2) W = (O ++ [(x1, x2)]) ++ putR (a1, a2) W (k + 1) true) := Lib.hid (by rw [HI.out, P3.out, List.append_assoc]; rfl)
        clear hown5 hb5
        go_wp2
        go_roundw
        case rel => exact ⟨k + 1, true, _, by omega, rfl, by go_num, by simp at hol ⊢; omega, HI5, HO5, HB5⟩
        case measure => simp [intOf]; omega
    · have hk' : k = W.length := by omega
      subst hk'
      have hi := HI.out
      rw [HPE.out] at hi
      have hol2 : O.length ≤ 1048576 := by cases d <;> simp at hol <;> omega
      obtain ⟨oz, cz, rfl⟩ := HO.out.slice
      cases d
      · have hbase : w0.heap.size ≤ (wr.alloc (.cells #[.int .i64 a1, .int .i64 a2] 114)).heap.size := by simp; omega
        have HI2 : Hid (insL (a1, a2) W = O ++ [(a1, a2)]) := Lib.hid hi
        clear hi
        go_wp2_with (at_builtin; refine push32 rfl _ _ rfl w0.heap.size _ _ (a1, a2) rfl (HO.out.alloc _) wr.heap.size rfl (obj_alloc_at _ _ _ rfl) hol2 hbase ?_; intro v' w5 hown5 hb5 _; have HB5 := Lib.hid ((HB.out.alloc hzw (.cells #[.int .i64 a1, .int .i64 a2] 114)).trans hb5); rw [← HI2.out] at hown5; have HO5 := Lib.hid hown5; obtain ⟨ox, cx, rfl⟩ := HO5.out.slice; have HX := Lib.hid (HR.out.keeps_box HB5.out HO5.out HGG.out); have ob5 := (obj_below HB5.out hz).trans H1.out; have fz := frozen_at ob5; have hzr5 := lt_of_obj ob5; have c5 : w5.cell? ⟨rb, 0, none⟩ = some (.slice oa W.length cap) := cell_at ob5 0; clear hown5 hb5 ob5)
        go_end0
        exact ⟨⟨_, rfl⟩, HX.out.1, K0.out.trans HX.out.2.1⟩
      · have HI2 : Hid (insL (a1, a2) W = O) := Lib.hid (by rw [hi]; simp)
        clear hi
        have HX := Lib.hid (HR.out.keeps_box HB.out HO.out HGG.out)
        have fz := frozen_at ob
        clear ob
        go_wp2
        go_end0
        rw [HI2.out]
        exact ⟨⟨_, rfl⟩, HX.out.1, K0.out.trans HX.out.2.1⟩
end Go.Proofs.YtagpclgappcnbaaGreat.Al
namespace Go.Proofs.YtagpclgappcnbaaGreat.Al
open Go.RowKit

theorem findI_neg {W : List Al} {k : Int} (h : hasK W k = false) : findI W k = -1 := by
  unfold findI
  rw [if_neg]
  unfold hasK at h
  rw [h]
  simp
theorem findI_pos {W : List Al} {k : Int} (h : hasK W k = true) : ∃ j : Nat, j < W.length ∧ findI W k = j ∧ W.eraseIdx j = W.erase (getK W k) ∧ getK W k = at' W j := by
  unfold hasK at h
  refine ⟨W.findIdx (fun x => x.2 == k), List.findIdx_lt_length.2 ?_, by unfold findI; rw [if_pos h], ?_, ?_⟩
  · rw [List.any_eq_true] at h
    exact h
  · induction W with
    | nil => cases h
    | cons a r ih =>
      unfold getK at ih ⊢
      rw [List.findIdx_cons, List.find?_cons]
      cases ha : a.2 == k with
      | true => simp
      | false =>
        rw [List.any_cons, ha, Bool.false_or] at h
        simp only [Bool.false_eq_true, if_false, cond_false]
        rw [List.eraseIdx_cons_succ, ih h, List.erase_cons_tail]
        intro e
        rw [beq_iff_eq] at e
        cases hf : r.find? (fun x => x.2 == k) with
        | none =>
          rw [List.find?_eq_none] at hf
          rw [List.any_eq_true] at h
          obtain ⟨x, hx, he⟩ := h
          exact hf x hx he
        | some y =>
          rw [hf] at e
          simp only [Option.getD_some] at e
          have := List.find?_some hf
          rw [← e, ha] at this
          cases this
  · induction W with
    | nil => cases h
    | cons a r ih =>
      unfold getK at' at ih ⊢
      rw [List.findIdx_cons, List.find?_cons]
      cases ha : a.2 == k with
      | true => simp
      | false =>
        rw [List.any_cons, ha, Bool.false_or] at h
        simp only [Bool.false_eq_true, if_false, cond_false, List.getElem?_cons_succ]
        exact ih h
theorem eraseIdx_zero (W : List Al) : W.eraseIdx 0 = W.tail := by cases W <;> rfl
set_option maxRecDepth 100000 in
set_option maxHeartbeats 1000000 in
theorem pushR (w : World) (G : Nat → Prop) (rb : Nat) (W : List Al) (t k : Int) (h : RefAt w G rb W) (hlen : W.length ≤ 4096) (hG : ∀ n, w.heap.size ≤ n → G n) :
    Calls Tryz.prog 75 #[.pointer (some ⟨rb, 0, none⟩), .int .i64 t, .int .i64 k] w fun e w' => e = .returned (.int .i64 (pushE W t k)) ∧ RefAt w' G rb (pushW W t k) ∧ Keeps (fun n => n = rb) w w' := by
  have HR := Lib.hid h
  have HF := Lib.hid (find_ref w G rb W k h)
  by_cases hm : mayB t = false
  · have HE : Hid (pushE W t k = 1) := Lib.hid (if_pos hm)
    have HW : Hid (pushW W t k = W) := Lib.hid (by unfold pushW; rw [HE.out]; rfl)
    have hm2 : t < 0 ∨ 4611686018427387903 < t := by unfold mayB at hm; simp at hm; omega
    by_cases h0 : t < 0
    · clear hm hm2
      go_enter Tryz.func75, Tryz.ntmps75
      go_wp2
      go_ret
      exact ⟨ret_int HE.out.symm, by rw [HW.out]; exact HR.out, Keeps.refl _ _⟩
    · have h1 : 4611686018427387903 < t := by omega
      clear hm hm2
      go_enter Tryz.func75, Tryz.ntmps75
      go_wp2
      go_ret
      exact ⟨ret_int HE.out.symm, by rw [HW.out]; exact HR.out, Keeps.refl _ _⟩
  have hmt : mayB t = true := by simpa using hm
  have hm0 : ¬ t < 0 := by unfold mayB at hmt; simp at hmt; omega
  have hm1 : ¬ 4611686018427387903 < t := by unfold mayB at hmt; simp at hmt; omega
  cases hk : hasK W k with
  | true =>
    have HE : Hid (pushE W t k = 7) := Lib.hid (by unfold pushE; rw [if_neg hm, if_pos hk])
    have HW : Hid (pushW W t k = W) := Lib.hid (by unfold pushW; rw [HE.out]; rfl)
    obtain ⟨j, hj, hf, _, _⟩ := findI_pos hk
    rw [hf] at HF
    clear hf hj hk hm hmt
    go_enter Tryz.func75, Tryz.ntmps75
    go_wp2_with fail
    refine HF.out.mono ?_
    rintro e w1 ⟨rfl, b1⟩
    have B1 := Lib.hid b1
    clear b1
    go_wp2
    go_ret
    exact ⟨ret_int HE.out.symm, by rw [HW.out]; exact HR.out.below B1.out, Keeps.of_below B1.out⟩
  | false =>
    rw [findI_neg hk] at HF
    obtain ⟨v, h1, h2, h3⟩ := h
    obtain ⟨oa, cap, rfl⟩ := h2.slice
    by_cases hl : 4096 ≤ W.length
    · have HE : Hid (pushE W t k = 6) := Lib.hid (by unfold pushE; rw [if_neg hm, if_neg (by rw [hk]; simp), if_pos hl])
      have HW : Hid (pushW W t k = W) := Lib.hid (by unfold pushW; rw [HE.out]; rfl)
      have H1 := Lib.hid h1
      have hz := lt_of_obj h1
      have hl2 : (4096 : Int) ≤ (W.length : Int) := by omega
      clear hk hm hmt h1 h2 h3
      go_enter Tryz.func75, Tryz.ntmps75
      go_wp2_with fail
      refine HF.out.mono ?_
      rintro e w1 ⟨rfl, b1⟩
      have B1 := Lib.hid b1
      have ob := (obj_below b1 hz).trans H1.out
      have c0 : w1.cell? ⟨rb, 0, none⟩ = some (.slice oa W.length cap) := cell_at ob 0
      have hz1 := lt_of_obj ob
      clear b1 ob
      go_wp2
      go_ret
      exact ⟨ret_int HE.out.symm, by rw [HW.out]; exact HR.out.below B1.out, Keeps.of_below B1.out⟩
    · have HE : Hid (pushE W t k = 0) := Lib.hid (by unfold pushE; rw [if_neg hm, if_neg (by rw [hk]; simp), if_neg hl])
      have HW : Hid (pushW W t k = insL (t, k) W) := Lib.hid (by unfold pushW; rw [HE.out]; rfl)
      have H1 := Lib.hid h1
      have hz := lt_of_obj h1
      have hl2 : ¬ (4096 : Int) ≤ (W.length : Int) := by omega
      clear hk hm hmt h1 h2 h3
      go_enter Tryz.func75, Tryz.ntmps75
      go_wp2_with fail
      refine HF.out.mono ?_
      rintro e w1 ⟨rfl, b1⟩
      have B1 := Lib.hid b1
      have ob := (obj_below b1 hz).trans H1.out
      have c0 : w1.cell? ⟨rb, 0, none⟩ = some (.slice oa W.length cap) := cell_at ob 0
      have hz1 := lt_of_obj ob
      have HP := Lib.hid (put_ref w1 G rb W (t, k) (HR.out.below b1) (by omega) (fun n hn => hG n (Nat.le_trans b1.size hn)))
      clear b1 ob
      go_wp2_with fail
      refine HP.out.mono ?_
      rintro e w2 ⟨⟨v2, rfl⟩, r2, k2⟩
      have R2 := Lib.hid r2
      have K2 := Lib.hid ((Keeps.of_below B1.out).trans k2)
      clear r2 k2
      go_wp2
      go_ret
      exact ⟨ret_int HE.out.symm, by rw [HW.out]; exact R2.out, K2.out⟩
set_option maxRecDepth 100000 in
set_option maxHeartbeats 1000000 in
theorem dropR (w : World) (G : Nat → Prop) (rb : Nat) (W : List Al) (k : Int) (h : RefAt w G rb W) (hlen : W.length ≤ 4096) (hG : ∀ n, w.heap.size ≤ n → G n) :
    Calls Tryz.prog 77 #[.pointer (some ⟨rb, 0, none⟩), .int .i64 k] w fun e w' => e = .returned (.int .i64 (dropE W k)) ∧ RefAt w' G rb (dropW W k) ∧ Keeps (fun n => n = rb) w w' := by
  have HR := Lib.hid h
  have HF := Lib.hid (find_ref w G rb W k h)
  clear h
  cases hk : hasK W k with
  | true =>
    have HE : Hid (dropE W k = 0) := Lib.hid (by unfold dropE; rw [if_pos hk])
    have HW : Hid (dropW W k = W.erase (getK W k)) := Lib.hid (by unfold dropW; rw [if_pos hk])
    obtain ⟨j, hj, hf, he, _⟩ := findI_pos hk
    rw [hf] at HF
    have HG := fun W' (hr : RefAt W' G rb W) (hz : w.heap.size ≤ W'.heap.size) => Lib.hid (gone_ref W' G rb W j hr hj (by omega) (fun n hn => hG n (Nat.le_trans hz hn)))
    rw [he] at HG
    clear hf hj hk he
    go_enter Tryz.func77, Tryz.ntmps77
    go_wp2_with fail
    refine HF.out.mono ?_
    rintro e w1 ⟨rfl, b1⟩
    have B1 := Lib.hid b1
    clear b1
    go_wp2_with fail
    refine (HG w1 (HR.out.below B1.out) B1.out.size).out.mono ?_
    rintro e w2 ⟨⟨v2, rfl⟩, r2, k2, _⟩
    have R2 := Lib.hid r2
    have K2 := Lib.hid ((Keeps.of_below B1.out).trans k2)
    clear r2 k2
    go_wp2
    go_ret
    exact ⟨ret_int HE.out.symm, by rw [HW.out]; exact R2.out, K2.out⟩
  | false =>
    have HE : Hid (dropE W k = 4) := Lib.hid (by unfold dropE; rw [if_neg (by rw [hk]; simp)])
    have HW : Hid (dropW W k = W) := Lib.hid (by unfold dropW; rw [if_neg (by rw [hk]; simp)])
    rw [findI_neg hk] at HF
    clear hk
    go_enter Tryz.func77, Tryz.ntmps77
    go_wp2_with fail
    refine HF.out.mono ?_
    rintro e w1 ⟨rfl, b1⟩
    have B1 := Lib.hid b1
    clear b1
    go_wp2
    go_ret
    exact ⟨ret_int HE.out.symm, by rw [HW.out]; exact HR.out.below B1.out, Keeps.of_below B1.out⟩
end Go.Proofs.YtagpclgappcnbaaGreat.Al
namespace Go.Proofs.YtagpclgappcnbaaGreat.Al
open Go.RowKit

set_option maxRecDepth 100000 in
set_option maxHeartbeats 1000000 in
theorem peekR (w : World) (G : Nat → Prop) (rb : Nat) (W : List Al) (h : RefAt w G rb W) :
    Calls Tryz.prog 88 #[.pointer (some ⟨rb, 0, none⟩)] w fun e w' => e = .returned (.tuple #[alV (at' W 0), .int .i64 (peekE W)]) ∧ Below w.heap.size w w' := by
  have b1 : Below w.heap.size w (w.alloc (.cells #[.int .i64 0, .int .i64 0] 114)) := (Below.refl _ w).alloc (Nat.le_refl _) _
  obtain ⟨v, h1, h2, h3⟩ := h
  obtain ⟨oa, cap, rfl, g1, g2, g3⟩ := h2.slIn alL_length
  unfold maxLen at g2
  have c0 : w.cell? ⟨rb, 0, none⟩ = some (.slice oa W.length cap) := cell_at h1 0
  have hz := lt_of_obj h1
  by_cases h0 : W.length = 0
  · have hL : W = [] := List.eq_nil_of_length_eq_zero h0
    subst hL
    clear h1 h2 h3 g3
    go_enter Tryz.func88, Tryz.ntmps88
    go_wp2
    have o2 : obj (w.alloc (.cells #[.int .i64 0, .int .i64 0] 114)) w.heap.size = some (.cells #[.int .i64 0, .int .i64 0] 114 (0, 0)) := obj_alloc_at _ _ _ rfl
    refine bodyPost_ret (results_cell_tmp rfl _ rfl (by rw [run_load32, o2]; rfl)) rfl ?_
    exact ⟨rfl, b1⟩
  · obtain ⟨b, off, rfl, hbb, hrow⟩ := g3 (by omega)
    have s1 := hrow 0 (by omega)
    rw [Nat.zero_mul, Nat.add_zero] at s1
    have hat : at' W 0 = W[0]'(by omega) := at'_eq (by omega)
    have HA := Lib.hid hat
    generalize W[0]'(by omega) = x at *
    obtain ⟨x1, x2⟩ := x
    have HPE := Lib.hid (show peekE W = 0 from if_neg h0)
    have hpos : (0 : Int) < (W.length : Int) := by omega
    clear h1 h2 h3 hrow hat
    go_enter Tryz.func88, Tryz.ntmps88
    go_wp2
    have o2 : obj (w.alloc (.cells #[.int .i64 x1, .int .i64 x2] 114)) w.heap.size = some (.cells #[.int .i64 x1, .int .i64 x2] 114 (0, 0)) := obj_alloc_at _ _ _ rfl
    refine bodyPost_ret (results_cell_tmp rfl _ rfl (by rw [run_load32, o2]; rfl)) rfl ?_
    exact ⟨by rw [HA.out, HPE.out]; rfl, (Below.refl _ w).alloc (Nat.le_refl _) _⟩
set_option maxRecDepth 100000 in
set_option maxHeartbeats 1000000 in
theorem atR (w : World) (G : Nat → Prop) (rb : Nat) (W : List Al) (k : Int) (h : RefAt w G rb W) :
    Calls Tryz.prog 41 #[.pointer (some ⟨rb, 0, none⟩), .int .i64 k] w fun e w' => e = .returned (.tuple #[.int .i64 (atT W k), .int .i64 (dropE W k)]) ∧ Below w.heap.size w w' := by
  have HF := Lib.hid (find_ref w G rb W k h)
  obtain ⟨v, h1, h2, h3⟩ := h
  obtain ⟨oa, cap, rfl, g1, g2, g3⟩ := h2.slIn alL_length
  unfold maxLen at g2
  have H1 := Lib.hid h1
  have H3 := Lib.hid g3
  have hz := lt_of_obj h1
  clear h1 h2 h3 g3
  cases hk : hasK W k with
  | true =>
    obtain ⟨j, hj, hf, _, hat⟩ := findI_pos hk
    rw [hf] at HF
    have HE : Hid (dropE W k = 0) := Lib.hid (by unfold dropE; rw [if_pos hk])
    have HT : Hid (atT W k = W[j].1) := Lib.hid (by unfold atT; rw [if_pos hk, hat, at'_eq hj])
    obtain ⟨b, off, rfl, hbb, hrow⟩ := H3.out (by omega)
    have s1 := hrow j hj
    have HS1 := Lib.hid s1
    clear hf hat hk hrow s1
    generalize W[j] = x at *
    obtain ⟨x1, x2⟩ := x
    go_enter Tryz.func41, Tryz.ntmps41
    go_wp2_with fail
    refine HF.out.mono ?_
    rintro e w1 ⟨rfl, b1⟩
    have B1 := Lib.hid b1
    have ob := (obj_below b1 hz).trans H1.out
    have c0 : w1.cell? ⟨rb, 0, none⟩ = some (.slice (some ⟨b, off, none⟩) W.length cap) := cell_at ob 0
    have hzr := lt_of_obj ob
    have s1 := HS1.out
    rw [← obj_below b1 hbb] at s1
    have c1 := subOf_cell s1 (j := 0) (by decide)
    simp only [alL, List.getElem?_toArray, List.getElem?_cons_zero, Nat.add_zero] at c1
    have hbl : b < w1.heap.size := Nat.lt_of_lt_of_le hbb b1.size
    clear b1 ob s1
    go_wp2
    go_ret2
    exact ⟨by rw [HT.out, HE.out]; rfl, B1.out⟩
  | false =>
    have HE : Hid (dropE W k = 4) := Lib.hid (by unfold dropE; rw [if_neg (by rw [hk]; simp)])
    have HT : Hid (atT W k = 0) := Lib.hid (by unfold atT; rw [if_neg (by rw [hk]; simp)])
    rw [findI_neg hk] at HF
    clear hk
    go_enter Tryz.func41, Tryz.ntmps41
    go_wp2_with fail
    refine HF.out.mono ?_
    rintro e w1 ⟨rfl, b1⟩
    have B1 := Lib.hid b1
    clear b1
    go_wp2
    go_ret2
    exact ⟨by rw [HT.out, HE.out]; rfl, B1.out⟩
end Go.Proofs.YtagpclgappcnbaaGreat.Al
namespace Go.Proofs.YtagpclgappcnbaaGreat.Al
open Go.RowKit

/-- and another slice, in another block -/
def RefD (w : World) (G : Nat → Prop) (rb : Nat) (W : List Al) (u : Value) : Prop := ∃ v, obj w rb = some (.cells #[v] 89 (0, 0)) ∧ OwnS w 0 114 2 alL v W ∧ (∀ n, v.ownBlock = some n → G n) ∧ ∀ n, v.ownBlock = some n → u.ownBlock ≠ some n
theorem RefD.ref {w : World} {G : Nat → Prop} {rb : Nat} {W : List Al} {u : Value} (h : RefD w G rb W u) : RefAt w G rb W := by
  obtain ⟨v, h1, h2, h3, _⟩ := h
  exact ⟨v, h1, h2, h3⟩
theorem RefAt.nil {w : World} {G : Nat → Prop} {rb : Nat} {W : List Al} (h : RefAt w G rb W) : RefD w G rb W (.slice none 0 0) := by
  obtain ⟨v, h1, h2, h3⟩ := h
  exact ⟨v, h1, h2, h3, fun n _ h => by simp [Value.ownBlock] at h⟩
theorem RefD.past {w w' : World} {G : Nat → Prop} {rb : Nat} {W : List Al} {u : Value} (h : RefD w G rb W u) (hn : u.ownBlock ≠ some rb) (hk : ∀ k, k < w.heap.size → u.ownBlock ≠ some k → obj w' k = obj w k) : RefAt w' G rb W := by
  obtain ⟨v, h1, h2, h3, h4⟩ := h
  exact ⟨v, (hk _ (lt_of_obj h1) hn).trans h1, h2.keeps fun g hg => hk g (h2.1.lt g hg).2 (h4 g hg), h3⟩
theorem RefIn.apart {w : World} {B rb : Nat} {G : Nat → Prop} {W : List Al} {u : Value} (h : RefIn w B rb W) (hG : ∀ n, B ≤ n → G n) (hu : ∀ n, u.ownBlock = some n → n < B) : RefD w G rb W u := by
  obtain ⟨v, h1, h2⟩ := h
  refine ⟨v, h1, h2.lower (Nat.zero_le _), fun n hn => hG n (h2.1.lt n hn).1, fun n hn hh => ?_⟩
  have h3 := (h2.1.lt n hn).1
  have h4 := hu n hh
  omega
set_option maxRecDepth 100000 in
set_option maxHeartbeats 2000000 in
theorem dueR (w : World) (G : Nat → Prop) (rb : Nat) (W : List Al) (now : Int) (h : RefAt w G rb W) (hlen : W.length ≤ 4096) (hG : ∀ n, w.heap.size ≤ n → G n) :
    Calls Tryz.prog 81 #[.pointer (some ⟨rb, 0, none⟩), .int .i64 now] w fun e w' => (∃ v, e = .returned v ∧ OwnS w' w.heap.size 114 2 alL v (dueL now W)) ∧ RefAt w' G rb (leftL now W) ∧ Keeps (fun n => n = rb) w w' := by
  have HH := Lib.hid h
  have hlt : rb < w.heap.size := h.lt
  have HGG := Lib.hid hG
  have hrow29 := run_row29
  clear h hG
  go_enter Tryz.func81, Tryz.ntmps81
  go_wp2
  go_loopw [5] (fun v5 wr => ∃ D X, Hid (dueL now W = D ++ dueL now X) ∧ Hid (leftL now W = leftL now X) ∧ Hid (D.length + X.length = W.length) ∧ Hid (RefD wr G rb X v5) ∧ Hid (OwnS wr w.heap.size 114 2 alL v5 D) ∧ Hid (Keeps (fun n => n = rb) w wr)) (fun v _ => W.length - lenOf v)
  case atStart => exact ⟨[], W, Lib.hid rfl, Lib.hid rfl, Lib.hid (by simp), Lib.hid (HH.out.nil), Lib.hid (OwnS.nil _ _ _ _ _), Lib.hid (Keeps.refl _ _)⟩
  case round =>
    obtain ⟨D, X, HD, HX, HDL, H1, O1, K1⟩ := hrel
    have hsz := K1.out.size
    have NF : Hid (∀ n, u5.ownBlock = some n → ¬ n = rb) := Lib.hid (fun n hn hf => by have h1 := (O1.out.1.lt n hn).1; omega)
    obtain ⟨v, h1, h2, h3, _⟩ := H1.out
    obtain ⟨oa, cap, rfl, g1, g2, g3⟩ := h2.slIn alL_length
    unfold maxLen at g2
    have c0 : wr.cell? ⟨rb, 0, none⟩ = some (.slice oa X.length cap) := cell_at h1 0
    have hz := lt_of_obj h1
    rcases hX : X with _ | ⟨x, r⟩
    · subst hX
      clear h1 h2 h3 g3
      go_wp2
      go_ret
      refine ⟨⟨_, rfl, ?_⟩, ?_, K1.out⟩
      · rw [HD.out]; simpa [dueL] using O1.out
      · rw [HX.out]; exact H1.out.ref
    · subst hX
      obtain ⟨b, off, rfl, hbb, hrow⟩ := g3 (by simp)
      have s1 := hrow 0 (by simp)
      rw [Nat.zero_mul, Nat.add_zero] at s1
      obtain ⟨x1, x2⟩ := x
      simp only [List.getElem_cons_zero, alL] at s1
      have c1 := subOf_cell s1 (j := 0) (by decide)
      simp only [List.getElem?_toArray, List.getElem?_cons_zero, Nat.add_zero] at c1
      have hlc : ((x1, x2) :: r).length = r.length + 1 := rfl
      have hpos : (0 : Int) < (((x1, x2) :: r).length : Int) := by simp
      have hpn : 0 < ((x1, x2) :: r).length := by simp
      have HLC := Lib.hid hlc
      have HBB := Lib.hid hbb
      clear hlc hrow h2 h3 g3
      by_cases hn : now < x1
      · have HDX : Hid (dueL now ((x1, x2) :: r) = []) := Lib.hid (if_pos hn)
        have HLX : Hid (leftL now ((x1, x2) :: r) = (x1, x2) :: r) := Lib.hid (if_pos hn)
        have hnl : ¬ x1 ≤ now := by omega
        clear h1
        generalize ((x1, x2) :: r).length = n at *
        go_wp2
        go_ret
        refine ⟨⟨_, rfl, ?_⟩, ?_, K1.out⟩
        · rw [HD.out, HDX.out]; simpa using O1.out
        · rw [HX.out, HLX.out]; exact H1.out.ref
      · have HDX : Hid (dueL now ((x1, x2) :: r) = (x1, x2) :: dueL now r) := Lib.hid (if_neg hn)
        have HLX : Hid (leftL now ((x1, x2) :: r) = leftL now r) := Lib.hid (if_neg hn)
        have hle : x1 ≤ now := by omega
        have hlen2 : D.length ≤ 1048576 := by have := HDL.out; omega
        have hl1 := O1.out.lenOf
        have hbase : w.heap.size ≤ (wr.alloc (.cells #[.int .i64 x1, .int .i64 x2] 114)).heap.size := by simp; omega
        have OX := Lib.hid h1
        clear h1
        generalize hgn : ((x1, x2) :: r).length = n at *
        go_wp2_with (at_builtin; refine push32 rfl _ _ rfl w.heap.size _ D (x1, x2) rfl (O1.out.alloc _) wr.heap.size rfl (obj_alloc_at _ _ _ rfl) hlen2 hbase ?_; intro v' w5 hown5 hb5 hk5)
        have H5 : Hid (RefAt w5 G rb ((x1, x2) :: r)) := Lib.hid (H1.out.past (fun e => NF.out _ e rfl) (fun k hk hne => (hk5 k (by simp; omega) hne).trans (obj_alloc_past _ _ _ hk)))
        have K5 := Lib.hid (keeps_belowB (K1.out.alloc (.cells #[.int .i64 x1, .int .i64 x2] 114)) (Nat.le_refl _) hb5)
        have HO5 := Lib.hid hown5
        have HG := Lib.hid (gone_ref w5 G rb _ 0 H5.out (by rw [hgn]; exact hpn) (by have := HDL.out; omega) (fun n hn => HGG.out n (by have h5 := K5.out.size; omega)))
        have hl5 := hown5.lenOf
        clear hown5 hb5 hk5
        rw [List.eraseIdx_cons_zero] at HG
        go_wp2_with fail
        refine HG.out.mono ?_
        rintro e w6 ⟨⟨v6, rfl⟩, h6, k6, r6⟩
        have hz5 := K5.out.size
        have R6 : Hid (RefD w6 G rb r v') := Lib.hid (r6.apart (fun n hn => HGG.out n (by omega)) (fun n hn => (HO5.out.1.lt n hn).2))
        have O6 := Lib.hid (HO5.out.keepsNot k6 (fun n hn e => by have := (HO5.out.1.lt n hn).1; omega))
        have K6 := Lib.hid (K5.out.trans k6)
        clear h6 k6 r6
        go_wp2
        go_roundw
        case rel => exact ⟨D ++ [(x1, x2)], r, Lib.hid (by rw [HD.out, HDX.out]; simp), Lib.hid (by rw [HX.out, HLX.out]), Lib.hid (by rw [← HDL.out, ← hgn]; simp; omega), R6, O6, K6⟩
        case measure =>
          rw [hl5, hl1, ← HDL.out, ← hgn]; simp; omega
end Go.Proofs.YtagpclgappcnbaaGreat.Al
