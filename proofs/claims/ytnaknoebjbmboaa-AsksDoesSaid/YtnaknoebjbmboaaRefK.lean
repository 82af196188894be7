import Derived.Test.YtnaknoebjbmboaaAskSort
import Derived.Deep.Onto
namespace Go.Proofs.Ytnaknoebjbmboaa
open Go.RowKit

/-! ### the document's book: its asks in a slice of its own -/
structure RefD where
  room : Int
  last : Int
  asked : Int
  ans : Int
  exp : Int
def refC (S : RefD) (v : Value) : Array Value := #[.int .i64 S.room, .int .i64 S.last, v, .int .i64 S.asked, .int .i64 S.ans, .int .i64 S.exp]
def RefK (w : World) (G : Nat → Prop) (rb : Nat) (S : RefD) (W : List AskD) : Prop := ∃ v, obj w rb = some (.cells (refC S v) 71 (0, 0)) ∧ OwnS w 0 32 3 akL v W ∧ ∀ n, v.ownBlock = some n → G n
theorem RefK.lt {w : World} {G : Nat → Prop} {rb : Nat} {S : RefD} {W : List AskD} (h : RefK w G rb S W) : rb < w.heap.size := by
  obtain ⟨v, h1, _⟩ := h
  exact lt_of_obj h1
theorem RefK.below {w w' : World} {G : Nat → Prop} {rb : Nat} {S : RefD} {W : List AskD} (h : RefK w G rb S W) (hb : Below w.heap.size w w') : RefK w' G rb S W := by
  obtain ⟨v, h1, h2, h3⟩ := h
  exact ⟨v, (obj_below hb (lt_of_obj h1)).trans h1, h2.below hb, h3⟩
def findA (W : List AskD) (k : Int) : Int := if W.any (fun x => x.id == k) then (W.findIdx (fun x => x.id == k) : Nat) else -1
theorem findA_hit {xs : List AskD} {q : Int} {k : Nat} (h : k < xs.length) (hn : ∀ j (hj : j < xs.length), j < k → (xs[j].id == q) = false) (e : (xs[k].id == q) = true) : findA xs q = k := by
  unfold findA
  rw [if_pos (by rw [List.any_eq_true]; exact ⟨xs[k], by simp, e⟩), List.findIdx_eq h |>.2 ⟨e, fun j hj => by simpa using hn j (by omega) hj⟩]
theorem findA_miss {xs : List AskD} {q : Int} (hn : ∀ j (hj : j < xs.length), j < xs.length → (xs[j].id == q) = false) : findA xs q = -1 := by
  unfold findA
  rw [if_neg]
  intro h
  rw [List.any_eq_true] at h
  obtain ⟨x, hx, e⟩ := h
  obtain ⟨j, hj, rfl⟩ := List.getElem_of_mem hx
  rw [hn j hj hj] at e
  cases e
set_option maxRecDepth 100000 in
set_option maxHeartbeats 1000000 in
theorem find_ref (w : World) (G : Nat → Prop) (rb : Nat) (S : RefD) (W : List AskD) (q : Int) (h : RefK w G rb S W) :
    Calls Try.prog 44 #[.pointer (some ⟨rb, 0, none⟩), .int .i64 q] w fun e w' => e = .returned (.int .i64 (findA W q)) ∧ Below w.heap.size w w' := by
  obtain ⟨v, h1, h2, h3⟩ := h
  obtain ⟨oa, cap, rfl, g1, g2, g3⟩ := h2.slIn akL_length
  unfold maxLen at g2
  have H1 := Lib.hid h1
  have H3 := Lib.hid g3
  have hz := lt_of_obj h1
  clear h1 h2 h3 g3
  go_enter Try.func44, Try.ntmps44
  go_wp2
  go_loopw [5] (fun v5 wr => ∃ k : Nat, k ≤ W.length ∧ v5 = .int .i64 k ∧ Hid (∀ j (h1 : j < W.length), j < k → (W[j].id == q) = false) ∧ Hid (Below w.heap.size w wr)) (fun i _ => W.length - (intOf i).toNat)
  case atStart => exact ⟨0, Nat.zero_le _, rfl, Lib.hid (by omega), Lib.hid (Below.refl _ w)⟩
  case round =>
    obtain ⟨k, hk, rfl, HK, HB⟩ := hrel
    have ob := (obj_below HB.out hz).trans H1.out
    have c0 : wr.cell? ⟨rb, 2, none⟩ = some (.slice oa W.length cap) := cell_at ob 2
    have hzr := lt_of_obj ob
    clear ob
    by_cases hlt : k < W.length
    · obtain ⟨b, off, hoa, hbb, hrow⟩ := H3.out (by omega)
      subst hoa
      have hs1 := hrow k hlt
      rw [← obj_below HB.out hbb] at hs1
      have hbl : b < wr.heap.size := Nat.lt_of_lt_of_le hbb HB.out.size
      have c1 := subOf_cell hs1 (j := 0) (by decide)
      simp only [akL, List.getElem?_toArray, List.getElem?_cons_zero, Nat.add_zero] at c1
      have NX : Hid ((W[k].id == q) = false → ∀ j (h1 : j < W.length), j < k + 1 → (W[j].id == q) = false) := Lib.hid (fun h j h1 hlt' => by
          by_cases e : j = k
          · subst e; exact h
          · exact HK.out j h1 (by omega))
      have NO : Hid ((W[k].id == q) = true → findA W q = k) := Lib.hid (fun h => findA_hit hlt HK.out h)
      generalize W[k].id = x at *
      clear hrow hs1
      cases hr : (x == q)
      · go_wp2
        go_roundw
        case rel => exact ⟨k + 1, by omega, by go_num, Lib.hid (NX.out hr), HB⟩
        case measure => simp [intOf]; omega
      · go_wp2
        go_ret
        exact ⟨ret_int (NO.out hr).symm, HB.out⟩
    · have hk' : k = W.length := by omega
      subst hk'
      go_wp2
      go_ret
      exact ⟨ret_int (findA_miss HK.out).symm, HB.out⟩
theorem OwnS.lower {α : Type} {w : World} {base base' E k : Nat} {enc : α → List Value} {v : Value} {xs : List α} (h : OwnS w base E k enc v xs) (hb : base' ≤ base) : OwnS w base' E k enc v xs := ⟨h.1.mono hb, h.2⟩
def RefIn (w : World) (base rb : Nat) (S : RefD) (W : List AskD) : Prop := ∃ v, obj w rb = some (.cells (refC S v) 71 (0, 0)) ∧ OwnS w base 32 3 akL v W
theorem RefIn.putNew {w : World} {base rb m : Nat} {S : RefD} {W : List AskD} (h : RefIn w base rb S W) (hm : m < base) (hr : m ≠ rb) (o : Obj) : RefIn (putObj w m o) base rb S W := by
  obtain ⟨v, h1, h2⟩ := h
  refine ⟨v, (obj_putObj_ne _ _ _ _ (Ne.symm hr)).trans h1, h2.keeps fun g hg => obj_putObj_ne _ _ _ _ ?_⟩
  have := (h2.1.lt g hg).1
  omega
theorem RefIn.at_ {w : World} {B rb : Nat} {G : Nat → Prop} {S : RefD} {W : List AskD} (h : RefIn w B rb S W) (hG : ∀ n, B ≤ n → G n) : RefK w G rb S W := by
  obtain ⟨v, h1, h2⟩ := h
  exact ⟨v, h1, h2.lower (Nat.zero_le _), fun n hn => hG n (h2.1.lt n hn).1⟩
theorem RefIn.low {w : World} {B B' rb : Nat} {S : RefD} {W : List AskD} (h : RefIn w B rb S W) (hb : B' ≤ B) : RefIn w B' rb S W := by
  obtain ⟨v, h1, h2⟩ := h
  exact ⟨v, h1, h2.lower hb⟩
theorem refC_set (S : RefD) (v v' : Value) : (refC S v).setIfInBounds 2 v' = refC S v' := rfl
theorem RefK.set_list {w wr : World} {G : Nat → Prop} {rb : Nat} {S : RefD} {W X : List AskD} {v : Value} (h : RefK w G rb S W) (hb : Below w.heap.size w wr) (ho : OwnS wr w.heap.size 32 3 akL v X) :
    Keeps (fun n => n = rb) w (wr.setCell ⟨rb, 2, none⟩ v) ∧ RefIn (wr.setCell ⟨rb, 2, none⟩ v) w.heap.size rb S X := by
  obtain ⟨v0, h1, h2, h3⟩ := h
  have hz := lt_of_obj h1
  have ob := (obj_below hb hz).trans h1
  refine ⟨(Keeps.of_below (F := fun n => n = rb) hb).setCell (a := ⟨rb, 2, none⟩) (.inl rfl) _, v, by rw [obj_setCell_at _ ob, refC_set], ho.keeps fun g hg => ?_⟩
  have h4 := ho.1.lt g hg
  exact obj_setCell_ne _ _ _ _ (by simp only; omega)
theorem push32 {ops : Array Oper} {rest : List Oper} {o : Oper} {a : Act} {w : World} {Q : Exit → Act → World → Prop} (hgd : o.guard = none) (s x : Operand) (ho : o.op = .call { callee := .builtin .append, args := #[s, x], argTypes := #[51, 51] })
    (base : Nat) (v : Value) (xs : List AskD) (y : AskD) (hs : a.eval s = v) (hown : OwnS w base 32 3 akL v xs) (g : Nat) (hx : a.eval x = .slice (some ⟨g, 0, none⟩) 1 1) (hg : obj w g = some (.cells #[.int .i64 y.id, .int .i64 y.node, .int .i64 y.kind] 32 (0, 0)))
    (hlen : xs.length ≤ 1048576) (hbase : base ≤ w.heap.size)
    (h : ∀ v' w', OwnS w' base 32 3 akL v' (xs ++ [y]) → Below base w w' → (∀ k, k < w.heap.size → v.ownBlock ≠ some k → obj w' k = obj w k) → wpList Try.prog ops Q rest (a.put o.dst v') w') : wpList Try.prog ops Q (o :: rest) a w := by
  obtain ⟨i0, hi, hz0, hz1, hz2⟩ := info_parts info32
  exact wpList_push (i := i0) (z := .agg #[.int .i64 0, .int .i64 0, .int .i64 0]) (bytes := 24) Try.underlying51 hi hz0 hz1 hz2 (by simp [Value.cells]) (by decide) akL akL_length akL_one hgd s x ho base v xs y hs hown g hx hg hlen (by decide) hbase h
set_option maxRecDepth 100000 in
set_option maxHeartbeats 1000000 in
theorem gone_ref (w : World) (G : Nat → Prop) (rb : Nat) (S : RefD) (W : List AskD) (i : Nat) (h : RefK w G rb S W) (hi : i < W.length) (hlen : W.length ≤ 100000) :
    Calls Try.prog 45 #[.pointer (some ⟨rb, 0, none⟩), .int .i64 i] w fun e w' => e = .returned (akV W[i]) ∧ Keeps (fun n => n = rb) w w' ∧ RefIn w' w.heap.size rb S (W.eraseIdx i) := by
  have b1 : Below w.heap.size w ((w.alloc (.cells #[.int .i64 0, .int .i64 0, .int .i64 0] 32)).alloc (.cells (akL W[i]).toArray 32)) := ((Below.refl _ w).alloc (Nat.le_refl _) _).alloc (by simp) _
  have hr := h.below b1
  have HR := Lib.hid hr
  obtain ⟨v, h1, h2, h3⟩ := h
  obtain ⟨oa, cap, rfl, g1, g2, g3⟩ := h2.slIn akL_length
  unfold maxLen at g2
  have H1 := Lib.hid ((obj_below b1 (lt_of_obj h1)).trans h1)
  have H3 := Lib.hid ((h2.below b1).slIn akL_length)
  have hz := lt_of_obj h1
  have c0w : w.cell? ⟨rb, 2, none⟩ = some (.slice oa W.length cap) := cell_at h1 2
  obtain ⟨b, off, hoa, hbb, hrow⟩ := g3 (by omega)
  subst hoa
  have hs0 := hrow i hi
  have B1 := Lib.hid b1
  have hrow51 := hide_row51
  have HEND : Hid ((W.take W.length).eraseIdx i = W.eraseIdx i) := Lib.hid (by rw [List.take_length])
  have HC := Lib.hid (show akV W[i] = akV W[i] from rfl)
  have OA : Hid (obj ((w.alloc (.cells #[.int .i64 0, .int .i64 0, .int .i64 0] 32)).alloc (.cells (akL W[i]).toArray 32)) w.heap.size = some (.cells #[.int .i64 0, .int .i64 0, .int .i64 0] 32 (0, 0))) := Lib.hid ((obj_alloc_past _ _ _ (by simp)).trans (obj_alloc_at _ _ _ rfl))
  have OB : Hid (obj ((w.alloc (.cells #[.int .i64 0, .int .i64 0, .int .i64 0] 32)).alloc (.cells (akL W[i]).toArray 32)) (w.heap.size + 1) = some (.cells (akL W[i]).toArray 32 (0, 0))) := Lib.hid (obj_alloc_at _ _ _ (by simp))
  clear h1 h2 h3 g3 b1 hr hrow
  generalize hwi : W[i] = wi at *
  simp only [akL] at *
  go_enter Try.func45, Try.ntmps45
  go_wp2
  have hsz1 : ((w.alloc (.cells #[.int .i64 0, .int .i64 0, .int .i64 0] 32)).alloc (.cells #[.int .i64 wi.id, .int .i64 wi.node, .int .i64 wi.kind] 32)).heap.size = w.heap.size + 1 + 1 := by simp
  generalize (w.alloc (.cells #[.int .i64 0, .int .i64 0, .int .i64 0] 32)).alloc (.cells #[.int .i64 wi.id, .int .i64 wi.node, .int .i64 wi.kind] 32) = w1 at *
  have hz1 : rb < w1.heap.size := by omega
  go_loopw [6, 7] (fun v6 v7 wr => ∃ k : Nat, k ≤ W.length ∧ v7 = .int .i64 k ∧ Hid (OwnS wr w1.heap.size 32 3 akL v6 ((W.take k).eraseIdx i)) ∧ Hid (Below w1.heap.size w1 wr)) (fun _ i _ => W.length - (intOf i).toNat)
  case atStart => exact ⟨0, Nat.zero_le _, rfl, Lib.hid (by simpa using OwnS.nil _ _ _ _ _), Lib.hid (Below.refl _ _)⟩
  case round =>
    obtain ⟨k, hk, rfl, HO, HB⟩ := hrel
    have ob := (obj_below HB.out hz1).trans H1.out
    have c0 : wr.cell? ⟨rb, 2, none⟩ = some (.slice (some ⟨b, off, none⟩) W.length cap) := cell_at ob 2
    have hzr := lt_of_obj ob
    by_cases hlt : k < W.length
    · obtain ⟨_, _, e3, _, _, q3⟩ := H3.out
      simp only [Value.slice.injEq] at e3
      obtain ⟨rfl, _, rfl⟩ := e3
      obtain ⟨b', off', e4, hbb', hrow⟩ := q3 (by omega)
      simp only [Option.some.injEq, Addr.mk.injEq, and_true] at e4
      obtain ⟨rfl, rfl⟩ := e4
      have hs1 := hrow k hlt
      rw [← obj_below HB.out hbb'] at hs1
      have hbl : b < wr.heap.size := Nat.lt_of_lt_of_le hbb' HB.out.size
      by_cases hki : k = i
      · subst hki
        have hq : ((k : Int) != (k : Int)) = false := by simp
        have HN : Hid (OwnS wr w1.heap.size 32 3 akL u6 ((W.take (k + 1)).eraseIdx k)) := Lib.hid (by
          have := HO.out
          rw [List.eraseIdx_of_length_le (by simp; omega)] at this
          rw [take_snocA hlt, List.eraseIdx_append_of_length_le (by simp; omega)]
          simpa [show min k W.length = k by omega] using this)
        clear ob hrow hs1 HO q3
        go_wp2
        go_roundw
        case rel => exact ⟨k + 1, by omega, by go_num, HN, HB⟩
        case measure => simp [intOf]; omega
      · have hq : ((k : Int) != (i : Int)) = true := by simp; omega
        have HE : Hid ((W.take (k + 1)).eraseIdx i = (W.take k).eraseIdx i ++ [W[k]]) := Lib.hid (by
          rw [take_snocA hlt]
          by_cases h : i < k
          · rw [List.eraseIdx_append_of_lt_length (by simp; omega)]
          · rw [List.eraseIdx_of_length_le (by simp; omega), List.eraseIdx_of_length_le (by simp; omega)])
        have hln : ((W.take k).eraseIdx i).length ≤ 1048576 := by
          have := List.length_eraseIdx_le (l := W.take k) (i := i)
          simp at this
          omega
        generalize W[k] = x at *
        have hbase : w1.heap.size ≤ (wr.alloc (.cells #[.int .i64 x.id, .int .i64 x.node, .int .i64 x.kind] 32)).heap.size := by have := HB.out.size; simp; omega
        clear ob hrow q3
        go_wp2_with (at_builtin; refine push32 rfl _ _ rfl w1.heap.size _ _ x rfl (HO.out.alloc _) wr.heap.size rfl (obj_alloc_at _ _ _ rfl) hln hbase ?_; intro v' w5 hown5 hb5 _)
        have HB5 := Lib.hid ((HB.out.alloc (by have := HB.out.size; omega) (.cells #[.int .i64 x.id, .int .i64 x.node, .int .i64 x.kind] 32)).trans hb5)
        have HO5 := Lib.hid hown5
        rw [← HE.out] at HO5
        clear hown5 hb5
        go_wp2
        go_roundw
        case rel => exact ⟨k + 1, by omega, by go_num, HO5, HB5⟩
        case measure => simp [intOf]; omega
    · have hk' : k = W.length := by omega
      subst hk'
      obtain ⟨oz, cz, e6⟩ := HO.out.slice
      subst e6
      have HX := Lib.hid (HR.out.set_list HB.out HO.out)
      rw [HEND.out] at HX
      have fz := frozen_at ob
      have oa := (obj_below HB.out (lt_of_obj OA.out)).trans OA.out
      have obb := (obj_below HB.out (lt_of_obj OB.out)).trans OB.out
      have za := lt_of_obj oa
      have zb := lt_of_obj obb
      have na : w.heap.size ≠ rb := by omega
      have nb : w.heap.size + 1 ≠ rb := by omega
      clear ob HO
      go_wp2
      have oo : obj (putObj (wr.setCell ⟨rb, 2, none⟩ (.slice oz (W.eraseIdx i).length cz)) w.heap.size (.cells #[.int .i64 wi.id, .int .i64 wi.node, .int .i64 wi.kind] 32)) w.heap.size = some (.cells #[.int .i64 wi.id, .int .i64 wi.node, .int .i64 wi.kind] 32 (0, 0)) := obj_putObj_eq _ _ _ (by simpa using za)
      refine bodyPost_ret (results_cell rfl _ rfl (by rw [run_load32, oo]; rfl)) rfl ?_
      refine ⟨rfl, ?_, (HX.out.2.putNew (by omega) na _).low (by omega)⟩
      exact ⟨HX.out.1.os.trans B1.out.os, HX.out.1.tape.trans B1.out.tape, HX.out.1.output.trans B1.out.output, by have := HX.out.1.size; rw [size_putObj]; omega, fun n hn hne => (obj_putObj_ne _ _ _ _ (by omega)).trans ((HX.out.1.block n (by omega) hne).trans (obj_below B1.out hn))⟩
end Go.Proofs.Ytnaknoebjbmboaa
