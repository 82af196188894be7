import Derived.Test.YtagpclgappcnbaaBeLeast
import Derived.Maps.AppendAt
namespace Go.Proofs.Ytagpclgappcnbaa.Be
open Go.RowKit

theorem row_upd {cur cur' : Array Value} {s : List St} {i : Nat} {y : St} (h : cur.toList.take (s.length * 3) = s.flatMap stL) (hi : i < s.length) (hsz : s.length * 3 ≤ cur.size) (hsz' : cur'.size = cur.size)
    (ho : ∀ j, j ≠ i * 3 → j ≠ i * 3 + 1 → j ≠ i * 3 + 2 → cur'[j]? = cur[j]?) (h0 : cur'[i * 3]? = some (.int .i64 y.f)) (h1 : cur'[i * 3 + 1]? = some (.int .i64 y.s)) (h2 : cur'[i * 3 + 2]? = some (.int .i64 y.u)) :
    cur'.toList.take (s.length * 3) = (s.set i y).flatMap stL := by
  have hls : (s.set i y).length = s.length := List.length_set
  apply List.ext_getElem?
  intro j
  by_cases hj : j < s.length * 3
  · have hq : j / 3 < s.length := by omega
    have e : j / 3 * 3 + j % 3 = j := by omega
    have hr : j % 3 < 3 := Nat.mod_lt _ (by decide)
    have hL := flatMap_getD stL_length (s.set i y) (j / 3) (j % 3) (by rw [hls]; exact hq) hr
    have hC := flatMap_getD stL_length s (j / 3) (j % 3) hq hr
    rw [e] at hL hC
    rw [List.getElem?_take_of_lt hj, Array.getElem?_toList, hL]
    by_cases hji : j / 3 = i
    · have hg : (s.set i y)[j / 3]'(by rw [hls]; exact hq) = y := by simp [hji]
      rw [hg]
      have : j % 3 = 0 ∨ j % 3 = 1 ∨ j % 3 = 2 := by omega
      rcases this with r | r | r
      · rw [r, show j = i * 3 by omega, h0]; rfl
      · rw [r, show j = i * 3 + 1 by omega, h1]; rfl
      · rw [r, show j = i * 3 + 2 by omega, h2]; rfl
    · have hg : (s.set i y)[j / 3]'(by rw [hls]; exact hq) = s[j / 3] := by rw [List.getElem_set]; rw [if_neg (fun e => hji e.symm)]
      rw [hg, ← hC, ← h, List.getElem?_take_of_lt hj, Array.getElem?_toList]
      exact ho j (by omega) (by omega) (by omega)
  · rw [List.getElem?_eq_none (by simp; omega), List.getElem?_eq_none (by rw [flatMap_len stL_length, hls]; omega)]
theorem splice_get (cur cs : Array Value) (o j : Nat) (h : o + cs.size ≤ cur.size) : (spliceA cur o cs)[j]? = if o ≤ j ∧ j < o + cs.size then cs[j - o]? else cur[j]? := by
  unfold spliceA
  simp only [List.getElem?_toArray, List.getElem?_append, List.length_append, List.length_take, Array.length_toList, List.getElem?_take, List.getElem?_drop, Array.getElem?_toList]
  by_cases h1 : j < o
  · rw [if_neg (fun hh : o ≤ j ∧ j < o + cs.size => by omega)]
    rw [if_pos (by omega), if_pos (by omega), if_pos h1]
  · by_cases h2 : j < o + cs.size
    · simp [h1, h2, show min o cur.size = o by omega, show o ≤ j by omega]
    · simp [h1, h2, show min o cur.size = o by omega]
      congr 1; omega
theorem pushAll50 {ops : Array Oper} {rest : List Oper} {o : Oper} {a : Act} {w : World} {Q : Exit → Act → World → Prop} (hgd : o.guard = none) (s x : Operand) (ho : o.op = .call { callee := .builtin .append, args := #[s, x], argTypes := #[71, 71] })
    (base : Nat) (v : Value) (n : Nat) (cur : List Value) (hs : a.eval s = v) (hown : w.ownsRow base 123 3 v n cur) (g off c : Nat) (ys : List St) (hx : a.eval x = .slice (some ⟨g, off, none⟩) ys.length c)
    (hc : ∀ j u, (ys.flatMap stL)[j]? = some u → w.cell? ⟨g, off + j, none⟩ = some u)
    (hlen : n + ys.length ≤ 1048576) (hbase : base ≤ w.heap.size)
    (h : ∀ v' w', w'.ownsRow base 123 3 v' (n + ys.length) (cur ++ ys.flatMap stL) → w.grownBy w' v.ownBlock → (v' = .slice none 0 0 ↔ v = .slice none 0 0 ∧ ys.length = 0) → wpList Try.prog ops Q rest (a.put o.dst v') w') : wpList Try.prog ops Q (o :: rest) a w := by
  obtain ⟨i0, hi, hz0, hz1, hz2⟩ := info_parts info50
  refine wpList_append_own (P := Try.prog) w hgd s x 71 ho base 123 i0 _ 3 24 Try.underlying71 hi hz0 hz1 hz2 (by simp [Value.cells]) (by decide) v n cur hs hown ⟨g, off, none⟩ ys.length c (ys.flatMap stL) hx (flatMap_len stL_length _) (fun j u hj => ?_) (fun u hu => ?_) (by unfold maxLen; omega) (by omega) hbase h
  · rw [Addr.add_lit]; exact hc j u hj
  · obtain ⟨x, _, hx⟩ := List.mem_flatMap.1 hu
    have := stL_one x
    simp only [allOne, List.all_eq_true] at this
    exact this u hx
set_option maxRecDepth 100000 in
set_option maxHeartbeats 1000000 in
theorem clone_any (w : World) (v : Value) (s : List St) (h : SlIn w v 3 stL s) (hpos : 0 < s.length) (hlen : s.length ≤ 1048576) : Calls Try.prog 74 #[v] w (RetOwn w 123 3 stL s) := by
  have hq : ∀ (w : World) (a : Option Addr) (n c n' c' : Nat), (binOp .eql 71 (.slice a n c) (.slice none n' c')).run Try.prog w = .ok (.bool a.isNone) w := fun w a n c n' c' => Lib.run_eql_slice_nil w 71 123 a n c n' c' Try.underlying71
  obtain ⟨oa, cap, rfl, g1, g2, g3⟩ := h
  obtain ⟨b, off, rfl, hbb, hrow⟩ := g3 hpos
  have HC : Hid (∀ j u, (s.flatMap stL)[j]? = some u → (w.alloc (.cells #[] 123)).cell? ⟨b, off + j, none⟩ = some u) := Lib.hid (fun j u hj => by
    rw [← row_cells stL_length (by decide) hrow hj]
    exact World.cell?_of_block (w := w) (a := ⟨b, off + j, none⟩) (obj_alloc_past _ _ _ hbb))
  have h0b : (Instr.buildSlice 71 0 #[]).run Try.prog w = .ok (.slice (some ⟨w.heap.size, 0, none⟩) 0 0) (w.alloc (.cells #[] 123)) := by kernel_rfl
  have HOW : Hid ((w.alloc (.cells #[] 123)).ownsRow w.heap.size 123 3 (.slice (some ⟨w.heap.size, 0, none⟩) 0 0) 0 []) := Lib.hid ⟨rfl, .inr ⟨w.heap.size, 0, #[], rfl, Nat.le_refl _, obj_alloc_at _ _ _ rfl, Nat.le_refl _, by unfold maxLen; omega, rfl, rfl⟩⟩
  clear g3 hrow
  go_enter Try.func74, Try.ntmps74
  go_wp2_with (at_builtin; refine pushAll50 rfl _ _ rfl w.heap.size (.slice (some ⟨w.heap.size, 0, none⟩) 0 0) 0 [] rfl HOW.out b off cap s rfl HC.out (by omega) (by simp) ?_; intro v' w' q1 q2 q3)
  go_ret
  refine ⟨_, rfl, ⟨by simpa using q1, ?_⟩, ?_⟩
  · constructor
    · intro e
      have := (q3.1 e).2
      omega
    · rintro rfl; simp at hpos
  · exact ((Below.refl _ w).alloc (Nat.le_refl _) _).grown q2 (by simp) (fun k e => by simp [Value.ownBlock] at e; omega)
set_option maxRecDepth 100000 in
set_option maxHeartbeats 1000000 in
theorem turned_any (w : World) (v : Value) (s : List St) (i : Nat) (h : SlIn w v 3 stL s) (hi : i < s.length) (hlen : s.length ≤ 1048576) (fn : Nat) (caps : Array Value) (eg : ∀ args w, (callFunc fn args).run Try.prog w = .ok (.enter fn args) w) (Post : Nat → Nat → World → Prop)
    (H : ∀ W g cap cur, Below w.heap.size w W → w.heap.size ≤ g → obj W g = some (.cells cur 123 (0, 0)) → cur.size = cap * 3 → s.length ≤ cap → cap ≤ maxLen → cur.toList.take (s.length * 3) = s.flatMap stL → Calls Try.prog fn (#[.pointer (some ⟨g, i * 3, none⟩)] ++ caps) W (fun e W' => (∃ u, e = .returned u) ∧ Post g cap W')) :
    Calls Try.prog 72 #[v, .int .i64 i, .func (.func fn) #[] caps] w fun e w' => ∃ g cap, e = .returned (.slice (some ⟨g, 0, none⟩) s.length cap) ∧ Post g cap w' := by
  have HCL := Lib.hid (clone_any w v s h (by omega) hlen)
  have HH := Lib.hid H
  clear H h
  go_enter Try.func72, Try.ntmps72
  go_wp2_with fail
  refine HCL.out.mono ?_
  rintro e w2 ⟨v2, rfl, hown, b2⟩
  rcases hown.1.2 with ⟨_, h0⟩ | ⟨g, cap, cur, rfl, hb, hg, h1, h2, h3, h4⟩
  · omega
  · have HC := Lib.hid (HH.out w2 g cap cur b2 hb hg h3 h1 h2 h4)
    have hcz : i < s.length := hi
    clear hown hg h4 HH HCL
    go_wp2_with fail
    refine HC.out.mono ?_
    rintro e w3 ⟨⟨u, rfl⟩, hp⟩
    go_wp2
    go_ret
    exact ⟨g, cap, rfl, hp⟩
/-- a row behind a turn -/
def TurnPost (w : World) (s : List St) (i : Nat) (y : St) (g cap : Nat) (W' : World) : Prop :=
  OwnS W' w.heap.size 123 3 stL (.slice (some ⟨g, 0, none⟩) s.length cap) (s.set i y) ∧ Below w.heap.size w W'
theorem turnPost_of {w W' : World} {s : List St} {i g cap : Nat} {cur' : Array Value} {y : St} (hi : i < s.length) (hg : w.heap.size ≤ g) (ho : obj W' g = some (.cells cur' 123 (0, 0))) (hc : cur'.size = cap * 3) (h1 : s.length ≤ cap) (h2 : cap ≤ maxLen) (ht : cur'.toList.take (s.length * 3) = (s.set i y).flatMap stL) (hb : Below w.heap.size w W') : TurnPost w s i y g cap W' := by
  have hl : (s.set i y).length = s.length := List.length_set
  refine ⟨⟨⟨by rw [flatMap_len stL_length], .inr ⟨g, cap, cur', by rw [hl], hg, ho, by rw [hl]; exact h1, h2, hc, by rw [hl]; exact ht⟩⟩, ?_⟩, hb⟩
  constructor
  · intro e; cases e
  · intro e; rw [e] at hl; simp at hl; omega
theorem eg41 : ∀ args w, (callFunc 73 args).run Try.prog w = .ok (.enter 73 args) w := enters_of Try.func73 (by kernel_rfl) rfl
theorem eg44 : ∀ args w, (callFunc 78 args).run Try.prog w = .ok (.enter 78 args) w := enters_of Try.func78 (by kernel_rfl) rfl
theorem cur_cell {W : World} {g : Nat} {cur : Array Value} {s : List St} {i r : Nat} (ho : obj W g = some (.cells cur 123 (0, 0))) (ht : cur.toList.take (s.length * 3) = s.flatMap stL) (hi : i < s.length) (hr : r < 3) : W.cell? ⟨g, i * 3 + r, none⟩ = (stL s[i])[r]? := by
  rw [cell_at ho, ← Array.getElem?_toList, ← flatMap_getD stL_length s i r hi hr, ← ht, List.getElem?_take_of_lt (by omega)]
set_option maxRecDepth 100000 in
set_option maxHeartbeats 1000000 in
theorem replied_cl (w : World) (s : List St) (i : Nat) (hi : i < s.length) (W : World) (g cap : Nat) (cur : Array Value) (hb : Below w.heap.size w W) (hg : w.heap.size ≤ g) (ho : obj W g = some (.cells cur 123 (0, 0))) (hc : cur.size = cap * 3) (h1 : s.length ≤ cap) (h2 : cap ≤ maxLen) (ht : cur.toList.take (s.length * 3) = s.flatMap stL) :
    Calls Try.prog 73 (#[.pointer (some ⟨g, i * 3, none⟩)] ++ #[]) W (fun e W' => (∃ u, e = .returned u) ∧ TurnPost w s i ⟨0, 0, s[i].u⟩ g cap W') := by
  have hz := lt_of_obj ho
  have f0 : ∀ j, W.frozen? ⟨g, j, none⟩ = false := frozen_at ho
  have c0 := cur_cell ho ht hi (r := 0) (by decide)
  have c1 := cur_cell ho ht hi (r := 1) (by decide)
  have c2 := cur_cell ho ht hi (r := 2) (by decide)
  simp only [Nat.add_zero] at c0
  have fin : TurnPost w s i ⟨0, 0, s[i].u⟩ g cap ((W.setCell ⟨g, i * 3, none⟩ (.int .i64 0)).setCell ⟨g, i * 3 + 1, none⟩ (.int .i64 0)) := by
    refine turnPost_of hi hg (obj_setCell_at _ (obj_setCell_at _ ho)) (by simpa using hc) h1 h2 ?_ ((hb.setCell hg _).setCell hg _)
    refine row_upd ht hi (by omega) (by simp) (fun j j0 j1 j2 => ?_) ?_ ?_ ?_
    · rw [Array.getElem?_setIfInBounds_ne (by omega), Array.getElem?_setIfInBounds_ne (by omega)]
    · rw [Array.getElem?_setIfInBounds_ne (by omega), Array.getElem?_setIfInBounds_self_of_lt (by omega)]
    · rw [Array.getElem?_setIfInBounds_self_of_lt (by simp; omega)]
    · rw [Array.getElem?_setIfInBounds_ne (by omega), Array.getElem?_setIfInBounds_ne (by omega)]
      rw [cell_at ho] at c2
      exact c2
  have FIN := Lib.hid fin
  clear fin ht hb
  simp only [stL, List.getElem?_cons_zero, List.getElem?_cons_succ] at c0 c1 c2
  simp only [Array.append_empty]
  go_enter Try.func73, Try.ntmps73
  go_wp2
  go_end0
  exact ⟨⟨_, rfl⟩, FIN.out⟩
end Go.Proofs.Ytagpclgappcnbaa.Be
