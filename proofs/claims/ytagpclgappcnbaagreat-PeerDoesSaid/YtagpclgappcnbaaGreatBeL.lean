import Derived.Test.YtagpclgappcnbaaGreatBeS
import Derived.Test.YtagpclgappcnbaaGreatBeShelf
import Derived.Lib.SliceRun
import Derived.Maps.AppendAt
namespace Go.Proofs.YtagpclgappcnbaaGreat.Be
open Go.RowKit

/-- vdr.AtLeast, of numbers that are not below 0 -/
def alG (s t n d : Nat) : Bool := decide (1 ≤ d) && decide (t * n ≤ s * d)
theorem hi_lo (a b : Nat) : (decide ((b / 18446744073709551616 : Nat) < (a / 18446744073709551616 : Nat)) || ((a / 18446744073709551616 : Nat) == b / 18446744073709551616) && decide (b % 18446744073709551616 ≤ a % 18446744073709551616)) = decide (b ≤ a) := by
  rw [Bool.eq_iff_iff]
  simp
  omega
theorem wrapU (x : Int) (h0 : 0 ≤ x) (h1 : x < 18446744073709551616) : IntKind.u64.wrap x = x := by
  simp [IntKind.wrap, IntKind.signed, IntKind.bits]; omega
set_option maxHeartbeats 1000000 in
theorem leastA (s t n d : Nat) (hs : s < 9223372036854775808) (ht : t < 9223372036854775808) (hn : n < 9223372036854775808) (hd : d < 9223372036854775808) (w : World) :
    Calls Tryz.prog 107 #[.int .i64 s, .int .i64 t, .int .i64 n, .int .i64 d] w fun e w' => e = .returned (.bool (alG s t n d)) ∧ w = w' := by
  have w1 := wrapU s (by omega) (by omega)
  have w2 := wrapU t (by omega) (by omega)
  have w3 := wrapU n (by omega) (by omega)
  have w4 := wrapU d (by omega) (by omega)
  by_cases h : 1 ≤ d
  · have hd' : ¬ (d : Int) < 1 := by omega
    have HR := Lib.hid (show alG s t n d = decide (t * n ≤ s * d) by unfold alG; simp [h])
    have HM := Lib.hid (fun W => Tryz.bits_Mul64 s d (by omega) (by omega) W)
    have HM2 := Lib.hid (fun W => Tryz.bits_Mul64 t n (by omega) (by omega) W)
    have HE := Lib.hid (hi_lo (s * d) (t * n))
    generalize (s * d / 18446744073709551616 : Nat) = p1 at *
    generalize (s * d % 18446744073709551616 : Nat) = p2 at *
    generalize (t * n / 18446744073709551616 : Nat) = p3 at *
    generalize (t * n % 18446744073709551616 : Nat) = p4 at *
    go_enter Tryz.func107, Tryz.ntmps107
    go_wp2_with fail
    refine (HM.out w).mono ?_
    rintro e wa ⟨rfl, rfl⟩
    go_wp2_with fail
    refine (HM2.out _).mono ?_
    rintro e wa ⟨rfl, rfl⟩
    go_wp2
    all_goals (go_ret; refine ⟨ret_bool ?_, rfl⟩; rw [HR.out, ← HE.out, Bool.eq_iff_iff]; simp_all <;> omega)
  · have hd' : (d : Int) < 1 := by omega
    have HR := Lib.hid (show alG s t n d = false by unfold alG; simp [h])
    go_enter Tryz.func107, Tryz.ntmps107
    go_wp2
    go_ret
    exact ⟨ret_bool HR.out.symm, rfl⟩

/-! ### rows of seats -/
theorem info50 : (Tryz.prog.info? 138).map (fun i => (i.zero, i.size, i.bytes)) = some (some (.agg #[.int .i64 0, .int .i64 0, .int .i64 0]), 3, 24) := by kernel_rfl
theorem flatMap_getD {α : Type} {k : Nat} {enc : α → List Value} (hk : ∀ x, (enc x).length = k) : ∀ (xs : List α) (i r : Nat) (h : i < xs.length), r < k → (xs.flatMap enc)[i * k + r]? = (enc xs[i])[r]? := by
  intro xs i r h hr
  have := flatMap_sub hk xs i h
  have e : (((xs.flatMap enc).drop (i * k)).take k)[r]? = (enc xs[i])[r]? := by rw [this]
  rwa [List.getElem?_take_of_lt hr, List.getElem?_drop] at e
theorem row_cells {α : Type} {w : World} {b off k : Nat} {enc : α → List Value} (hk : ∀ x, (enc x).length = k) (h0 : 0 < k) {xs : List α} (h : RowAt w b off k enc xs) {j : Nat} {u : Value} (hj : (xs.flatMap enc)[j]? = some u) : w.cell? ⟨b, off + j, none⟩ = some u := by
  have hlt : j < xs.length * k := by
    rw [← flatMap_len hk]
    exact (List.getElem?_eq_some_iff.1 hj).1
  have hi : j / k < xs.length := Nat.div_lt_of_lt_mul (by rw [Nat.mul_comm]; exact hlt)
  have hr : j % k < k := Nat.mod_lt _ h0
  have e : j / k * k + j % k = j := by rw [Nat.mul_comm]; exact Nat.div_add_mod j k
  have := subOf_cell (h _ hi) hr
  have h5 : ((enc xs[j / k]).toArray)[j % k]? = some u := by
    rw [List.getElem?_toArray, ← flatMap_getD hk xs _ _ hi hr, e]; exact hj
  rw [h5] at this
  rw [← this]
  congr 2
  omega
theorem zeros_flat : ∀ n, (List.replicate n (⟨0, 0, 0⟩ : St)).flatMap stL = List.replicate (n * 3) (Value.int .i64 0) := by
  intro n
  induction n with
  | zero => rfl
  | succ n ih => rw [List.replicate_succ, List.flatMap_cons, ih, show (n + 1) * 3 = n * 3 + 1 + 1 + 1 by omega, List.replicate_succ, List.replicate_succ, List.replicate_succ]; rfl
theorem makeSeats (n : Nat) (h1 : 1 ≤ n) (h2 : n ≤ 32) (w : World) : Calls Tryz.prog 24 #[.int .i64 n] w fun e w' => ∃ v, e = .returned (.tuple #[v, .int .i64 0]) ∧ OwnS w' w.heap.size 138 3 stL v (List.replicate n ⟨0, 0, 0⟩) ∧ Below w.heap.size w w' := by
  have h3 : ¬ (n : Int) < 1 := by omega
  have h4 : ¬ (32 : Int) < n := by omega
  obtain ⟨i0, hi, hz0, hz1, hz2⟩ := info_parts info50
  obtain ⟨w', hm, hown, hg⟩ := run_makeSlice_full (P := Tryz.prog) w w.heap.size 55 138 i0 _ 3 Tryz.underlying55 hi hz0 hz1 .i64 .i64 n (by omega) (by rw [hz2]; omega) (by unfold maxLen; omega) (Nat.le_refl _)
  have hz : (madeCells (Value.agg #[.int .i64 0, .int .i64 0, .int .i64 0]).cells (n * 3)).toList = (List.replicate n (⟨0, 0, 0⟩ : St)).flatMap stL := by
    rw [zeros_flat, List.eq_replicate_iff]
    refine ⟨by simp [madeCells], fun b hb => ?_⟩
    change b ∈ (madeCells #[.int .i64 0, .int .i64 0, .int .i64 0] (n * 3)).toList at hb
    unfold madeCells at hb
    rw [Array.toList_map, List.mem_map] at hb
    obtain ⟨i, _, rfl⟩ := hb
    have : i % 3 = 0 ∨ i % 3 = 1 ∨ i % 3 = 2 := by omega
    change (#[Value.int .i64 0, .int .i64 0, .int .i64 0] : Array Value)[i % 3]! = _
    rcases this with e | e | e <;> rw [e] <;> rfl
  rw [hz] at hown
  have HO := Lib.hid hown
  have HG := Lib.hid hg
  clear hown hz hi hz0 hz1 hz2 hg
  go_enter Tryz.func24, Tryz.ntmps24
  go_wp2
  go_ret2
  refine ⟨_, rfl, ⟨by simpa using HO.out, ?_⟩, ?_⟩
  · constructor
    · intro e; cases e
    · intro e; have := congrArg List.length e; simp at this; omega
  · exact ((Below.refl _ w).grown HG.out (Nat.le_refl _) (fun k e => by cases e))
end Go.Proofs.YtagpclgappcnbaaGreat.Be
namespace Go.Proofs.YtagpclgappcnbaaGreat.Be
open Go.RowKit

theorem row_upd {cur cur' : Array Value} {s : List St} {i : Nat} {y : St} (h : cur.toList.take (s.length * 3) = s.flatMap stL) (hi : i < s.length) (hsz : s.length * 3 ≤ cur.size) (hsz' : cur'.size = cur.size)
    (ho : ∀ j, j ≠ i * 3 → j ≠ i * 3 + 1 → j ≠ i * 3 + 2 → cur'[j]? = cur[j]?) (h0 : cur'[i * 3]? = some (.int .i64 y.f)) (h1 : cur'[i * 3 + 1]? = some (.int .i64 y.s)) (h2 : cur'[i * 3 + 2]? = some (.int .i64 y.u)) :
    cur'.toList.take (s.length * 3) = (s.set i y).flatMap stL := by
  have hls : (s.set i y).length = s.length := List.length_set
  apply List.ext_getElem?
  intro j
  by_cases hj : j < s.length * 3
  · have hq : j / 3 < s.length := by omega
    have e : j / 3 * 3 + j % 3 = j := by omega
    have hr : j % 3 < 3 := Nat.mod_lt _ (by decide)
    have hL := flatMap_getD stL_length (s.set i y) (j / 3) (j % 3) (by rw [hls]; exact hq) hr
    have hC := flatMap_getD stL_length s (j / 3) (j % 3) hq hr
    rw [e] at hL hC
    rw [List.getElem?_take_of_lt hj, Array.getElem?_toList, hL]
    by_cases hji : j / 3 = i
    · have hg : (s.set i y)[j / 3]'(by rw [hls]; exact hq) = y := by simp [hji]
      rw [hg]
      have : j % 3 = 0 ∨ j % 3 = 1 ∨ j % 3 = 2 := by omega
      rcases this with r | r | r
      · rw [r, show j = i * 3 by omega, h0]; rfl
      · rw [r, show j = i * 3 + 1 by omega, h1]; rfl
      · rw [r, show j = i * 3 + 2 by omega, h2]; rfl
    · have hg : (s.set i y)[j / 3]'(by rw [hls]; exact hq) = s[j / 3] := by rw [List.getElem_set]; rw [if_neg (fun e => hji e.symm)]
      rw [hg, ← hC, ← h, List.getElem?_take_of_lt hj, Array.getElem?_toList]
      exact ho j (by omega) (by omega) (by omega)
  · rw [List.getElem?_eq_none (by simp; omega), List.getElem?_eq_none (by rw [flatMap_len stL_length, hls]; omega)]
theorem splice_get (cur cs : Array Value) (o j : Nat) (h : o + cs.size ≤ cur.size) : (spliceA cur o cs)[j]? = if o ≤ j ∧ j < o + cs.size then cs[j - o]? else cur[j]? := by
  unfold spliceA
  simp only [List.getElem?_toArray, List.getElem?_append, List.length_append, List.length_take, Array.length_toList, List.getElem?_take, List.getElem?_drop, Array.getElem?_toList]
  by_cases h1 : j < o
  · rw [if_neg (fun hh : o ≤ j ∧ j < o + cs.size => by omega)]
    rw [if_pos (by omega), if_pos (by omega), if_pos h1]
  · by_cases h2 : j < o + cs.size
    · simp [h1, h2, show min o cur.size = o by omega, show o ≤ j by omega]
    · simp [h1, h2, show min o cur.size = o by omega]
      congr 1; omega
theorem pushAll50 {ops : Array Oper} {rest : List Oper} {o : Oper} {a : Act} {w : World} {Q : Exit → Act → World → Prop} (hgd : o.guard = none) (s x : Operand) (ho : o.op = .call { callee := .builtin .append, args := #[s, x], argTypes := #[55, 55] })
    (base : Nat) (v : Value) (n : Nat) (cur : List Value) (hs : a.eval s = v) (hown : w.ownsRow base 138 3 v n cur) (g off c : Nat) (ys : List St) (hx : a.eval x = .slice (some ⟨g, off, none⟩) ys.length c)
    (hc : ∀ j u, (ys.flatMap stL)[j]? = some u → w.cell? ⟨g, off + j, none⟩ = some u)
    (hlen : n + ys.length ≤ 1048576) (hbase : base ≤ w.heap.size)
    (h : ∀ v' w', w'.ownsRow base 138 3 v' (n + ys.length) (cur ++ ys.flatMap stL) → w.grownBy w' v.ownBlock → (v' = .slice none 0 0 ↔ v = .slice none 0 0 ∧ ys.length = 0) → wpList Tryz.prog ops Q rest (a.put o.dst v') w') : wpList Tryz.prog ops Q (o :: rest) a w := by
  obtain ⟨i0, hi, hz0, hz1, hz2⟩ := info_parts info50
  refine wpList_append_own (P := Tryz.prog) w hgd s x 55 ho base 138 i0 _ 3 24 Tryz.underlying55 hi hz0 hz1 hz2 (by simp [Value.cells]) (by decide) v n cur hs hown ⟨g, off, none⟩ ys.length c (ys.flatMap stL) hx (flatMap_len stL_length _) (fun j u hj => ?_) (fun u hu => ?_) (by unfold maxLen; omega) (by omega) hbase h
  · rw [Addr.add_lit]; exact hc j u hj
  · obtain ⟨x, _, hx⟩ := List.mem_flatMap.1 hu
    have := stL_one x
    simp only [allOne, List.all_eq_true] at this
    exact this u hx
set_option maxRecDepth 100000 in
set_option maxHeartbeats 1000000 in
theorem clone_any (w : World) (v : Value) (s : List St) (h : SlIn w v 3 stL s) (hpos : 0 < s.length) (hlen : s.length ≤ 1048576) : Calls Tryz.prog 106 #[v] w (RetOwn w 138 3 stL s) := by
  have hq : ∀ (w : World) (a : Option Addr) (n c n' c' : Nat), (binOp .eql 55 (.slice a n c) (.slice none n' c')).run Tryz.prog w = .ok (.bool a.isNone) w := fun w a n c n' c' => Lib.run_eql_slice_nil w 55 138 a n c n' c' Tryz.underlying55
  obtain ⟨oa, cap, rfl, g1, g2, g3⟩ := h
  obtain ⟨b, off, rfl, hbb, hrow⟩ := g3 hpos
  have HC : Hid (∀ j u, (s.flatMap stL)[j]? = some u → (w.alloc (.cells #[] 138)).cell? ⟨b, off + j, none⟩ = some u) := Lib.hid (fun j u hj => by
    rw [← row_cells stL_length (by decide) hrow hj]
    exact World.cell?_of_block (w := w) (a := ⟨b, off + j, none⟩) (obj_alloc_past _ _ _ hbb))
  have h0b : (Instr.buildSlice 55 0 #[]).run Tryz.prog w = .ok (.slice (some ⟨w.heap.size, 0, none⟩) 0 0) (w.alloc (.cells #[] 138)) := by kernel_rfl
  have HOW : Hid ((w.alloc (.cells #[] 138)).ownsRow w.heap.size 138 3 (.slice (some ⟨w.heap.size, 0, none⟩) 0 0) 0 []) := Lib.hid ⟨rfl, .inr ⟨w.heap.size, 0, #[], rfl, Nat.le_refl _, obj_alloc_at _ _ _ rfl, Nat.le_refl _, by unfold maxLen; omega, rfl, rfl⟩⟩
  clear g3 hrow
  go_enter Tryz.func106, Tryz.ntmps106
  go_wp2_with (at_builtin; refine pushAll50 rfl _ _ rfl w.heap.size (.slice (some ⟨w.heap.size, 0, none⟩) 0 0) 0 [] rfl HOW.out b off cap s rfl HC.out (by omega) (by simp) ?_; intro v' w' q1 q2 q3)
  go_ret
  refine ⟨_, rfl, ⟨by simpa using q1, ?_⟩, ?_⟩
  · constructor
    · intro e
      have := (q3.1 e).2
      omega
    · rintro rfl; simp at hpos
  · exact ((Below.refl _ w).alloc (Nat.le_refl _) _).grown q2 (by simp) (fun k e => by simp [Value.ownBlock] at e; omega)
set_option maxRecDepth 100000 in
set_option maxHeartbeats 1000000 in
theorem turned_any (w : World) (v : Value) (s : List St) (i : Nat) (h : SlIn w v 3 stL s) (hi : i < s.length) (hlen : s.length ≤ 1048576) (fn : Nat) (caps : Array Value) (eg : ∀ args w, (callFunc fn args).run Tryz.prog w = .ok (.enter fn args) w) (Post : Nat → Nat → World → Prop)
    (H : ∀ W g cap cur, Below w.heap.size w W → w.heap.size ≤ g → obj W g = some (.cells cur 138 (0, 0)) → cur.size = cap * 3 → s.length ≤ cap → cap ≤ maxLen → cur.toList.take (s.length * 3) = s.flatMap stL → Calls Tryz.prog fn (#[.pointer (some ⟨g, i * 3, none⟩)] ++ caps) W (fun e W' => (∃ u, e = .returned u) ∧ Post g cap W')) :
    Calls Tryz.prog 110 #[v, .int .i64 i, .func (.func fn) #[] caps] w fun e w' => ∃ g cap, e = .returned (.slice (some ⟨g, 0, none⟩) s.length cap) ∧ Post g cap w' := by
  have HCL := Lib.hid (clone_any w v s h (by omega) hlen)
  have HH := Lib.hid H
  clear H h
  go_enter Tryz.func110, Tryz.ntmps110
  go_wp2_with fail
  refine HCL.out.mono ?_
  rintro e w2 ⟨v2, rfl, hown, b2⟩
  rcases hown.1.2 with ⟨_, h0⟩ | ⟨g, cap, cur, rfl, hb, hg, h1, h2, h3, h4⟩
  · omega
  · have HC := Lib.hid (HH.out w2 g cap cur b2 hb hg h3 h1 h2 h4)
    have hcz : i < s.length := hi
    clear hown hg h4 HH HCL
    go_wp2_with fail
    refine HC.out.mono ?_
    rintro e w3 ⟨⟨u, rfl⟩, hp⟩
    go_wp2
    go_ret
    exact ⟨g, cap, rfl, hp⟩
/-- a row behind a turn -/
def TurnPost (w : World) (s : List St) (i : Nat) (y : St) (g cap : Nat) (W' : World) : Prop :=
  OwnS W' w.heap.size 138 3 stL (.slice (some ⟨g, 0, none⟩) s.length cap) (s.set i y) ∧ Below w.heap.size w W'
theorem turnPost_of {w W' : World} {s : List St} {i g cap : Nat} {cur' : Array Value} {y : St} (hi : i < s.length) (hg : w.heap.size ≤ g) (ho : obj W' g = some (.cells cur' 138 (0, 0))) (hc : cur'.size = cap * 3) (h1 : s.length ≤ cap) (h2 : cap ≤ maxLen) (ht : cur'.toList.take (s.length * 3) = (s.set i y).flatMap stL) (hb : Below w.heap.size w W') : TurnPost w s i y g cap W' := by
  have hl : (s.set i y).length = s.length := List.length_set
  refine ⟨⟨⟨by rw [flatMap_len stL_length], .inr ⟨g, cap, cur', by rw [hl], hg, ho, by rw [hl]; exact h1, h2, hc, by rw [hl]; exact ht⟩⟩, ?_⟩, hb⟩
  constructor
  · intro e; cases e
  · intro e; rw [e] at hl; simp at hl; omega
theorem eg41 : ∀ args w, (callFunc 112 args).run Tryz.prog w = .ok (.enter 112 args) w := enters_of Tryz.func112 (by kernel_rfl) rfl
theorem eg44 : ∀ args w, (callFunc 111 args).run Tryz.prog w = .ok (.enter 111 args) w := enters_of Tryz.func111 (by kernel_rfl) rfl
theorem cur_cell {W : World} {g : Nat} {cur : Array Value} {s : List St} {i r : Nat} (ho : obj W g = some (.cells cur 138 (0, 0))) (ht : cur.toList.take (s.length * 3) = s.flatMap stL) (hi : i < s.length) (hr : r < 3) : W.cell? ⟨g, i * 3 + r, none⟩ = (stL s[i])[r]? := by
  rw [cell_at ho, ← Array.getElem?_toList, ← flatMap_getD stL_length s i r hi hr, ← ht, List.getElem?_take_of_lt (by omega)]
set_option maxRecDepth 100000 in
set_option maxHeartbeats 1000000 in
theorem replied_cl (w : World) (s : List St) (i : Nat) (hi : i < s.length) (W : World) (g cap : Nat) (cur : Array Value) (hb : Below w.heap.size w W) (hg : w.heap.size ≤ g) (ho : obj W g = some (.cells cur 138 (0, 0))) (hc : cur.size = cap * 3) (h1 : s.length ≤ cap) (h2 : cap ≤ maxLen) (ht : cur.toList.take (s.length * 3) = s.flatMap stL) :
    Calls Tryz.prog 112 (#[.pointer (some ⟨g, i * 3, none⟩)] ++ #[]) W (fun e W' => (∃ u, e = .returned u) ∧ TurnPost w s i ⟨0, 0, s[i].u⟩ g cap W') := by
  have hz := lt_of_obj ho
  have f0 : ∀ j, W.frozen? ⟨g, j, none⟩ = false := frozen_at ho
  have c0 := cur_cell ho ht hi (r := 0) (by decide)
  have c1 := cur_cell ho ht hi (r := 1) (by decide)
  have c2 := cur_cell ho ht hi (r := 2) (by decide)
  simp only [Nat.add_zero] at c0
  have fin : TurnPost w s i ⟨0, 0, s[i].u⟩ g cap ((W.setCell ⟨g, i * 3, none⟩ (.int .i64 0)).setCell ⟨g, i * 3 + 1, none⟩ (.int .i64 0)) := by
    refine turnPost_of hi hg (obj_setCell_at _ (obj_setCell_at _ ho)) (by simpa using hc) h1 h2 ?_ ((hb.setCell hg _).setCell hg _)
    refine row_upd ht hi (by omega) (by simp) (fun j j0 j1 j2 => ?_) ?_ ?_ ?_
    · rw [Array.getElem?_setIfInBounds_ne (by omega), Array.getElem?_setIfInBounds_ne (by omega)]
    · rw [Array.getElem?_setIfInBounds_ne (by omega), Array.getElem?_setIfInBounds_self_of_lt (by omega)]
    · rw [Array.getElem?_setIfInBounds_self_of_lt (by simp; omega)]
    · rw [Array.getElem?_setIfInBounds_ne (by omega), Array.getElem?_setIfInBounds_ne (by omega)]
      rw [cell_at ho] at c2
      exact c2
  have FIN := Lib.hid fin
  clear fin ht hb
  simp only [stL, List.getElem?_cons_zero, List.getElem?_cons_succ] at c0 c1 c2
  simp only [Array.append_empty]
  go_enter Tryz.func112, Tryz.ntmps112
  go_wp2
  go_end0
  exact ⟨⟨_, rfl⟩, FIN.out⟩
end Go.Proofs.YtagpclgappcnbaaGreat.Be
namespace Go.Proofs.YtagpclgappcnbaaGreat.Be
open Go.RowKit

set_option maxRecDepth 100000 in
set_option maxHeartbeats 1000000 in
/-- bench.Replied, of what may be -/
theorem replied_any (w : World) (r : Rul) (v1 v2 : Value) (l : List Vd) (s : List St) (i : Nat) (h : SlIn w v1 2 vdL l) (h2 : SlIn w v2 3 stL s) (hm : mayE r l s = 0) (hi : i < s.length) :
    Calls Tryz.prog 64 #[ruV r, v1, v2, .int .i64 i] w fun e w' => ∃ v, e = .returned (.tuple #[v, .int .i64 0]) ∧ OwnS w' w.heap.size 138 3 stL v (s.set i ⟨0, 0, s[i].u⟩) ∧ Below w.heap.size w w' := by
  have b1 : Below w.heap.size w (w.alloc (.cells (ruC r) 25)) := (Below.refl _ _).alloc (Nat.le_refl _) _
  have HM := Lib.hid (mayL_any _ r v1 v2 l s (h.below b1) (h2.below b1))
  obtain ⟨_, hc, hl, _⟩ := mayE_0 hm
  obtain ⟨_, hl32, _, _⟩ := chk_32 hc
  have HS2 := Lib.hid h2
  rw [hm] at HM
  obtain ⟨oa, cap, rfl, g1, g2, g3⟩ := h
  unfold maxLen at g2
  obtain ⟨oa2, cap2, rfl, k1, k2, k3⟩ := h2
  unfold maxLen at k2
  have HL := Lib.hid hl
  have hi1 : ¬ (i : Int) < 0 := by omega
  have hi2 : ¬ (l.length : Int) ≤ (i : Int) := by omega
  have B1 := Lib.hid b1
  clear g3 k3 hm hc hl b1
  simp only [ruV, ruC] at *
  go_enter Tryz.func64, Tryz.ntmps64
  go_wp2_with fail
  generalize w.alloc (.cells #[.int .i64 r.f, .int .i64 r.lo, .int .i64 r.fo, .int .i64 r.nu, .int .i64 r.de] 25) = w1 at *
  refine HM.out.mono ?_
  rintro e w2 ⟨rfl, b2⟩
  have B2 := Lib.hid (B1.out.trans (b2.mono B1.out.size))
  have HT := Lib.hid (turned_any w2 _ s i (HS2.out.below B2.out) hi (by have := HL.out; omega) 112 #[] eg41 (TurnPost w2 s i ⟨0, 0, s[i].u⟩) (fun W g cap cur q1 q2 q3 q4 q5 q6 q7 => replied_cl w2 s i hi W g cap cur q1 q2 q3 q4 q5 q6 q7))
  clear b2 HM
  go_wp2_with fail
  refine HT.out.mono ?_
  rintro e w3 ⟨g, cap3, rfl, p1, p2⟩
  go_wp2
  go_ret2
  refine ⟨_, rfl, ?_, B2.out.trans (p2.mono B2.out.size)⟩
  exact ⟨⟨p1.1.1, by
    rcases p1.1.2 with h | ⟨g', c', cur, e, hb, h⟩
    · exact .inl h
    · exact .inr ⟨g', c', cur, e, Nat.le_trans B2.out.size hb, h⟩⟩, p1.2⟩
end Go.Proofs.YtagpclgappcnbaaGreat.Be
