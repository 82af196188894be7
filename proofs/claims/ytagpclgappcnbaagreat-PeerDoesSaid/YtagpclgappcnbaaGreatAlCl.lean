import Derived.Test.YtagpclgappcnbaaGreatAlN
import Derived.Test.YtagpclgappcnbaaGreatRange
import Derived.Lib.SliceRun
import Derived.Test.YtagpclgappcnbaaGreatAlRefH
import Derived.Shelf.SlMaps.Clone
import Derived.Deep.RegionHeld3
namespace Go.Proofs.YtagpclgappcnbaaGreat.Al
open Go.RowKit

theorem pushAll32 {ops : Array Oper} {rest : List Oper} {o : Oper} {a : Act} {w : World} {Q : Exit → Act → World → Prop} (hgd : o.guard = none) (s x : Operand) (ho : o.op = .call { callee := .builtin .append, args := #[s, x], argTypes := #[87, 87] })
    (base : Nat) (v : Value) (n : Nat) (cur : List Value) (hs : a.eval s = v) (hown : w.ownsRow base 114 2 v n cur) (g off c : Nat) (ys : List Al) (hx : a.eval x = .slice (some ⟨g, off, none⟩) ys.length c)
    (hc : ∀ j u, (ys.flatMap alL)[j]? = some u → w.cell? ⟨g, off + j, none⟩ = some u)
    (hlen : n + ys.length ≤ 1048576) (hbase : base ≤ w.heap.size)
    (h : ∀ v' w', w'.ownsRow base 114 2 v' (n + ys.length) (cur ++ ys.flatMap alL) → w.grownBy w' v.ownBlock → (v' = .slice none 0 0 ↔ v = .slice none 0 0 ∧ ys.length = 0) → wpList Tryz.prog ops Q rest (a.put o.dst v') w') : wpList Tryz.prog ops Q (o :: rest) a w := by
  obtain ⟨i0, hi, hz0, hz1, hz2⟩ := info_parts info32
  refine wpList_append_own (P := Tryz.prog) w hgd s x 87 ho base 114 i0 _ 2 16 Tryz.underlying87 hi hz0 hz1 hz2 (by simp [Value.cells]) (by decide) v n cur hs hown ⟨g, off, none⟩ ys.length c (ys.flatMap alL) hx (flatMap_len alL_length _) (fun j u hj => ?_) (fun u hu => ?_) (by unfold maxLen; omega) (by omega) hbase h
  · rw [Addr.add_lit]; exact hc j u hj
  · obtain ⟨x, _, hx⟩ := List.mem_flatMap.1 hu
    have := alL_one x
    simp only [allOne, List.all_eq_true] at this
    exact this u hx
set_option maxRecDepth 100000 in
set_option maxHeartbeats 1000000 in
theorem clone_any (w : World) (base : Nat) (v : Value) (xs : List Al) (h : OwnS w base 114 2 alL v xs) (hlen : xs.length ≤ 1048576) :
    Calls Tryz.prog 95 #[v] w (RetOwn w 114 2 alL xs) := by
  have hq : ∀ (w : World) (a : Option Addr) (n c n' c' : Nat), (binOp .eql 87 (.slice a n c) (.slice none n' c')).run Tryz.prog w = .ok (.bool a.isNone) w := fun w a n c n' c' => Lib.run_eql_slice_nil w 87 114 a n c n' c' Tryz.underlying87
  rcases h.1.2 with ⟨rfl, h0⟩ | ⟨g, cap, cur, rfl, hb, hg, h1, h2, h3, h4⟩
  · have hx := h.2.1 rfl
    subst hx
    clear h h0
    go_enter Tryz.func95, Tryz.ntmps95
    go_wp2
    go_ret
    exact ⟨_, rfl, OwnS.nil _ _ _ _ _, Below.refl _ _⟩
  · have hne : xs ≠ [] := fun e => by have := h.2.2 e; cases this
    have hpos : 0 < xs.length := List.length_pos_iff.2 hne
    have hg' : obj w g = some (.cells cur 114 (0, 0)) := hg
    have HC : Hid (∀ j u, (xs.flatMap alL)[j]? = some u → (w.alloc (.cells #[] 114)).cell? ⟨g, 0 + j, none⟩ = some u) := Lib.hid (fun j u hj => by
      have : w.cell? ⟨g, 0 + j, none⟩ = some u := by
        rw [Nat.zero_add, cell_at hg', ← Array.getElem?_toList]
        rw [← h4, List.getElem?_take] at hj
        split at hj
        · exact hj
        · cases hj
      rw [← this]
      exact World.cell?_of_block (w := w) (a := ⟨g, 0 + j, none⟩) (obj_alloc_past _ _ _ (lt_of_obj hg')))
    have h0b : (Instr.buildSlice 87 0 #[]).run Tryz.prog w = .ok (.slice (some ⟨w.heap.size, 0, none⟩) 0 0) (w.alloc (.cells #[] 114)) := by kernel_rfl
    have HHW := Lib.hid hne
    have HG := Lib.hid hg'
    have HOW : Hid ((w.alloc (.cells #[] 114)).ownsRow w.heap.size 114 2 (.slice (some ⟨w.heap.size, 0, none⟩) 0 0) 0 []) := Lib.hid ⟨rfl, .inr ⟨w.heap.size, 0, #[], rfl, Nat.le_refl _, obj_alloc_at _ _ _ rfl, Nat.le_refl _, by unfold maxLen; omega, rfl, rfl⟩⟩
    clear h hg hg' h4 hne
    go_enter Tryz.func95, Tryz.ntmps95
    go_wp2_with (at_builtin; refine pushAll32 rfl _ _ rfl w.heap.size (.slice (some ⟨w.heap.size, 0, none⟩) 0 0) 0 [] rfl HOW.out g 0 cap xs rfl HC.out (by omega) (by simp) ?_; intro v' w' q1 q2 q3)
    go_ret
    refine ⟨_, rfl, ⟨by simpa using q1, ?_⟩, ?_⟩
    · constructor
      · intro e
        have := (q3.1 e).2
        omega
      · intro e; exact absurd e HHW.out
    · exact ((Below.refl _ w).alloc (Nat.le_refl _) _).grown q2 (by simp) (fun k e => by simp [Value.ownBlock] at e; omega)
end Go.Proofs.YtagpclgappcnbaaGreat.Al
namespace Go.Proofs.YtagpclgappcnbaaGreat.Al
open Go.RowKit

set_option maxRecDepth 100000 in
set_option maxHeartbeats 1000000 in
/-- slices.Clone of a row that may be empty and not nil -/
theorem cloneRow (w : World) (base : Nat) (v : Value) (xs : List Al) (h : w.ownsRow base 114 2 v xs.length (xs.flatMap alL)) (hlen : xs.length ≤ 1048576) :
    Calls Tryz.prog 95 #[v] w fun e w' => (∃ v', e = .returned v' ∧ w'.ownsRow w.heap.size 114 2 v' xs.length (xs.flatMap alL)) ∧ Below w.heap.size w w' := by
  have hq : ∀ (w : World) (a : Option Addr) (n c n' c' : Nat), (binOp .eql 87 (.slice a n c) (.slice none n' c')).run Tryz.prog w = .ok (.bool a.isNone) w := fun w a n c n' c' => Lib.run_eql_slice_nil w 87 114 a n c n' c' Tryz.underlying87
  rcases h.2 with ⟨rfl, h0⟩ | ⟨g, cap, cur, rfl, hb, hg, h1, h2, h3, h4⟩
  · obtain rfl : xs = [] := List.eq_nil_of_length_eq_zero h0
    clear h h0
    go_enter Tryz.func95, Tryz.ntmps95
    go_wp2
    go_ret
    exact ⟨⟨_, rfl, World.ownsRow_nil _ _ _ _⟩, Below.refl _ _⟩
  · have hg' : obj w g = some (.cells cur 114 (0, 0)) := hg
    have HC : Hid (∀ j u, (xs.flatMap alL)[j]? = some u → (w.alloc (.cells #[] 114)).cell? ⟨g, 0 + j, none⟩ = some u) := Lib.hid (fun j u hj => by
      have : w.cell? ⟨g, 0 + j, none⟩ = some u := by
        rw [Nat.zero_add, cell_at hg', ← Array.getElem?_toList]
        rw [← h4, List.getElem?_take] at hj
        split at hj
        · exact hj
        · cases hj
      rw [← this]
      exact World.cell?_of_block (w := w) (a := ⟨g, 0 + j, none⟩) (obj_alloc_past _ _ _ (lt_of_obj hg')))
    have h0b : (Instr.buildSlice 87 0 #[]).run Tryz.prog w = .ok (.slice (some ⟨w.heap.size, 0, none⟩) 0 0) (w.alloc (.cells #[] 114)) := by kernel_rfl
    have HG := Lib.hid hg'
    have HOW : Hid ((w.alloc (.cells #[] 114)).ownsRow w.heap.size 114 2 (.slice (some ⟨w.heap.size, 0, none⟩) 0 0) 0 []) := Lib.hid ⟨rfl, .inr ⟨w.heap.size, 0, #[], rfl, Nat.le_refl _, obj_alloc_at _ _ _ rfl, Nat.le_refl _, by unfold maxLen; omega, rfl, rfl⟩⟩
    clear h hg hg' h4
    go_enter Tryz.func95, Tryz.ntmps95
    go_wp2_with (at_builtin; refine pushAll32 rfl _ _ rfl w.heap.size (.slice (some ⟨w.heap.size, 0, none⟩) 0 0) 0 [] rfl HOW.out g 0 cap xs rfl HC.out (by omega) (by simp) ?_; intro v' w' q1 q2 q3)
    go_ret
    exact ⟨⟨_, rfl, by simpa using q1⟩, ((Below.refl _ w).alloc (Nat.le_refl _) _).grown q2 (by simp) (fun k e => by simp [Value.ownBlock] at e; omega)⟩
set_option maxRecDepth 100000 in
set_option maxHeartbeats 2000000 in
/-- maps.Clone -/
theorem mapClone (w : World) (b : Nat) (es : Array MapEntry) (clock : Nat) (hb : obj w b = some (.map es clock)) :
    Calls Tryz.prog 96 #[.map (some b)] w fun e w' => e = .returned (.map (some w.heap.size)) ∧ w' = w.alloc (.map es clock) := by
  have hq := fun w => run_eql_map_nil_sl (P := Tryz.prog) w 125 _ _ (some b) Tryz.underlying125
  have HB := Lib.hid hb
  clear hb
  go_enter Tryz.func96, Tryz.ntmps96
  go_wp2
  rw [run_callFunc_extern Tryz.func125 (by kernel_rfl) (by kernel_rfl) (by kernel_rfl) (e := Extern.MapsClone.clone) (by kernel_rfl), run_maps_clone_sl w 125 HB.out]
  simp only [Result.andThen]
  rw [Oper.upon_value]
  go_wp2
  rw [run_typeAssert_map_sl _ 125 20 _ _ _ Tryz.underlying125]
  simp only [Result.andThen]
  rw [Oper.upon_value]
  go_wp2
  go_ret
  exact ⟨rfl, rfl⟩
theorem World.ownsRow_low {w : World} {base base' E k : Nat} {v : Value} {n : Nat} {cs : List Value} (h : w.ownsRow base E k v n cs) (hb : base' ≤ base) : w.ownsRow base' E k v n cs := h.mono hb
set_option maxRecDepth 100000 in
set_option maxHeartbeats 2000000 in
/-- a heap's clone -/
theorem cloneH (w : World) (F : Nat → Prop) (hb : Nat) (W : List Al) (h : Hp w F hb W) :
    Calls Tryz.prog 52 #[.pointer (some ⟨hb, 0, none⟩)] w fun e w' => (∃ nb F', e = .returned (.pointer (some ⟨nb, 0, none⟩)) ∧ Hp w' F' nb W ∧ ∀ n, F' n → w.heap.size ≤ n) ∧ Below w.heap.size w w' := by
  obtain ⟨m, sv, L, M, h1, h2, h3, h4⟩ := h.ex
  have HNO := Lib.hid h1.none
  have HSO := Lib.hid h.sorted
  have HLE := Lib.hid h.len
  have HSP := Lib.hid h2
  have HHE := Lib.hid h3
  have HPE := Lib.hid h4
  have hll : L.length ≤ 4096 := by rw [h4.length_eq]; exact h.len
  have c0 : w.cell? ⟨hb, 0, none⟩ = some sv := cell_at h1.box 0
  have c1 : w.cell? ⟨hb, 1, none⟩ = some (.map (some m)) := cell_at h1.box 1
  have hz := h1.lt.1
  have HBX := Lib.hid h1.box
  obtain ⟨es, clk, hm, hr⟩ := h1.map
  have HM := Lib.hid hm
  have HRR := Lib.hid hr
  have HC1 := Lib.hid (fun W' (hW : Below w.heap.size w W') => cloneRow W' 0 sv L (by
    refine ⟨h1.row.1, ?_⟩
    rcases h1.row.2 with h5 | ⟨g, cap, cur, e, h5, h6, h7⟩
    · exact .inl h5
    · exact .inr ⟨g, cap, cur, e, h5, (obj_below hW (lt_of_obj (h6 : obj w g = _))).trans h6, h7⟩) (by omega))
  obtain ⟨oa, cap, rfl, _, _, _⟩ := row_sub h1.row
  clear h h1 h2 h3 h4 hm hr
  go_enter Tryz.func52, Tryz.ntmps52
  go_wp2_with fail
  refine HNO.out.mono ?_
  rintro e w1 ⟨rfl, hw⟩
  cases hw
  go_wp2
  have HCC := Lib.hid (HC1.out w.drew (Below.refl _ _).drew)
  have hzw : w.heap.size = w.drew.heap.size := rfl
  have BD : Below w.heap.size w w.drew := (Below.refl _ _).drew
  go_region_held3 (fun w' => hb < w'.heap.size ∧ w'.cell? ⟨hb, 0, none⟩ = some (.slice oa L.length cap) ∧ w'.cell? ⟨hb, 1, none⟩ = some (.map (some m)))
    (first | exact ⟨hz, c0, c1⟩ | assumption | exact cc7 _)
    (first
      | (go_at_call 95; (with_reducible refine HCC.out.mono ?_); rintro e w5 ⟨⟨v9, rfl, r5⟩, b5⟩; have B5 := Lib.hid (BD.trans (b5.mono (Nat.le_refl _))); obtain ⟨oa9, cap9, rfl, _, _, _⟩ := row_sub r5; have ob5 := (obj_below B5.out (lt_of_obj HBX.out)).trans HBX.out; have cc : hb < w5.heap.size ∧ w5.cell? ⟨hb, 0, none⟩ = some (.slice oa L.length cap) ∧ w5.cell? ⟨hb, 1, none⟩ = some (.map (some m)) := ⟨lt_of_obj ob5, cell_at ob5 0, cell_at ob5 1⟩; have HMC := Lib.hid (mapClone w5 m es clk ((obj_below B5.out (lt_of_obj HM.out)).trans HM.out)); have R5 := Lib.hid r5; clear r5 b5 HCC ob5)
      | (go_at_call 96; (with_reducible refine HMC.out.mono ?_); rintro e w6 ⟨rfl, rfl⟩; have cc6 : hb < (w5.alloc (.map es clk)).heap.size ∧ (w5.alloc (.map es clk)).cell? ⟨hb, 0, none⟩ = some (.slice oa L.length cap) ∧ (w5.alloc (.map es clk)).cell? ⟨hb, 1, none⟩ = some (.map (some m)) := by
           have ob6 := (obj_below (B5.out.alloc B5.out.size (.map es clk)) (lt_of_obj HBX.out)).trans HBX.out
           exact ⟨lt_of_obj ob6, cell_at ob6 0, cell_at ob6 1⟩
         have cc7 : ∀ o, hb < ((w5.alloc (.map es clk)).alloc o).heap.size ∧ ((w5.alloc (.map es clk)).alloc o).cell? ⟨hb, 0, none⟩ = some (.slice oa L.length cap) ∧ ((w5.alloc (.map es clk)).alloc o).cell? ⟨hb, 1, none⟩ = some (.map (some m)) := fun o => by
           have ob6 := (obj_below ((B5.out.alloc B5.out.size (.map es clk)).alloc (Nat.le_trans B5.out.size (by simp)) o) (lt_of_obj HBX.out)).trans HBX.out
           exact ⟨lt_of_obj ob6, cell_at ob6 0, cell_at ob6 1⟩))
  have BX : Below w.heap.size w ((w5.alloc (.map es clk)).alloc (.cells #[.slice oa9 L.length cap9, .map (some w5.heap.size), .bool true] 127)) := (B5.out.alloc B5.out.size (.map es clk)).alloc (Nat.le_trans B5.out.size (by simp)) _
  have hz5 := B5.out.size
  have ob : obj ((w5.alloc (.map es clk)).alloc (.cells #[.slice oa9 L.length cap9, .map (some w5.heap.size), .bool true] 127)) (w5.heap.size + 1) = some (.cells #[.slice oa9 L.length cap9, .map (some w5.heap.size), .bool true] 127 (0, 0)) := obj_alloc_at _ _ _ (by simp)
  have om : obj ((w5.alloc (.map es clk)).alloc (.cells #[.slice oa9 L.length cap9, .map (some w5.heap.size), .bool true] 127)) w5.heap.size = some (.map es clk) := (obj_alloc_past _ _ _ (by simp)).trans (obj_alloc_at _ _ _ rfl)
  have b9 : Below w5.heap.size w5 ((w5.alloc (.map es clk)).alloc (.cells #[.slice oa9 L.length cap9, .map (some w5.heap.size), .bool true] 127)) := ((Below.refl _ w5).alloc (Nat.le_refl _) _).alloc (by simp) _
  have hsz : ((w5.alloc (.map es clk)).alloc (.cells #[.slice oa9 L.length cap9, .map (some w5.heap.size), .bool true] 127)).heap.size = w5.heap.size + 2 := by simp
  have HR : RawAt ((w5.alloc (.map es clk)).alloc (.cells #[.slice oa9 L.length cap9, .map (some w5.heap.size), .bool true] 127)) (fun n => w.heap.size ≤ n ∧ n < w5.heap.size + 2) (w5.heap.size + 1) w5.heap.size (.slice oa9 L.length cap9) L M := by
    refine ⟨ob, ⟨R5.out.1, ?_⟩, ⟨es, clk, om, HRR.out⟩, ⟨by omega, by omega⟩, ⟨by omega, by omega⟩, fun g hg => ?_, fun n hn => ?_⟩
    · rcases R5.out.2 with h5 | ⟨g, cap, cur, e, h5, h6, h7⟩
      · exact .inl h5
      · exact .inr ⟨g, cap, cur, e, Nat.zero_le _, (obj_below b9 (lt_of_obj (h6 : obj w5 g = _))).trans h6, h7⟩
    · have h5 := R5.out.lt g hg
      have h6 : w.drew.heap.size = w.heap.size := rfl
      omega
    · rw [hsz]; exact hn.2
  go_wp2
  go_ret
  exact ⟨⟨_, _, rfl, ⟨⟨_, _, L, M, HR, HSP.out, HHE.out, HPE.out⟩, HSO.out, HLE.out⟩, fun n hn => hn.1⟩, BX⟩
end Go.Proofs.YtagpclgappcnbaaGreat.Al
