import Derived.Test.YtggpmepiggnnnaaOf
import Derived.Lib.SliceRun
namespace Go.Proofs.Ytggpmepiggnnnaa
open Go.RowKit

theorem pushAll32 {ops : Array Oper} {rest : List Oper} {o : Oper} {a : Act} {w : World} {Q : Exit → Act → World → Prop} (hgd : o.guard = none) (s x : Operand) (ho : o.op = .call { callee := .builtin .append, args := #[s, x], argTypes := #[29, 29] })
    (base : Nat) (v : Value) (n : Nat) (cur : List Value) (hs : a.eval s = v) (hown : w.ownsRow base 32 2 v n cur) (g off c : Nat) (ys : List Al) (hx : a.eval x = .slice (some ⟨g, off, none⟩) ys.length c)
    (hc : ∀ j u, (ys.flatMap alL)[j]? = some u → w.cell? ⟨g, off + j, none⟩ = some u)
    (hlen : n + ys.length ≤ 1048576) (hbase : base ≤ w.heap.size)
    (h : ∀ v' w', w'.ownsRow base 32 2 v' (n + ys.length) (cur ++ ys.flatMap alL) → w.grownBy w' v.ownBlock → (v' = .slice none 0 0 ↔ v = .slice none 0 0 ∧ ys.length = 0) → wpList Try.prog ops Q rest (a.put o.dst v') w') : wpList Try.prog ops Q (o :: rest) a w := by
  obtain ⟨i0, hi, hz0, hz1, hz2⟩ := info_parts info32
  refine wpList_append_own (P := Try.prog) w hgd s x 29 ho base 32 i0 _ 2 16 Try.underlying29 hi hz0 hz1 hz2 (by simp [Value.cells]) (by decide) v n cur hs hown ⟨g, off, none⟩ ys.length c (ys.flatMap alL) hx (flatMap_len alL_length _) (fun j u hj => ?_) (fun u hu => ?_) (by unfold maxLen; omega) (by omega) hbase h
  · rw [Addr.add_lit]; exact hc j u hj
  · obtain ⟨x, _, hx⟩ := List.mem_flatMap.1 hu
    have := alL_one x
    simp only [allOne, List.all_eq_true] at this
    exact this u hx
set_option maxRecDepth 100000 in
set_option maxHeartbeats 1000000 in
theorem clone_any (w : World) (base : Nat) (v : Value) (xs : List Al) (h : OwnS w base 32 2 alL v xs) (hlen : xs.length ≤ 1048576) :
    Calls Try.prog 15 #[v] w (RetOwn w 32 2 alL xs) := by
  have hq : ∀ (w : World) (a : Option Addr) (n c n' c' : Nat), (binOp .eql 29 (.slice a n c) (.slice none n' c')).run Try.prog w = .ok (.bool a.isNone) w := fun w a n c n' c' => Lib.run_eql_slice_nil w 29 32 a n c n' c' Try.underlying29
  rcases h.1.2 with ⟨rfl, h0⟩ | ⟨g, cap, cur, rfl, hb, hg, h1, h2, h3, h4⟩
  · have hx := h.2.1 rfl
    subst hx
    clear h h0
    go_enter Try.func15, Try.ntmps15
    go_wp2
    go_ret
    exact ⟨_, rfl, OwnS.nil _ _ _ _ _, Below.refl _ _⟩
  · have hne : xs ≠ [] := fun e => by have := h.2.2 e; cases this
    have hpos : 0 < xs.length := List.length_pos_iff.2 hne
    have hg' : obj w g = some (.cells cur 32 (0, 0)) := hg
    have HC : Hid (∀ j u, (xs.flatMap alL)[j]? = some u → (w.alloc (.cells #[] 32)).cell? ⟨g, 0 + j, none⟩ = some u) := Lib.hid (fun j u hj => by
      have : w.cell? ⟨g, 0 + j, none⟩ = some u := by
        rw [Nat.zero_add, cell_at hg', ← Array.getElem?_toList]
        rw [← h4, List.getElem?_take] at hj
        split at hj
        · exact hj
        · cases hj
      rw [← this]
      exact World.cell?_of_block (w := w) (a := ⟨g, 0 + j, none⟩) (obj_alloc_past _ _ _ (lt_of_obj hg')))
    have h0b : (Instr.buildSlice 29 0 #[]).run Try.prog w = .ok (.slice (some ⟨w.heap.size, 0, none⟩) 0 0) (w.alloc (.cells #[] 32)) := by kernel_rfl
    have HHW := Lib.hid hne
    have HG := Lib.hid hg'
    have HOW : Hid ((w.alloc (.cells #[] 32)).ownsRow w.heap.size 32 2 (.slice (some ⟨w.heap.size, 0, none⟩) 0 0) 0 []) := Lib.hid ⟨rfl, .inr ⟨w.heap.size, 0, #[], rfl, Nat.le_refl _, obj_alloc_at _ _ _ rfl, Nat.le_refl _, by unfold maxLen; omega, rfl, rfl⟩⟩
    clear h hg hg' h4 hne
    go_enter Try.func15, Try.ntmps15
    go_wp2_with (at_builtin; refine pushAll32 rfl _ _ rfl w.heap.size (.slice (some ⟨w.heap.size, 0, none⟩) 0 0) 0 [] rfl HOW.out g 0 cap xs rfl HC.out (by omega) (by simp) ?_; intro v' w' q1 q2 q3)
    go_ret
    refine ⟨_, rfl, ⟨by simpa using q1, ?_⟩, ?_⟩
    · constructor
      · intro e
        have := (q3.1 e).2
        omega
      · intro e; exact absurd e HHW.out
    · exact ((Below.refl _ w).alloc (Nat.le_refl _) _).grown q2 (by simp) (fun k e => by simp [Value.ownBlock] at e; omega)
end Go.Proofs.Ytggpmepiggnnnaa
