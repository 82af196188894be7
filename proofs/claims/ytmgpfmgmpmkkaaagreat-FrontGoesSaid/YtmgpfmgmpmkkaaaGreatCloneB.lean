import Derived.Test.YtmgpfmgmpmkkaaaGreatMayE
import Derived.Test.YtmgpfmgmpmkkaaaGreatCloneI
namespace Go.Proofs.YtmgpfmgmpmkkaaaGreat
open Go.RowKit

theorem info56 : (Tryz.prog.info? 42).map (fun i => (i.zero, i.size, i.bytes)) = some (some (.agg #[.int .i64 0, .slice none 0 0]), 2, 32) := by kernel_rfl
set_option maxRecDepth 100000 in
set_option maxHeartbeats 1000000 in
/-- slices.Clone, of integers -/
theorem clone_ints (w : World) (v : Value) (s : List Int) (h : SlIn w v 1 intL s) (hlen : s.length ≤ 17592186043904) : Calls Tryz.prog 46 #[v] w (RetC w 3 1 intL s) := by
  have hq : ∀ (w : World) (a : Option Addr) (n c n' c' : Nat), (binOp .eql 23 (.slice a n c) (.slice none n' c')).run Tryz.prog w = .ok (.bool a.isNone) w := fun w a n c n' c' => Lib.run_eql_slice_nil w 23 3 a n c n' c' Tryz.underlying23
  have H := Lib.hid h
  obtain ⟨oa, cap, rfl, g1, g2, g3⟩ := h
  cases oa with
  | none =>
    have h0 : s = [] := by
      cases s with
      | nil => rfl
      | cons y ys => obtain ⟨b, off, e, _⟩ := g3 (by simp); cases e
    subst h0
    clear g3
    go_enter Tryz.func46, Tryz.ntmps46
    go_wp2
    go_ret
    exact ⟨_, rfl, World.ownsRow_nil _ _ _ _, Below.refl _ _⟩
  | some ad =>
    have h0b : (Instr.buildSlice 23 0 #[]).run Tryz.prog w = .ok (.slice (some ⟨w.heap.size, 0, none⟩) 0 0) (w.alloc (.cells #[] 3)) := by kernel_rfl
    have HOW : Hid ((w.alloc (.cells #[] 3)).ownsRow w.heap.size 3 1 (.slice (some ⟨w.heap.size, 0, none⟩) 0 0) 0 []) := Lib.hid ⟨rfl, .inr ⟨w.heap.size, 0, #[], rfl, Nat.le_refl _, obj_alloc_at _ _ _ rfl, Nat.le_refl _, by unfold maxLen; omega, rfl, rfl⟩⟩
    have HS := Lib.hid (H.out.below ((Below.refl _ w).alloc (Nat.le_refl _) (.cells #[] 3)))
    clear g3
    obtain ⟨i0, hi, hz0, hz1, hz2⟩ := info_parts info3
    go_enter Tryz.func46, Tryz.ntmps46
    go_wp2_with (at_builtin; refine pushC Tryz.underlying23 hi hz0 hz1 hz2 (by simp [Value.cells]) (by decide) intL_length intL_one rfl _ _ rfl w.heap.size (.slice (some ⟨w.heap.size, 0, none⟩) 0 0) rfl HOW.out ad cap s rfl HS.out (by omega) (by simp) ?_; intro v' w' q1 q2)
    go_ret
    exact ⟨_, rfl, q1, ((Below.refl _ w).alloc (Nat.le_refl _) _).grown q2 (by simp) (fun k e => by simp [Value.ownBlock] at e; omega)⟩
set_option maxRecDepth 100000 in
set_option maxHeartbeats 1000000 in
/-- slices.Clone, of what was said -/
theorem clone_said (w : World) (v : Value) (s : List SdD) (h : SlIn w v 2 sdL s) (hlen : s.length ≤ 1048576) : Calls Tryz.prog 63 #[v] w (RetC w 42 2 sdL s) := by
  have hq : ∀ (w : World) (a : Option Addr) (n c n' c' : Nat), (binOp .eql 25 (.slice a n c) (.slice none n' c')).run Tryz.prog w = .ok (.bool a.isNone) w := fun w a n c n' c' => Lib.run_eql_slice_nil w 25 42 a n c n' c' Tryz.underlying25
  have H := Lib.hid h
  obtain ⟨oa, cap, rfl, g1, g2, g3⟩ := h
  cases oa with
  | none =>
    have h0 : s = [] := by
      cases s with
      | nil => rfl
      | cons y ys => obtain ⟨b, off, e, _⟩ := g3 (by simp); cases e
    subst h0
    clear g3
    go_enter Tryz.func63, Tryz.ntmps63
    go_wp2
    go_ret
    exact ⟨_, rfl, World.ownsRow_nil _ _ _ _, Below.refl _ _⟩
  | some ad =>
    have h0b : (Instr.buildSlice 25 0 #[]).run Tryz.prog w = .ok (.slice (some ⟨w.heap.size, 0, none⟩) 0 0) (w.alloc (.cells #[] 42)) := by kernel_rfl
    have HOW : Hid ((w.alloc (.cells #[] 42)).ownsRow w.heap.size 42 2 (.slice (some ⟨w.heap.size, 0, none⟩) 0 0) 0 []) := Lib.hid ⟨rfl, .inr ⟨w.heap.size, 0, #[], rfl, Nat.le_refl _, obj_alloc_at _ _ _ rfl, Nat.le_refl _, by unfold maxLen; omega, rfl, rfl⟩⟩
    have HS := Lib.hid (H.out.below ((Below.refl _ w).alloc (Nat.le_refl _) (.cells #[] 42)))
    clear g3
    obtain ⟨i0, hi, hz0, hz1, hz2⟩ := info_parts info56
    go_enter Tryz.func63, Tryz.ntmps63
    go_wp2_with (at_builtin; refine pushC Tryz.underlying25 hi hz0 hz1 hz2 (by simp [Value.cells]) (by decide) sdL_length sdL_one rfl _ _ rfl w.heap.size (.slice (some ⟨w.heap.size, 0, none⟩) 0 0) rfl HOW.out ad cap s rfl HS.out (by omega) (by simp) ?_; intro v' w' q1 q2)
    go_ret
    exact ⟨_, rfl, q1, ((Below.refl _ w).alloc (Nat.le_refl _) _).grown q2 (by simp) (fun k e => by simp [Value.ownBlock] at e; omega)⟩
end Go.Proofs.YtmgpfmgmpmkkaaaGreat
