import Derived.Test.YtggpmepiggnnnaaDoes
import Derived.Deep.RegionHeld3
namespace Go.Proofs.Ytggpmepiggnnnaa
open Go.RowKit

theorem yieldsIf_move' {P : Program} {ops : Array Oper} {S : World → Prop} {op : Oper} {a : Act} {v : Value} (hw : Region.wanted op (yielded ops a.tmps) = true) (x : Operand) (ho : op.op = .move x) (hv : a.eval x = v) : YieldsIf P ops S op v a :=
  hv ▸ yieldsIf_move hw x ho
theorem all_told (w : World) (F : Nat → Prop) (hb : Nat) (W : List Al) (h : Hp w F hb W) :
    Calls Try.prog 21 #[.pointer (some ⟨hb, 0, none⟩)] w fun e w' => ∃ lb, e = .returned (.func (.func 41) #[] #[.pointer (some ⟨lb, 0, none⟩)]) ∧ (∀ most, Calls Try.prog 20 #[.func (.func 41) #[] #[.pointer (some ⟨lb, 0, none⟩)], .int .i64 most] w' (RetOwn w' 32 2 alL (W.take most.toNat))) ∧ Below w.heap.size w w' := by
  refine (all_hp w F hb W h).mono ?_
  rintro e w1 ⟨⟨lb, v, rfl, hv⟩, b1⟩
  exact ⟨lb, rfl, fun most => told_all hv (Below.refl _ _) h.len most, b1⟩
set_option maxRecDepth 100000 in
set_option maxHeartbeats 8000000 in
theorem same_any (w : World) (B hb rb : Nat) (F : Nat → Prop) (W : List Al) (h : DSx w B hb rb F W W) :
    Calls Try.prog 28 #[.pointer (some ⟨hb, 0, none⟩), .pointer (some ⟨rb, 0, none⟩)] w fun e w' => e = .returned (.bool true) ∧ Below w.heap.size w w' := by
  have C12 := Lib.hid (fun W' (hW : Below w.heap.size w W') => (len_hp W' F hb W (h.hp.below hW)).mono fun e w' he => (show e = .returned (.int .i64 W.length) ∧ Below W'.heap.size W' w' from ⟨he.1, by cases he.2; exact Below.refl _ _⟩))
  have C21 := Lib.hid (fun W' (hW : Below w.heap.size w W') => all_told W' F hb W (h.hp.below hW))
  have hlen := h.hp.len
  obtain ⟨v, h1, h2, _⟩ := h.ref
  have hs := h2.slIn alL_length
  have Q6 := Lib.hid hs
  obtain ⟨oa, cap, rfl, hc1, hc2, _⟩ := hs
  unfold maxLen at hc2
  have R0 := Lib.hid h1
  obtain ⟨m, hm⟩ : ∃ m : Nat, m = min 2 W.length := ⟨_, rfl⟩
  have hmi : min (2 : Int) (W.length : Int) = (m : Int) := by omega
  have hml : m ≤ W.length := by omega
  have hmc : m ≤ cap := by omega
  have Q7 := Lib.hid (Q6.out.take hml)
  have HT1 : Hid (W.take (1048576 : Int).toNat = W) := Lib.hid (List.take_of_length_le (by simp; omega))
  have HT2 : Hid (W.take (2 : Int).toNat = W.take m) := Lib.hid (by
    rw [hm, show (2 : Int).toNat = 2 from rfl]
    by_cases h2 : 2 ≤ W.length
    · rw [Nat.min_eq_left h2]
    · rw [Nat.min_eq_right (by omega), List.take_of_length_le (by omega), List.take_of_length_le (by omega)])
  clear h h1 h2 hm
  go_enter Try.func28, Try.ntmps28
  go_wp2
  refine wp_region_held_drew (S := fun W' => Below w.heap.size w W') (by kernel_rfl) (Below.refl _ _).drew (fun hS => ?_)
  refine wpAnyH_take (i := 0) (oi := { dst := some 5, op := Op.move (Operand.tmp 0), type := 22, pos := _, after := _, guard := none }) (v := (.pointer (some ⟨hb, 0, none⟩))) rfl (by kernel_rfl) (by kernel_rfl) (by kernel_rfl) (fun _ _ _ h => h) (yieldsIf_move' (by kernel_rfl) (.tmp 0) (by kernel_rfl) (by kernel_rfl)) hS ?_
  try simp only [Act.put, List.setIfInBounds_toArray, List.set_cons_zero, List.set_cons_succ]
  refine wpAnyH_take (i := 2) (oi := { dst := some 7, op := Op.move (Operand.tmp 1), type := 61, pos := _, after := _, guard := none }) (v := (.pointer (some ⟨rb, 0, none⟩))) rfl (by kernel_rfl) (by kernel_rfl) (by kernel_rfl) (fun _ _ _ h => h) (yieldsIf_move' (by kernel_rfl) (.tmp 1) (by kernel_rfl) (by kernel_rfl)) hS ?_
  try simp only [Act.put, List.setIfInBounds_toArray, List.set_cons_zero, List.set_cons_succ]
  refine wpAnyH_take (i := 3) (oi := { dst := some 8, op := Op.nilCheck (Operand.tmp 7), type := 0, pos := _, after := _, guard := none }) (v := (.pointer (some ⟨rb, 0, none⟩))) rfl (by kernel_rfl) (by kernel_rfl) (by kernel_rfl) (fun _ _ _ h => h) (.inl ⟨by kernel_rfl, fun W' hW => by go_simp⟩) hS ?_
  try simp only [Act.put, List.setIfInBounds_toArray, List.set_cons_zero, List.set_cons_succ]
  refine wpAnyH_take (i := 4) (oi := { dst := some 9, op := Op.fieldAddr 63 (Operand.tmp 8) 0, type := 0, pos := _, after := _, guard := none }) (v := (.pointer (some ⟨rb, 0, none⟩))) rfl (by kernel_rfl) (by kernel_rfl) (by kernel_rfl) (fun _ _ _ h => h) (.inl ⟨by kernel_rfl, fun W' hW => by go_simp⟩) hS ?_
  try simp only [Act.put, List.setIfInBounds_toArray, List.set_cons_zero, List.set_cons_succ]
  refine wpAnyH_take (i := 5) (oi := { dst := some 10, op := Op.load 29 (Operand.tmp 9), type := 29, pos := _, after := _, guard := none }) (v := (.slice oa W.length cap)) rfl (by kernel_rfl) (by kernel_rfl) (by kernel_rfl) (fun _ _ _ h => h) (.inl ⟨by kernel_rfl, fun W' hW => by have ob := (obj_below hW (lt_of_obj R0.out)).trans R0.out; have z := lt_of_obj ob; have c := cell_at ob 0; (try simp only [List.getElem?_toArray, List.getElem?_cons_zero, List.getElem?_cons_succ] at c); go_simp⟩) hS ?_
  try simp only [Act.put, List.setIfInBounds_toArray, List.set_cons_zero, List.set_cons_succ]
  refine wpAnyH_take (i := 6) (oi := { dst := some 11, op := Op.call { callee := Callee.builtin Builtin.len, args := #[Operand.tmp 10], argTypes := #[29] }, type := 3, pos := _, after := _, guard := none }) (v := (.int .i64 (W.length : Int))) rfl (by kernel_rfl) (by kernel_rfl) (by kernel_rfl) (fun _ _ _ h => h) (.inl ⟨by kernel_rfl, fun W' hW => by go_simp⟩) hS ?_
  try simp only [Act.put, List.setIfInBounds_toArray, List.set_cons_zero, List.set_cons_succ]
  refine wpAnyH_ready (rs := [1]) (by kernel_rfl) (by simp) (AllReadyH.cons rfl (fun K hK => ?_) AllReadyH.nil)
  go_simp
  refine (C12.out _ hS).mono ?_
  rintro _ x1 ⟨rfl, hb1x⟩
  refine hK.out _ _ (hS.trans (hb1x.mono hS.size)) (fun hS1 => ?_)
  clear hK K
  try simp only [Act.put, List.setIfInBounds_toArray, List.set_cons_zero, List.set_cons_succ]
  refine wpAnyH_take (i := 7) (oi := { dst := some 12, op := Op.binOp BinOp.eql 3 (Operand.tmp 6) (Operand.tmp 11) 3, type := 4, pos := _, after := _, guard := none }) (v := (.bool true)) rfl (by kernel_rfl) (by kernel_rfl) (by kernel_rfl) (fun _ _ _ h => h) (.inl ⟨by kernel_rfl, fun W' hW => by go_simp⟩) hS1 ?_
  try simp only [Act.put, List.setIfInBounds_toArray, List.set_cons_zero, List.set_cons_succ]
  refine wpAnyH_take (i := 8) (oi := { dst := some 13, op := Op.move (Operand.tmp 12), type := 4, pos := _, after := _, guard := none }) (v := (.bool true)) rfl (by kernel_rfl) (by kernel_rfl) (by kernel_rfl) (fun _ _ _ h => h) (yieldsIf_move' (by kernel_rfl) (.tmp 12) (by kernel_rfl) (by kernel_rfl)) hS1 ?_
  try simp only [Act.put, List.setIfInBounds_toArray, List.set_cons_zero, List.set_cons_succ]
  refine wpAnyH_take (i := 9) (oi := { dst := some 14, op := Op.move (Operand.tmp 0), type := 22, pos := _, after := _, guard := some (8, true) }) (v := (.pointer (some ⟨hb, 0, none⟩))) rfl (by kernel_rfl) (by kernel_rfl) (by kernel_rfl) (fun _ _ _ h => h) (yieldsIf_move' (by kernel_rfl) (.tmp 0) (by kernel_rfl) (by kernel_rfl)) hS1 ?_
  try simp only [Act.put, List.setIfInBounds_toArray, List.set_cons_zero, List.set_cons_succ]
  refine wpAnyH_take (i := 12) (oi := { dst := some 17, op := Op.move (Operand.tmp 1), type := 61, pos := _, after := _, guard := some (8, true) }) (v := (.pointer (some ⟨rb, 0, none⟩))) rfl (by kernel_rfl) (by kernel_rfl) (by kernel_rfl) (fun _ _ _ h => h) (yieldsIf_move' (by kernel_rfl) (.tmp 1) (by kernel_rfl) (by kernel_rfl)) hS1 ?_
  try simp only [Act.put, List.setIfInBounds_toArray, List.set_cons_zero, List.set_cons_succ]
  refine wpAnyH_take (i := 13) (oi := { dst := some 18, op := Op.nilCheck (Operand.tmp 17), type := 0, pos := _, after := _, guard := some (8, true) }) (v := (.pointer (some ⟨rb, 0, none⟩))) rfl (by kernel_rfl) (by kernel_rfl) (by kernel_rfl) (fun _ _ _ h => h) (.inl ⟨by kernel_rfl, fun W' hW => by go_simp⟩) hS1 ?_
  try simp only [Act.put, List.setIfInBounds_toArray, List.set_cons_zero, List.set_cons_succ]
  refine wpAnyH_take (i := 14) (oi := { dst := some 19, op := Op.fieldAddr 63 (Operand.tmp 18) 0, type := 0, pos := _, after := _, guard := some (8, true) }) (v := (.pointer (some ⟨rb, 0, none⟩))) rfl (by kernel_rfl) (by kernel_rfl) (by kernel_rfl) (fun _ _ _ h => h) (.inl ⟨by kernel_rfl, fun W' hW => by go_simp⟩) hS1 ?_
  try simp only [Act.put, List.setIfInBounds_toArray, List.set_cons_zero, List.set_cons_succ]
  refine wpAnyH_take (i := 15) (oi := { dst := some 20, op := Op.load 29 (Operand.tmp 19), type := 29, pos := _, after := _, guard := some (8, true) }) (v := (.slice oa W.length cap)) rfl (by kernel_rfl) (by kernel_rfl) (by kernel_rfl) (fun _ _ _ h => h) (.inl ⟨by kernel_rfl, fun W' hW => by have ob := (obj_below hW (lt_of_obj R0.out)).trans R0.out; have z := lt_of_obj ob; have c := cell_at ob 0; (try simp only [List.getElem?_toArray, List.getElem?_cons_zero, List.getElem?_cons_succ] at c); go_simp⟩) hS1 ?_
  try simp only [Act.put, List.setIfInBounds_toArray, List.set_cons_zero, List.set_cons_succ]
  refine wpAnyH_ready (rs := [10]) (by kernel_rfl) (by simp) (AllReadyH.cons rfl (fun K hK => ?_) AllReadyH.nil)
  go_simp
  refine (C21.out _ hS1).mono ?_
  rintro _ x2 ⟨lb1, rfl, hc1, hb2x⟩
  refine hK.out _ _ (hS1.trans (hb2x.mono hS1.size)) (fun hS2 => ?_)
  clear hK K
  try simp only [Act.put, List.setIfInBounds_toArray, List.set_cons_zero, List.set_cons_succ]
  refine wpAnyH_ready (rs := [11]) (by kernel_rfl) (by simp) (AllReadyH.cons rfl (fun K hK => ?_) AllReadyH.nil)
  go_simp
  refine (hc1 1048576).mono ?_
  rintro _ x3 ⟨v30, rfl, o30, hb3x⟩
  rw [HT1.out] at o30
  refine hK.out _ _ (hS2.trans (hb3x.mono hS2.size)) (fun hS3 => ?_)
  clear hK K
  try simp only [Act.put, List.setIfInBounds_toArray, List.set_cons_zero, List.set_cons_succ]
  refine wpAnyH_ready (rs := [16]) (by kernel_rfl) (by simp) (AllReadyH.cons rfl (fun K hK => ?_) AllReadyH.nil)
  go_simp
  refine (equal_any _ _ _ _ _ (o30.slIn alL_length) (Q6.out.below hS3)).mono ?_
  rintro _ x4 ⟨rfl, hb4x⟩
  try rw [decide_eq_true rfl]
  clear hc1 o30
  refine hK.out _ _ (hS3.trans (hb4x.mono hS3.size)) (fun hS4 => ?_)
  clear hK K
  try simp only [Act.put, List.setIfInBounds_toArray, List.set_cons_zero, List.set_cons_succ]
  refine wpAnyH_take (i := 17) (oi := { dst := some 22, op := Op.pick (Operand.tmp 13) (Operand.tmp 21) (Operand.const (Value.bool false)), type := 4, pos := _, after := _, guard := none }) (v := (.bool true)) rfl (by kernel_rfl) (by kernel_rfl) (by kernel_rfl) (fun _ _ _ h => h) (.inl ⟨by kernel_rfl, fun W' hW => by go_simp⟩) hS4 ?_
  try simp only [Act.put, List.setIfInBounds_toArray, List.set_cons_zero, List.set_cons_succ]
  refine wpAnyH_take (i := 18) (oi := { dst := some 23, op := Op.move (Operand.tmp 22), type := 4, pos := _, after := _, guard := none }) (v := (.bool true)) rfl (by kernel_rfl) (by kernel_rfl) (by kernel_rfl) (fun _ _ _ h => h) (yieldsIf_move' (by kernel_rfl) (.tmp 22) (by kernel_rfl) (by kernel_rfl)) hS4 ?_
  try simp only [Act.put, List.setIfInBounds_toArray, List.set_cons_zero, List.set_cons_succ]
  refine wpAnyH_take (i := 19) (oi := { dst := some 24, op := Op.move (Operand.tmp 0), type := 22, pos := _, after := _, guard := some (18, true) }) (v := (.pointer (some ⟨hb, 0, none⟩))) rfl (by kernel_rfl) (by kernel_rfl) (by kernel_rfl) (fun _ _ _ h => h) (yieldsIf_move' (by kernel_rfl) (.tmp 0) (by kernel_rfl) (by kernel_rfl)) hS4 ?_
  try simp only [Act.put, List.setIfInBounds_toArray, List.set_cons_zero, List.set_cons_succ]
  refine wpAnyH_take (i := 22) (oi := { dst := some 27, op := Op.move (Operand.tmp 1), type := 61, pos := _, after := _, guard := some (18, true) }) (v := (.pointer (some ⟨rb, 0, none⟩))) rfl (by kernel_rfl) (by kernel_rfl) (by kernel_rfl) (fun _ _ _ h => h) (yieldsIf_move' (by kernel_rfl) (.tmp 1) (by kernel_rfl) (by kernel_rfl)) hS4 ?_
  try simp only [Act.put, List.setIfInBounds_toArray, List.set_cons_zero, List.set_cons_succ]
  refine wpAnyH_take (i := 23) (oi := { dst := some 28, op := Op.nilCheck (Operand.tmp 27), type := 0, pos := _, after := _, guard := some (18, true) }) (v := (.pointer (some ⟨rb, 0, none⟩))) rfl (by kernel_rfl) (by kernel_rfl) (by kernel_rfl) (fun _ _ _ h => h) (.inl ⟨by kernel_rfl, fun W' hW => by go_simp⟩) hS4 ?_
  try simp only [Act.put, List.setIfInBounds_toArray, List.set_cons_zero, List.set_cons_succ]
  refine wpAnyH_take (i := 24) (oi := { dst := some 29, op := Op.fieldAddr 63 (Operand.tmp 28) 0, type := 0, pos := _, after := _, guard := some (18, true) }) (v := (.pointer (some ⟨rb, 0, none⟩))) rfl (by kernel_rfl) (by kernel_rfl) (by kernel_rfl) (fun _ _ _ h => h) (.inl ⟨by kernel_rfl, fun W' hW => by go_simp⟩) hS4 ?_
  try simp only [Act.put, List.setIfInBounds_toArray, List.set_cons_zero, List.set_cons_succ]
  refine wpAnyH_take (i := 25) (oi := { dst := some 30, op := Op.load 29 (Operand.tmp 29), type := 29, pos := _, after := _, guard := some (18, true) }) (v := (.slice oa W.length cap)) rfl (by kernel_rfl) (by kernel_rfl) (by kernel_rfl) (fun _ _ _ h => h) (.inl ⟨by kernel_rfl, fun W' hW => by have ob := (obj_below hW (lt_of_obj R0.out)).trans R0.out; have z := lt_of_obj ob; have c := cell_at ob 0; (try simp only [List.getElem?_toArray, List.getElem?_cons_zero, List.getElem?_cons_succ] at c); go_simp⟩) hS4 ?_
  try simp only [Act.put, List.setIfInBounds_toArray, List.set_cons_zero, List.set_cons_succ]
  refine wpAnyH_take (i := 26) (oi := { dst := some 31, op := Op.move (Operand.tmp 1), type := 61, pos := _, after := _, guard := some (18, true) }) (v := (.pointer (some ⟨rb, 0, none⟩))) rfl (by kernel_rfl) (by kernel_rfl) (by kernel_rfl) (fun _ _ _ h => h) (yieldsIf_move' (by kernel_rfl) (.tmp 1) (by kernel_rfl) (by kernel_rfl)) hS4 ?_
  try simp only [Act.put, List.setIfInBounds_toArray, List.set_cons_zero, List.set_cons_succ]
  refine wpAnyH_take (i := 27) (oi := { dst := some 32, op := Op.nilCheck (Operand.tmp 31), type := 0, pos := _, after := _, guard := some (18, true) }) (v := (.pointer (some ⟨rb, 0, none⟩))) rfl (by kernel_rfl) (by kernel_rfl) (by kernel_rfl) (fun _ _ _ h => h) (.inl ⟨by kernel_rfl, fun W' hW => by go_simp⟩) hS4 ?_
  try simp only [Act.put, List.setIfInBounds_toArray, List.set_cons_zero, List.set_cons_succ]
  refine wpAnyH_take (i := 28) (oi := { dst := some 33, op := Op.fieldAddr 63 (Operand.tmp 32) 0, type := 0, pos := _, after := _, guard := some (18, true) }) (v := (.pointer (some ⟨rb, 0, none⟩))) rfl (by kernel_rfl) (by kernel_rfl) (by kernel_rfl) (fun _ _ _ h => h) (.inl ⟨by kernel_rfl, fun W' hW => by go_simp⟩) hS4 ?_
  try simp only [Act.put, List.setIfInBounds_toArray, List.set_cons_zero, List.set_cons_succ]
  refine wpAnyH_take (i := 29) (oi := { dst := some 34, op := Op.load 29 (Operand.tmp 33), type := 29, pos := _, after := _, guard := some (18, true) }) (v := (.slice oa W.length cap)) rfl (by kernel_rfl) (by kernel_rfl) (by kernel_rfl) (fun _ _ _ h => h) (.inl ⟨by kernel_rfl, fun W' hW => by have ob := (obj_below hW (lt_of_obj R0.out)).trans R0.out; have z := lt_of_obj ob; have c := cell_at ob 0; (try simp only [List.getElem?_toArray, List.getElem?_cons_zero, List.getElem?_cons_succ] at c); go_simp⟩) hS4 ?_
  try simp only [Act.put, List.setIfInBounds_toArray, List.set_cons_zero, List.set_cons_succ]
  refine wpAnyH_take (i := 30) (oi := { dst := some 35, op := Op.call { callee := Callee.builtin Builtin.len, args := #[Operand.tmp 34], argTypes := #[29] }, type := 3, pos := _, after := _, guard := some (18, true) }) (v := (.int .i64 (W.length : Int))) rfl (by kernel_rfl) (by kernel_rfl) (by kernel_rfl) (fun _ _ _ h => h) (.inl ⟨by kernel_rfl, fun W' hW => by go_simp⟩) hS4 ?_
  try simp only [Act.put, List.setIfInBounds_toArray, List.set_cons_zero, List.set_cons_succ]
  refine wpAnyH_take (i := 31) (oi := { dst := some 36, op := Op.call { callee := Callee.builtin Builtin.min, args := #[Operand.const (Value.int IntKind.i64 2), Operand.tmp 35], argTypes := #[3, 3] }, type := 3, pos := _, after := _, guard := some (18, true) }) (v := (.int .i64 (m : Int))) rfl (by kernel_rfl) (by kernel_rfl) (by kernel_rfl) (fun _ _ _ h => h) (.inl ⟨by kernel_rfl, fun W' hW => by first | go_simp | (simp only [← hmi]; go_simp)⟩) hS4 ?_
  try simp only [Act.put, List.setIfInBounds_toArray, List.set_cons_zero, List.set_cons_succ]
  refine wpAnyH_take (i := 32) (oi := { dst := some 37, op := Op.slice 29 (Operand.tmp 30) none (some (Operand.tmp 36)) none, type := 29, pos := _, after := _, guard := some (18, true) }) (v := (.slice oa m cap)) rfl (by kernel_rfl) (by kernel_rfl) (by kernel_rfl) (fun _ _ _ h => h) (.inl ⟨by kernel_rfl, fun W' hW => by go_simp⟩) hS4 ?_
  try simp only [Act.put, List.setIfInBounds_toArray, List.set_cons_zero, List.set_cons_succ]
  refine wpAnyH_ready (rs := [20]) (by kernel_rfl) (by simp) (AllReadyH.cons rfl (fun K hK => ?_) AllReadyH.nil)
  go_simp
  refine (C21.out _ hS4).mono ?_
  rintro _ x5 ⟨lb2, rfl, hc2, hb5x⟩
  refine hK.out _ _ (hS4.trans (hb5x.mono hS4.size)) (fun hS5 => ?_)
  clear hK K
  try simp only [Act.put, List.setIfInBounds_toArray, List.set_cons_zero, List.set_cons_succ]
  refine wpAnyH_ready (rs := [21]) (by kernel_rfl) (by simp) (AllReadyH.cons rfl (fun K hK => ?_) AllReadyH.nil)
  go_simp
  refine (hc2 2).mono ?_
  rintro _ x6 ⟨v31, rfl, o31, hb6x⟩
  rw [HT2.out] at o31
  refine hK.out _ _ (hS5.trans (hb6x.mono hS5.size)) (fun hS6 => ?_)
  clear hK K
  try simp only [Act.put, List.setIfInBounds_toArray, List.set_cons_zero, List.set_cons_succ]
  refine wpAnyH_ready (rs := [33]) (by kernel_rfl) (by simp) (AllReadyH.cons rfl (fun K hK => ?_) AllReadyH.nil)
  go_simp
  refine (equal_any _ _ _ _ _ (o31.slIn alL_length) (Q7.out.below hS6)).mono ?_
  rintro _ x7 ⟨rfl, hb7x⟩
  try rw [decide_eq_true rfl]
  clear hc2 o31
  refine hK.out _ _ (hS6.trans (hb7x.mono hS6.size)) (fun hS7 => ?_)
  clear hK K
  try simp only [Act.put, List.setIfInBounds_toArray, List.set_cons_zero, List.set_cons_succ]
  refine wpAnyH_take (i := 34) (oi := { dst := some 39, op := Op.pick (Operand.tmp 23) (Operand.tmp 38) (Operand.const (Value.bool false)), type := 4, pos := _, after := _, guard := none }) (v := (.bool true)) rfl (by kernel_rfl) (by kernel_rfl) (by kernel_rfl) (fun _ _ _ h => h) (.inl ⟨by kernel_rfl, fun W' hW => by go_simp⟩) hS7 ?_
  try simp only [Act.put, List.setIfInBounds_toArray, List.set_cons_zero, List.set_cons_succ]
  refine wpAnyH_take (i := 35) (oi := { dst := some 4, op := Op.assign (Operand.tmp 39), type := 4, pos := _, after := _, guard := none }) (v := (.bool true)) rfl (by kernel_rfl) (by kernel_rfl) (by kernel_rfl) (fun _ _ _ h => h) (.inl ⟨by kernel_rfl, fun W' hW => by go_simp⟩) hS7 ?_
  try simp only [Act.put, List.setIfInBounds_toArray, List.set_cons_zero, List.set_cons_succ]
  refine wpAnyH_done (by kernel_rfl) ?_ _
  go_wp2
  go_ret
  exact ⟨rfl, hS7⟩
end Go.Proofs.Ytggpmepiggnnnaa
