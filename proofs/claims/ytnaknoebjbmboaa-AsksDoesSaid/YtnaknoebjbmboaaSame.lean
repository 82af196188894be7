import Derived.Test.YtnaknoebjbmboaaDoes
import Derived.Deep.RegionHeld3
namespace Go.Proofs.Ytnaknoebjbmboaa
open Go.RowKit

theorem yieldsIf_move' {P : Program} {ops : Array Oper} {S : World → Prop} {op : Oper} {a : Act} {v : Value} (hw : Region.wanted op (yielded ops a.tmps) = true) (x : Operand) (ho : op.op = .move x) (hv : a.eval x = v) : YieldsIf P ops S op v a :=
  hv ▸ yieldsIf_move hw x ho
set_option maxRecDepth 100000 in
set_option maxHeartbeats 1000000 in
/-- two slices that hold the same -/
theorem equal_same (w : World) (v1 v2 : Value) (xs : List AskD) (h : SlIn w v1 3 akL xs) (h' : SlIn w v2 3 akL xs) :
    Calls Try.prog 37 #[v1, v2] w fun e w' => e = .returned (.bool true) ∧ Below w.heap.size w w' := by
  obtain ⟨oa, cap, rfl, h1, h2, h3⟩ := h
  obtain ⟨ob, cap', rfl, h1', h2', h3'⟩ := h'
  unfold maxLen at h2 h2'
  have H3 := Lib.hid h3
  have H3' := Lib.hid h3'
  clear h3 h3'
  have hb0 : ((xs.length : Int) != (xs.length : Int)) = false := by simp
  go_enter Try.func37, Try.ntmps37
  go_wp2
  go_loopw [5, 13] (fun _ v13 wr => ∃ k : Nat, k ≤ xs.length ∧ v13 = .int .i64 k ∧ Below w.heap.size w wr) (fun _ i _ => xs.length - (intOf i).toNat)
  case atStart => exact ⟨0, Nat.zero_le _, rfl, Below.refl _ _⟩
  case round =>
    obtain ⟨k, hk, rfl, hb⟩ := hrel
    by_cases hlt : k < xs.length
    · obtain ⟨b, off, hoa, hbb, hrow⟩ := H3.out (by omega)
      obtain ⟨b', off', hoa', hbb', hrow'⟩ := H3'.out (by omega)
      subst hoa
      subst hoa'
      have hs1 := hrow k hlt
      have hs2 := hrow' k hlt
      rw [← obj_below hb hbb] at hs1
      rw [← obj_below hb hbb'] at hs2
      have hbl : b < wr.heap.size := Nat.lt_of_lt_of_le hbb hb.size
      have hbl' : b' < wr.heap.size := Nat.lt_of_lt_of_le hbb' hb.size
      generalize xs[k] = x at *
      clear hrow hrow'
      simp only [akL] at hs1 hs2
      have e1 : (x.id == x.id) = true := by simp
      have e2 : (x.node == x.node) = true := by simp
      have e3 : (x.kind == x.kind) = true := by simp
      go_wp2
      go_quiet (fail)
      go_wp2
      go_roundw
      case rel => exact ⟨k + 1, by omega, by go_num, below_drewN hb _⟩
      case measure => simp [intOf]; omega
    · have hk' : k = xs.length := by omega
      subst hk'
      go_wp2
      go_ret
      exact ⟨rfl, hb⟩
theorem all_told (w : World) (b m : Nat) (S : BookD) (h : BK w b m S) (hlen : S.L.length ≤ 4096) :
    Calls Try.prog 19 #[.pointer (some ⟨b, 0, none⟩)] w fun e w' => ∃ lb, e = .returned (.func (.func 42) #[] #[.pointer (some ⟨lb, 0, none⟩)]) ∧ (∀ most, Calls Try.prog 18 #[.func (.func 42) #[] #[.pointer (some ⟨lb, 0, none⟩)], .int .i64 most] w' (RetOwn w' 32 3 akL ((wtL S).take most.toNat))) ∧ Below w.heap.size w w' := by
  refine (all_book w b m S h hlen).mono ?_
  rintro e w1 ⟨⟨lb, v, rfl, hv⟩, b1⟩
  exact ⟨lb, rfl, fun most => told_all (hv.mono fun n hn => hn.2) (Below.refl _ _) (by simpa using hlen) most, b1⟩
set_option maxRecDepth 100000 in
set_option maxHeartbeats 8000000 in
theorem same_any (w : World) (B b m rb : Nat) (S : BookD) (k : Nat) (nd : Int) (h : DK w B b m rb S) (hI : InvK S k) :
    Calls Try.prog 23 #[.pointer (some ⟨b, 0, none⟩), .pointer (some ⟨rb, 0, none⟩), .int .i64 nd] w fun e w' => e = .returned (.bool true) ∧ Below w.heap.size w w' := by
  have hwl := hI.wlen
  have hll : S.L.length ≤ 1024 := by have h1 := hI.len; have h2 := hI.room; omega
  have C11 := Lib.hid (fun W' (hW : Below w.heap.size w W') => (len_any W' b m S (h.bk.below hW).at_).mono fun e w' he => (show e = .returned (.int .i64 (wtL S).length) ∧ Below W'.heap.size W' w' from ⟨by unfold wtL; rw [List.length_map]; exact he.1, by cases he.2; exact Below.refl _ _⟩))
  have C17 := Lib.hid (fun W' (hW : Below w.heap.size w W') => of_book W' b m S nd (h.bk.below hW) (by omega))
  have C36 := Lib.hid (fun W' (hW : Below w.heap.size w W') => ref_of W' _ rb (refOf S) (wtL S) nd (h.ref.below hW) (by omega))
  have C15 := Lib.hid (fun W' (hW : Below w.heap.size w W') => stat_any W' b m S (h.bk.below hW).at_)
  have C19 := Lib.hid (fun W' (hW : Below w.heap.size w W') => all_told W' b m S (h.bk.below hW) (by omega))
  have HCN : Hid (cntN nd (wtL S) = (S.L.map (·.2)).countP (fun a => a.node == nd)) := Lib.hid rfl
  rw [← HCN.out] at C17
  generalize cntN nd (wtL S) = cn at *
  obtain ⟨v, h1, h2, _⟩ := h.ref
  have hs := h2.slIn akL_length
  have Q6 := Lib.hid hs
  generalize wtL S = W at *
  obtain ⟨oa, cap, rfl, hc1, hc2, _⟩ := hs
  unfold maxLen at hc2
  simp only [refC, refOf] at h1
  have R0 := Lib.hid h1
  obtain ⟨m1, hm⟩ : ∃ m : Nat, m = min 1 W.length := ⟨_, rfl⟩
  have hmi : min (1 : Int) (W.length : Int) = (m1 : Int) := by omega
  have hml : m1 ≤ W.length := by omega
  have hmc : m1 ≤ cap := by omega
  have Q7 := Lib.hid (Q6.out.take hml)
  have HT1 : Hid (W.take (1048576 : Int).toNat = W) := Lib.hid (List.take_of_length_le (by simp; omega))
  have HT2 : Hid (W.take (1 : Int).toNat = W.take m1) := Lib.hid (by
    rw [hm, show (1 : Int).toNat = 1 from rfl]
    by_cases h2 : 1 ≤ W.length
    · rw [Nat.min_eq_left h2]
    · rw [Nat.min_eq_right (by omega), List.take_of_length_le (by omega), List.take_of_length_le (by omega)])
  have hs1 : (S.asked == S.asked) = true := by simp
  have hs2 : (S.ans == S.ans) = true := by simp
  have hs3 : (S.exp == S.exp) = true := by simp
  clear h h1 h2 hm hI hwl HCN
  go_enter Try.func23, Try.ntmps23
  go_wp2
  refine wp_region_held_drew (S := fun W' => Below w.heap.size w W') (by kernel_rfl) (Below.refl _ _).drew (fun hS => ?_)
  refine wpAnyH_take (i := 0) (oi := { dst := some 7, op := Op.move (Operand.tmp 0), type := 22, pos := _, after := _, guard := none }) (v := (.pointer (some ⟨b, 0, none⟩))) rfl (by kernel_rfl) (by kernel_rfl) (by kernel_rfl) (fun _ _ _ h => h) (yieldsIf_move' (by kernel_rfl) (.tmp 0) (by kernel_rfl) (by kernel_rfl)) hS ?_
  try simp only [Act.put, List.setIfInBounds_toArray, List.set_cons_zero, List.set_cons_succ]
  refine wpAnyH_take (i := 2) (oi := { dst := some 9, op := Op.move (Operand.tmp 1), type := 58, pos := _, after := _, guard := none }) (v := (.pointer (some ⟨rb, 0, none⟩))) rfl (by kernel_rfl) (by kernel_rfl) (by kernel_rfl) (fun _ _ _ h => h) (yieldsIf_move' (by kernel_rfl) (.tmp 1) (by kernel_rfl) (by kernel_rfl)) hS ?_
  try simp only [Act.put, List.setIfInBounds_toArray, List.set_cons_zero, List.set_cons_succ]
  refine wpAnyH_take (i := 3) (oi := { dst := some 10, op := Op.nilCheck (Operand.tmp 9), type := 0, pos := _, after := _, guard := none }) (v := (.pointer (some ⟨rb, 0, none⟩))) rfl (by kernel_rfl) (by kernel_rfl) (by kernel_rfl) (fun _ _ _ h => h) (.inl ⟨by kernel_rfl, fun W' hW => by go_simp⟩) hS ?_
  try simp only [Act.put, List.setIfInBounds_toArray, List.set_cons_zero, List.set_cons_succ]
  refine wpAnyH_take (i := 4) (oi := { dst := some 11, op := Op.fieldAddr 71 (Operand.tmp 10) 2, type := 0, pos := _, after := _, guard := none }) (v := (.pointer (some ⟨rb, 2, none⟩))) rfl (by kernel_rfl) (by kernel_rfl) (by kernel_rfl) (fun _ _ _ h => h) (.inl ⟨by kernel_rfl, fun W' hW => by go_simp⟩) hS ?_
  try simp only [Act.put, List.setIfInBounds_toArray, List.set_cons_zero, List.set_cons_succ]
  refine wpAnyH_take (i := 5) (oi := { dst := some 12, op := Op.load 51 (Operand.tmp 11), type := 51, pos := _, after := _, guard := none }) (v := (.slice oa W.length cap)) rfl (by kernel_rfl) (by kernel_rfl) (by kernel_rfl) (fun _ _ _ h => h) (.inl ⟨by kernel_rfl, fun W' hW => by have ob := (obj_below hW (lt_of_obj R0.out)).trans R0.out; have z := lt_of_obj ob; have c := cell_at ob 2; (try simp only [List.getElem?_toArray, List.getElem?_cons_zero, List.getElem?_cons_succ] at c); go_simp⟩) hS ?_
  try simp only [Act.put, List.setIfInBounds_toArray, List.set_cons_zero, List.set_cons_succ]
  refine wpAnyH_take (i := 6) (oi := { dst := some 13, op := Op.call { callee := Callee.builtin Builtin.len, args := #[Operand.tmp 12], argTypes := #[51] }, type := 3, pos := _, after := _, guard := none }) (v := (.int .i64 (W.length : Int))) rfl (by kernel_rfl) (by kernel_rfl) (by kernel_rfl) (fun _ _ _ h => h) (.inl ⟨by kernel_rfl, fun W' hW => by go_simp⟩) hS ?_
  try simp only [Act.put, List.setIfInBounds_toArray, List.set_cons_zero, List.set_cons_succ]
  refine wpAnyH_ready (rs := [1]) (by kernel_rfl) (by simp) (AllReadyH.cons rfl (fun K hK => ?_) AllReadyH.nil)
  go_simp
  refine (C11.out _ hS).mono ?_
  rintro _ x1 ⟨rfl, hb1x⟩
  refine hK.out _ _ (hS.trans (hb1x.mono hS.size)) (fun hS1 => ?_)
  clear hK K
  try simp only [Act.put, List.setIfInBounds_toArray, List.set_cons_zero, List.set_cons_succ]
  refine wpAnyH_take (i := 7) (oi := { dst := some 14, op := Op.binOp BinOp.eql 3 (Operand.tmp 8) (Operand.tmp 13) 3, type := 4, pos := _, after := _, guard := none }) (v := (.bool true)) rfl (by kernel_rfl) (by kernel_rfl) (by kernel_rfl) (fun _ _ _ h => h) (.inl ⟨by kernel_rfl, fun W' hW => by go_simp⟩) hS1 ?_
  try simp only [Act.put, List.setIfInBounds_toArray, List.set_cons_zero, List.set_cons_succ]
  refine wpAnyH_take (i := 8) (oi := { dst := some 15, op := Op.move (Operand.tmp 14), type := 4, pos := _, after := _, guard := none }) (v := (.bool true)) rfl (by kernel_rfl) (by kernel_rfl) (by kernel_rfl) (fun _ _ _ h => h) (yieldsIf_move' (by kernel_rfl) (.tmp 14) (by kernel_rfl) (by kernel_rfl)) hS1 ?_
  try simp only [Act.put, List.setIfInBounds_toArray, List.set_cons_zero, List.set_cons_succ]
  refine wpAnyH_take (i := 9) (oi := { dst := some 16, op := Op.move (Operand.tmp 0), type := 22, pos := _, after := _, guard := some (8, true) }) (v := (.pointer (some ⟨b, 0, none⟩))) rfl (by kernel_rfl) (by kernel_rfl) (by kernel_rfl) (fun _ _ _ h => h) (yieldsIf_move' (by kernel_rfl) (.tmp 0) (by kernel_rfl) (by kernel_rfl)) hS1 ?_
  try simp only [Act.put, List.setIfInBounds_toArray, List.set_cons_zero, List.set_cons_succ]
  refine wpAnyH_take (i := 10) (oi := { dst := some 17, op := Op.move (Operand.tmp 2), type := 3, pos := _, after := _, guard := some (8, true) }) (v := (.int .i64 nd)) rfl (by kernel_rfl) (by kernel_rfl) (by kernel_rfl) (fun _ _ _ h => h) (yieldsIf_move' (by kernel_rfl) (.tmp 2) (by kernel_rfl) (by kernel_rfl)) hS1 ?_
  try simp only [Act.put, List.setIfInBounds_toArray, List.set_cons_zero, List.set_cons_succ]
  refine wpAnyH_take (i := 12) (oi := { dst := some 19, op := Op.move (Operand.tmp 1), type := 58, pos := _, after := _, guard := some (8, true) }) (v := (.pointer (some ⟨rb, 0, none⟩))) rfl (by kernel_rfl) (by kernel_rfl) (by kernel_rfl) (fun _ _ _ h => h) (yieldsIf_move' (by kernel_rfl) (.tmp 1) (by kernel_rfl) (by kernel_rfl)) hS1 ?_
  try simp only [Act.put, List.setIfInBounds_toArray, List.set_cons_zero, List.set_cons_succ]
  refine wpAnyH_take (i := 13) (oi := { dst := some 20, op := Op.move (Operand.tmp 2), type := 3, pos := _, after := _, guard := some (8, true) }) (v := (.int .i64 nd)) rfl (by kernel_rfl) (by kernel_rfl) (by kernel_rfl) (fun _ _ _ h => h) (yieldsIf_move' (by kernel_rfl) (.tmp 2) (by kernel_rfl) (by kernel_rfl)) hS1 ?_
  try simp only [Act.put, List.setIfInBounds_toArray, List.set_cons_zero, List.set_cons_succ]
  refine wpAnyH_ready (rs := [11]) (by kernel_rfl) (by simp) (AllReadyH.cons rfl (fun K hK => ?_) AllReadyH.nil)
  go_simp
  refine (C17.out _ hS1).mono ?_
  rintro _ x2 ⟨rfl, hb2x⟩
  refine hK.out _ _ (hS1.trans (hb2x.mono hS1.size)) (fun hS2 => ?_)
  clear hK K
  try simp only [Act.put, List.setIfInBounds_toArray, List.set_cons_zero, List.set_cons_succ]
  refine wpAnyH_ready (rs := [14]) (by kernel_rfl) (by simp) (AllReadyH.cons rfl (fun K hK => ?_) AllReadyH.nil)
  go_simp
  refine (C36.out _ hS2).mono ?_
  rintro _ x3 ⟨rfl, hb3x⟩
  refine hK.out _ _ (hS2.trans (hb3x.mono hS2.size)) (fun hS3 => ?_)
  clear hK K
  try simp only [Act.put, List.setIfInBounds_toArray, List.set_cons_zero, List.set_cons_succ]
  refine wpAnyH_take (i := 15) (oi := { dst := some 22, op := Op.binOp BinOp.eql 3 (Operand.tmp 18) (Operand.tmp 21) 3, type := 4, pos := _, after := _, guard := some (8, true) }) (v := (.bool true)) rfl (by kernel_rfl) (by kernel_rfl) (by kernel_rfl) (fun _ _ _ h => h) (.inl ⟨by kernel_rfl, fun W' hW => by go_simp⟩) hS3 ?_
  try simp only [Act.put, List.setIfInBounds_toArray, List.set_cons_zero, List.set_cons_succ]
  refine wpAnyH_take (i := 16) (oi := { dst := some 23, op := Op.pick (Operand.tmp 15) (Operand.tmp 22) (Operand.const (Value.bool false)), type := 4, pos := _, after := _, guard := none }) (v := (.bool true)) rfl (by kernel_rfl) (by kernel_rfl) (by kernel_rfl) (fun _ _ _ h => h) (.inl ⟨by kernel_rfl, fun W' hW => by go_simp⟩) hS3 ?_
  try simp only [Act.put, List.setIfInBounds_toArray, List.set_cons_zero, List.set_cons_succ]
  refine wpAnyH_take (i := 17) (oi := { dst := some 24, op := Op.move (Operand.tmp 23), type := 4, pos := _, after := _, guard := none }) (v := (.bool true)) rfl (by kernel_rfl) (by kernel_rfl) (by kernel_rfl) (fun _ _ _ h => h) (yieldsIf_move' (by kernel_rfl) (.tmp 23) (by kernel_rfl) (by kernel_rfl)) hS3 ?_
  try simp only [Act.put, List.setIfInBounds_toArray, List.set_cons_zero, List.set_cons_succ]
  refine wpAnyH_take (i := 18) (oi := { dst := some 25, op := Op.move (Operand.tmp 0), type := 22, pos := _, after := _, guard := some (17, true) }) (v := (.pointer (some ⟨b, 0, none⟩))) rfl (by kernel_rfl) (by kernel_rfl) (by kernel_rfl) (fun _ _ _ h => h) (yieldsIf_move' (by kernel_rfl) (.tmp 0) (by kernel_rfl) (by kernel_rfl)) hS3 ?_
  try simp only [Act.put, List.setIfInBounds_toArray, List.set_cons_zero, List.set_cons_succ]
  refine wpAnyH_take (i := 20) (oi := { dst := some 27, op := Op.move (Operand.tmp 1), type := 58, pos := _, after := _, guard := some (17, true) }) (v := (.pointer (some ⟨rb, 0, none⟩))) rfl (by kernel_rfl) (by kernel_rfl) (by kernel_rfl) (fun _ _ _ h => h) (yieldsIf_move' (by kernel_rfl) (.tmp 1) (by kernel_rfl) (by kernel_rfl)) hS3 ?_
  try simp only [Act.put, List.setIfInBounds_toArray, List.set_cons_zero, List.set_cons_succ]
  refine wpAnyH_take (i := 21) (oi := { dst := some 28, op := Op.nilCheck (Operand.tmp 27), type := 0, pos := _, after := _, guard := some (17, true) }) (v := (.pointer (some ⟨rb, 0, none⟩))) rfl (by kernel_rfl) (by kernel_rfl) (by kernel_rfl) (fun _ _ _ h => h) (.inl ⟨by kernel_rfl, fun W' hW => by go_simp⟩) hS3 ?_
  try simp only [Act.put, List.setIfInBounds_toArray, List.set_cons_zero, List.set_cons_succ]
  refine wpAnyH_take (i := 22) (oi := { dst := some 29, op := Op.fieldAddr 71 (Operand.tmp 28) 3, type := 0, pos := _, after := _, guard := some (17, true) }) (v := (.pointer (some ⟨rb, 3, none⟩))) rfl (by kernel_rfl) (by kernel_rfl) (by kernel_rfl) (fun _ _ _ h => h) (.inl ⟨by kernel_rfl, fun W' hW => by go_simp⟩) hS3 ?_
  try simp only [Act.put, List.setIfInBounds_toArray, List.set_cons_zero, List.set_cons_succ]
  refine wpAnyH_take (i := 23) (oi := { dst := some 30, op := Op.load 37 (Operand.tmp 29), type := 37, pos := _, after := _, guard := some (17, true) }) (v := (.agg #[.int .i64 S.asked, .int .i64 S.ans, .int .i64 S.exp])) rfl (by kernel_rfl) (by kernel_rfl) (by kernel_rfl) (fun _ _ _ h => h) (.inl ⟨by kernel_rfl, fun W' hW => by have ob := (obj_below hW (lt_of_obj R0.out)).trans R0.out; have z := lt_of_obj ob; have c3 := cell_at ob 3; have c4 := cell_at ob 4; have c5 := cell_at ob 5; (simp only [List.getElem?_toArray, List.getElem?_cons_zero, List.getElem?_cons_succ] at c3 c4 c5); go_simp⟩) hS3 ?_
  try simp only [Act.put, List.setIfInBounds_toArray, List.set_cons_zero, List.set_cons_succ]
  refine wpAnyH_ready (rs := [19]) (by kernel_rfl) (by simp) (AllReadyH.cons rfl (fun K hK => ?_) AllReadyH.nil)
  go_simp
  refine (C15.out _ hS3).mono ?_
  rintro _ x4 ⟨rfl, hb4x⟩
  refine hK.out _ _ (hS3.trans (hb4x.mono hS3.size)) (fun hS4 => ?_)
  clear hK K
  try simp only [Act.put, List.setIfInBounds_toArray, List.set_cons_zero, List.set_cons_succ]
  refine wpAnyH_take (i := 24) (oi := { dst := some 31, op := Op.binOp BinOp.eql 37 (Operand.tmp 26) (Operand.tmp 30) 37, type := 4, pos := _, after := _, guard := some (17, true) }) (v := (.bool true)) rfl (by kernel_rfl) (by kernel_rfl) (by kernel_rfl) (fun _ _ _ h => h) (.inl ⟨by kernel_rfl, fun W' hW => by go_simp⟩) hS4 ?_
  try simp only [Act.put, List.setIfInBounds_toArray, List.set_cons_zero, List.set_cons_succ]
  refine wpAnyH_take (i := 25) (oi := { dst := some 32, op := Op.pick (Operand.tmp 24) (Operand.tmp 31) (Operand.const (Value.bool false)), type := 4, pos := _, after := _, guard := none }) (v := (.bool true)) rfl (by kernel_rfl) (by kernel_rfl) (by kernel_rfl) (fun _ _ _ h => h) (.inl ⟨by kernel_rfl, fun W' hW => by go_simp⟩) hS4 ?_
  try simp only [Act.put, List.setIfInBounds_toArray, List.set_cons_zero, List.set_cons_succ]
  refine wpAnyH_take (i := 26) (oi := { dst := some 33, op := Op.move (Operand.tmp 32), type := 4, pos := _, after := _, guard := none }) (v := (.bool true)) rfl (by kernel_rfl) (by kernel_rfl) (by kernel_rfl) (fun _ _ _ h => h) (yieldsIf_move' (by kernel_rfl) (.tmp 32) (by kernel_rfl) (by kernel_rfl)) hS4 ?_
  try simp only [Act.put, List.setIfInBounds_toArray, List.set_cons_zero, List.set_cons_succ]
  refine wpAnyH_take (i := 27) (oi := { dst := some 34, op := Op.move (Operand.tmp 0), type := 22, pos := _, after := _, guard := some (26, true) }) (v := (.pointer (some ⟨b, 0, none⟩))) rfl (by kernel_rfl) (by kernel_rfl) (by kernel_rfl) (fun _ _ _ h => h) (yieldsIf_move' (by kernel_rfl) (.tmp 0) (by kernel_rfl) (by kernel_rfl)) hS4 ?_
  try simp only [Act.put, List.setIfInBounds_toArray, List.set_cons_zero, List.set_cons_succ]
  refine wpAnyH_take (i := 30) (oi := { dst := some 37, op := Op.move (Operand.tmp 1), type := 58, pos := _, after := _, guard := some (26, true) }) (v := (.pointer (some ⟨rb, 0, none⟩))) rfl (by kernel_rfl) (by kernel_rfl) (by kernel_rfl) (fun _ _ _ h => h) (yieldsIf_move' (by kernel_rfl) (.tmp 1) (by kernel_rfl) (by kernel_rfl)) hS4 ?_
  try simp only [Act.put, List.setIfInBounds_toArray, List.set_cons_zero, List.set_cons_succ]
  refine wpAnyH_take (i := 31) (oi := { dst := some 38, op := Op.nilCheck (Operand.tmp 37), type := 0, pos := _, after := _, guard := some (26, true) }) (v := (.pointer (some ⟨rb, 0, none⟩))) rfl (by kernel_rfl) (by kernel_rfl) (by kernel_rfl) (fun _ _ _ h => h) (.inl ⟨by kernel_rfl, fun W' hW => by go_simp⟩) hS4 ?_
  try simp only [Act.put, List.setIfInBounds_toArray, List.set_cons_zero, List.set_cons_succ]
  refine wpAnyH_take (i := 32) (oi := { dst := some 39, op := Op.fieldAddr 71 (Operand.tmp 38) 2, type := 0, pos := _, after := _, guard := some (26, true) }) (v := (.pointer (some ⟨rb, 2, none⟩))) rfl (by kernel_rfl) (by kernel_rfl) (by kernel_rfl) (fun _ _ _ h => h) (.inl ⟨by kernel_rfl, fun W' hW => by go_simp⟩) hS4 ?_
  try simp only [Act.put, List.setIfInBounds_toArray, List.set_cons_zero, List.set_cons_succ]
  refine wpAnyH_take (i := 33) (oi := { dst := some 40, op := Op.load 51 (Operand.tmp 39), type := 51, pos := _, after := _, guard := some (26, true) }) (v := (.slice oa W.length cap)) rfl (by kernel_rfl) (by kernel_rfl) (by kernel_rfl) (fun _ _ _ h => h) (.inl ⟨by kernel_rfl, fun W' hW => by have ob := (obj_below hW (lt_of_obj R0.out)).trans R0.out; have z := lt_of_obj ob; have c := cell_at ob 2; (try simp only [List.getElem?_toArray, List.getElem?_cons_zero, List.getElem?_cons_succ] at c); go_simp⟩) hS4 ?_
  try simp only [Act.put, List.setIfInBounds_toArray, List.set_cons_zero, List.set_cons_succ]
  refine wpAnyH_ready (rs := [28]) (by kernel_rfl) (by simp) (AllReadyH.cons rfl (fun K hK => ?_) AllReadyH.nil)
  go_simp
  refine (C19.out _ hS4).mono ?_
  rintro _ x5 ⟨lb1, rfl, hc1, hb5x⟩
  refine hK.out _ _ (hS4.trans (hb5x.mono hS4.size)) (fun hS5 => ?_)
  clear hK K
  try simp only [Act.put, List.setIfInBounds_toArray, List.set_cons_zero, List.set_cons_succ]
  refine wpAnyH_ready (rs := [29]) (by kernel_rfl) (by simp) (AllReadyH.cons rfl (fun K hK => ?_) AllReadyH.nil)
  go_simp
  refine (hc1 1048576).mono ?_
  rintro _ x6 ⟨v30, rfl, o30, hb6x⟩
  rw [HT1.out] at o30
  refine hK.out _ _ (hS5.trans (hb6x.mono hS5.size)) (fun hS6 => ?_)
  clear hK K
  try simp only [Act.put, List.setIfInBounds_toArray, List.set_cons_zero, List.set_cons_succ]
  refine wpAnyH_ready (rs := [34]) (by kernel_rfl) (by simp) (AllReadyH.cons rfl (fun K hK => ?_) AllReadyH.nil)
  go_simp
  refine (equal_same _ _ _ _ (o30.slIn akL_length) (Q6.out.below hS6)).mono ?_
  rintro _ x7 ⟨rfl, hb7x⟩
  clear hc1 o30
  refine hK.out _ _ (hS6.trans (hb7x.mono hS6.size)) (fun hS7 => ?_)
  clear hK K
  try simp only [Act.put, List.setIfInBounds_toArray, List.set_cons_zero, List.set_cons_succ]
  refine wpAnyH_take (i := 35) (oi := { dst := some 42, op := Op.pick (Operand.tmp 33) (Operand.tmp 41) (Operand.const (Value.bool false)), type := 4, pos := _, after := _, guard := none }) (v := (.bool true)) rfl (by kernel_rfl) (by kernel_rfl) (by kernel_rfl) (fun _ _ _ h => h) (.inl ⟨by kernel_rfl, fun W' hW => by go_simp⟩) hS7 ?_
  try simp only [Act.put, List.setIfInBounds_toArray, List.set_cons_zero, List.set_cons_succ]
  refine wpAnyH_take (i := 36) (oi := { dst := some 43, op := Op.move (Operand.tmp 42), type := 4, pos := _, after := _, guard := none }) (v := (.bool true)) rfl (by kernel_rfl) (by kernel_rfl) (by kernel_rfl) (fun _ _ _ h => h) (yieldsIf_move' (by kernel_rfl) (.tmp 42) (by kernel_rfl) (by kernel_rfl)) hS7 ?_
  try simp only [Act.put, List.setIfInBounds_toArray, List.set_cons_zero, List.set_cons_succ]
  refine wpAnyH_take (i := 37) (oi := { dst := some 44, op := Op.move (Operand.tmp 0), type := 22, pos := _, after := _, guard := some (36, true) }) (v := (.pointer (some ⟨b, 0, none⟩))) rfl (by kernel_rfl) (by kernel_rfl) (by kernel_rfl) (fun _ _ _ h => h) (yieldsIf_move' (by kernel_rfl) (.tmp 0) (by kernel_rfl) (by kernel_rfl)) hS7 ?_
  try simp only [Act.put, List.setIfInBounds_toArray, List.set_cons_zero, List.set_cons_succ]
  refine wpAnyH_take (i := 40) (oi := { dst := some 47, op := Op.move (Operand.tmp 1), type := 58, pos := _, after := _, guard := some (36, true) }) (v := (.pointer (some ⟨rb, 0, none⟩))) rfl (by kernel_rfl) (by kernel_rfl) (by kernel_rfl) (fun _ _ _ h => h) (yieldsIf_move' (by kernel_rfl) (.tmp 1) (by kernel_rfl) (by kernel_rfl)) hS7 ?_
  try simp only [Act.put, List.setIfInBounds_toArray, List.set_cons_zero, List.set_cons_succ]
  refine wpAnyH_take (i := 41) (oi := { dst := some 48, op := Op.nilCheck (Operand.tmp 47), type := 0, pos := _, after := _, guard := some (36, true) }) (v := (.pointer (some ⟨rb, 0, none⟩))) rfl (by kernel_rfl) (by kernel_rfl) (by kernel_rfl) (fun _ _ _ h => h) (.inl ⟨by kernel_rfl, fun W' hW => by go_simp⟩) hS7 ?_
  try simp only [Act.put, List.setIfInBounds_toArray, List.set_cons_zero, List.set_cons_succ]
  refine wpAnyH_take (i := 42) (oi := { dst := some 49, op := Op.fieldAddr 71 (Operand.tmp 48) 2, type := 0, pos := _, after := _, guard := some (36, true) }) (v := (.pointer (some ⟨rb, 2, none⟩))) rfl (by kernel_rfl) (by kernel_rfl) (by kernel_rfl) (fun _ _ _ h => h) (.inl ⟨by kernel_rfl, fun W' hW => by go_simp⟩) hS7 ?_
  try simp only [Act.put, List.setIfInBounds_toArray, List.set_cons_zero, List.set_cons_succ]
  refine wpAnyH_take (i := 43) (oi := { dst := some 50, op := Op.load 51 (Operand.tmp 49), type := 51, pos := _, after := _, guard := some (36, true) }) (v := (.slice oa W.length cap)) rfl (by kernel_rfl) (by kernel_rfl) (by kernel_rfl) (fun _ _ _ h => h) (.inl ⟨by kernel_rfl, fun W' hW => by have ob := (obj_below hW (lt_of_obj R0.out)).trans R0.out; have z := lt_of_obj ob; have c := cell_at ob 2; (try simp only [List.getElem?_toArray, List.getElem?_cons_zero, List.getElem?_cons_succ] at c); go_simp⟩) hS7 ?_
  try simp only [Act.put, List.setIfInBounds_toArray, List.set_cons_zero, List.set_cons_succ]
  refine wpAnyH_take (i := 44) (oi := { dst := some 51, op := Op.move (Operand.tmp 1), type := 58, pos := _, after := _, guard := some (36, true) }) (v := (.pointer (some ⟨rb, 0, none⟩))) rfl (by kernel_rfl) (by kernel_rfl) (by kernel_rfl) (fun _ _ _ h => h) (yieldsIf_move' (by kernel_rfl) (.tmp 1) (by kernel_rfl) (by kernel_rfl)) hS7 ?_
  try simp only [Act.put, List.setIfInBounds_toArray, List.set_cons_zero, List.set_cons_succ]
  refine wpAnyH_take (i := 45) (oi := { dst := some 52, op := Op.nilCheck (Operand.tmp 51), type := 0, pos := _, after := _, guard := some (36, true) }) (v := (.pointer (some ⟨rb, 0, none⟩))) rfl (by kernel_rfl) (by kernel_rfl) (by kernel_rfl) (fun _ _ _ h => h) (.inl ⟨by kernel_rfl, fun W' hW => by go_simp⟩) hS7 ?_
  try simp only [Act.put, List.setIfInBounds_toArray, List.set_cons_zero, List.set_cons_succ]
  refine wpAnyH_take (i := 46) (oi := { dst := some 53, op := Op.fieldAddr 71 (Operand.tmp 52) 2, type := 0, pos := _, after := _, guard := some (36, true) }) (v := (.pointer (some ⟨rb, 2, none⟩))) rfl (by kernel_rfl) (by kernel_rfl) (by kernel_rfl) (fun _ _ _ h => h) (.inl ⟨by kernel_rfl, fun W' hW => by go_simp⟩) hS7 ?_
  try simp only [Act.put, List.setIfInBounds_toArray, List.set_cons_zero, List.set_cons_succ]
  refine wpAnyH_take (i := 47) (oi := { dst := some 54, op := Op.load 51 (Operand.tmp 53), type := 51, pos := _, after := _, guard := some (36, true) }) (v := (.slice oa W.length cap)) rfl (by kernel_rfl) (by kernel_rfl) (by kernel_rfl) (fun _ _ _ h => h) (.inl ⟨by kernel_rfl, fun W' hW => by have ob := (obj_below hW (lt_of_obj R0.out)).trans R0.out; have z := lt_of_obj ob; have c := cell_at ob 2; (try simp only [List.getElem?_toArray, List.getElem?_cons_zero, List.getElem?_cons_succ] at c); go_simp⟩) hS7 ?_
  try simp only [Act.put, List.setIfInBounds_toArray, List.set_cons_zero, List.set_cons_succ]
  refine wpAnyH_take (i := 48) (oi := { dst := some 55, op := Op.call { callee := Callee.builtin Builtin.len, args := #[Operand.tmp 54], argTypes := #[51] }, type := 3, pos := _, after := _, guard := some (36, true) }) (v := (.int .i64 (W.length : Int))) rfl (by kernel_rfl) (by kernel_rfl) (by kernel_rfl) (fun _ _ _ h => h) (.inl ⟨by kernel_rfl, fun W' hW => by go_simp⟩) hS7 ?_
  try simp only [Act.put, List.setIfInBounds_toArray, List.set_cons_zero, List.set_cons_succ]
  refine wpAnyH_take (i := 49) (oi := { dst := some 56, op := Op.call { callee := Callee.builtin Builtin.min, args := #[Operand.const (Value.int IntKind.i64 1), Operand.tmp 55], argTypes := #[3, 3] }, type := 3, pos := _, after := _, guard := some (36, true) }) (v := (.int .i64 (m1 : Int))) rfl (by kernel_rfl) (by kernel_rfl) (by kernel_rfl) (fun _ _ _ h => h) (.inl ⟨by kernel_rfl, fun W' hW => by first | go_simp | (simp only [← hmi]; go_simp)⟩) hS7 ?_
  try simp only [Act.put, List.setIfInBounds_toArray, List.set_cons_zero, List.set_cons_succ]
  refine wpAnyH_take (i := 50) (oi := { dst := some 57, op := Op.slice 51 (Operand.tmp 50) none (some (Operand.tmp 56)) none, type := 51, pos := _, after := _, guard := some (36, true) }) (v := (.slice oa m1 cap)) rfl (by kernel_rfl) (by kernel_rfl) (by kernel_rfl) (fun _ _ _ h => h) (.inl ⟨by kernel_rfl, fun W' hW => by go_simp⟩) hS7 ?_
  try simp only [Act.put, List.setIfInBounds_toArray, List.set_cons_zero, List.set_cons_succ]
  refine wpAnyH_ready (rs := [38]) (by kernel_rfl) (by simp) (AllReadyH.cons rfl (fun K hK => ?_) AllReadyH.nil)
  go_simp
  refine (C19.out _ hS7).mono ?_
  rintro _ x8 ⟨lb2, rfl, hc2, hb8x⟩
  refine hK.out _ _ (hS7.trans (hb8x.mono hS7.size)) (fun hS8 => ?_)
  clear hK K
  try simp only [Act.put, List.setIfInBounds_toArray, List.set_cons_zero, List.set_cons_succ]
  refine wpAnyH_ready (rs := [39]) (by kernel_rfl) (by simp) (AllReadyH.cons rfl (fun K hK => ?_) AllReadyH.nil)
  go_simp
  refine (hc2 1).mono ?_
  rintro _ x9 ⟨v31, rfl, o31, hb9x⟩
  rw [HT2.out] at o31
  refine hK.out _ _ (hS8.trans (hb9x.mono hS8.size)) (fun hS9 => ?_)
  clear hK K
  try simp only [Act.put, List.setIfInBounds_toArray, List.set_cons_zero, List.set_cons_succ]
  refine wpAnyH_ready (rs := [51]) (by kernel_rfl) (by simp) (AllReadyH.cons rfl (fun K hK => ?_) AllReadyH.nil)
  go_simp
  refine (equal_same _ _ _ _ (o31.slIn akL_length) (Q7.out.below hS9)).mono ?_
  rintro _ x10 ⟨rfl, hb10x⟩
  clear hc2 o31
  refine hK.out _ _ (hS9.trans (hb10x.mono hS9.size)) (fun hS10 => ?_)
  clear hK K
  try simp only [Act.put, List.setIfInBounds_toArray, List.set_cons_zero, List.set_cons_succ]
  refine wpAnyH_take (i := 52) (oi := { dst := some 59, op := Op.pick (Operand.tmp 43) (Operand.tmp 58) (Operand.const (Value.bool false)), type := 4, pos := _, after := _, guard := none }) (v := (.bool true)) rfl (by kernel_rfl) (by kernel_rfl) (by kernel_rfl) (fun _ _ _ h => h) (.inl ⟨by kernel_rfl, fun W' hW => by go_simp⟩) hS10 ?_
  try simp only [Act.put, List.setIfInBounds_toArray, List.set_cons_zero, List.set_cons_succ]
  refine wpAnyH_take (i := 53) (oi := { dst := some 6, op := Op.assign (Operand.tmp 59), type := 4, pos := _, after := _, guard := none }) (v := (.bool true)) rfl (by kernel_rfl) (by kernel_rfl) (by kernel_rfl) (fun _ _ _ h => h) (.inl ⟨by kernel_rfl, fun W' hW => by go_simp⟩) hS10 ?_
  try simp only [Act.put, List.setIfInBounds_toArray, List.set_cons_zero, List.set_cons_succ]
  refine wpAnyH_done (by kernel_rfl) ?_ _
  go_wp2
  go_ret
  exact ⟨rfl, hS10⟩
end Go.Proofs.Ytnaknoebjbmboaa
