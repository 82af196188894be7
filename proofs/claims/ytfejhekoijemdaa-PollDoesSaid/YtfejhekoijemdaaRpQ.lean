import Derived.Test.YtfejhekoijemdaaRpP
import Derived.Test.YtfejhekoijemdaaAllT2
import Derived.Deep.RegionHeld3
namespace Go.Proofs.Ytfejhekoijemdaa
open Go.RowKit

/-! ### same: what both tell of themselves is the same -/
theorem told_len (S : SetM) : (toldL S).length = S.l.length := by unfold toldL; simp
theorem all_told {w : World} {X : Nat → Prop} {b rb : Nat} {S1 S2 : SetM} {R : List (List Int)} (h : Duo w X b rb S1 S2 R) (hok : SetOK S1) (n : Nat) (hn : S1.l.length = n) (hlen : n ≤ 100000) :
    Calls Try.prog 23 #[.pointer (some ⟨b, 0, none⟩)] w fun e w' => ∃ ib db, e = .returned (.func (.func 39) #[] #[.pointer (some ⟨ib, 0, none⟩), .pointer (some ⟨db, 0, none⟩)]) ∧
      (Calls Try.prog 22 #[.func (.func 39) #[] #[.pointer (some ⟨ib, 0, none⟩), .pointer (some ⟨db, 0, none⟩)], .int .i64 1048576] w' fun e w'' => ∃ ta tc, e = .returned (.slice ta n tc) ∧ SlIn w'' (.slice ta n tc) 2 oneL (toldL S1) ∧ Below w'.heap.size w' w'') ∧
      (Calls Try.prog 22 #[.func (.func 39) #[] #[.pointer (some ⟨ib, 0, none⟩), .pointer (some ⟨db, 0, none⟩)], .int .i64 1] w' fun e w'' => ∃ ta tc, e = .returned (.slice ta (min 1 n) tc) ∧ Below w'.heap.size w' w'') ∧ Below w.heap.size w w' := by
  obtain ⟨M, V, G, lv, ps, lr, pr, h1, h2, h3, h4⟩ := h.ex
  refine (all_any w M V b lv ps S1 h1 hok (by omega)).mono ?_
  intro e w' ha
  obtain ⟨ib, db, rfl, ht, hb⟩ := ha.told (by omega)
  refine ⟨ib, db, rfl, (ht w' 1048576 (Below.refl _ _)).mono ?_, (ht w' 1 (Below.refl _ _)).mono ?_, hb⟩
  · rintro e w'' ⟨v, rfl, o, b2⟩
    have e1 : (toldL S1).take (1048576 : Int).toNat = toldL S1 := List.take_of_length_le (by rw [told_len]; simp; omega)
    rw [e1] at o
    have o2 := o.slIn oneL_length
    obtain ⟨ta, tc, rfl, g1, g2, g3⟩ := o2
    have e2 : (toldL S1).length = n := by rw [told_len]; exact hn
    rw [e2] at g1
    have o3 := o.slIn oneL_length
    rw [e2] at o3
    exact ⟨ta, tc, by rw [e2], o3, b2⟩
  · rintro e w'' ⟨v, rfl, o, b2⟩
    obtain ⟨ta, tc, rfl⟩ := o.slice
    have e2 : ((toldL S1).take (1 : Int).toNat).length = min 1 n := by rw [List.length_take, told_len, hn]; rfl
    exact ⟨ta, tc, by rw [e2], b2⟩
set_option maxRecDepth 100000 in
set_option maxHeartbeats 8000000 in
theorem same_any (w : World) (X : Nat → Prop) (b rb : Nat) (S : SetM) (R : List (List Int)) (k : Nat) (h : Both w X b rb S R k) (hk : k ≤ 90000) :
    Calls Try.prog 26 #[.pointer (some ⟨b, 0, none⟩), .pointer (some ⟨rb, 0, none⟩)] w fun e w' => e = .returned (.bool true) ∧ Below w.heap.size w w' := by
  obtain ⟨M, V, G, lv, ps, lr, pr, h1, h2, h3, h4⟩ := h.d.ex
  have hlen := h.len
  have hpl := h2.len
  have HD := Lib.hid h.d
  have HOK := Lib.hid h.ok
  have HREL := Lib.hid h.rel
  have HRS := Lib.hid h2
  have H1 := Lib.hid h1
  obtain ⟨oa, cap, rfl, hc1, hc2, hc3⟩ := h2.row
  have H3 := Lib.hid hc3
  unfold maxLen at hc2
  have R0 := Lib.hid h2.box
  have lb := h2.lt
  have C19 : Hid (∀ W' (_ : Below w.heap.size w W'), Calls Try.prog 19 #[.pointer (some ⟨b, 0, none⟩)] W' fun e w' => e = .returned (.int .i64 (pr.length : Int)) ∧ Below W'.heap.size W' w') := Lib.hid (fun W' hW => (len_any W' M V b lv ps S (H1.out.below hW) HOK.out.p0).mono (by rintro e w' ⟨rfl, rfl⟩; exact ⟨by rw [hpl], Below.refl _ _⟩))
  have C23 := Lib.hid (fun W' (hW : Below w.heap.size w W') => all_told (HD.out.below hW) HOK.out pr.length hpl.symm (by omega))
  have hpr : pr.length ≤ 90000 := by omega
  obtain ⟨m1, hm⟩ : ∃ m : Nat, m = min 1 pr.length := ⟨_, rfl⟩
  have hmi : min (1 : Int) (pr.length : Int) = (m1 : Int) := by omega
  rw [← hm] at C23
  have f1 : ((pr.length : Int) != (pr.length : Int)) = false := by simp
  have f2 : ((m1 : Int) != (m1 : Int)) = false := by simp
  have HPL := Lib.hid hpl
  clear h h1 h2 h3 h4 hc3 hm hpl hlen H1
  go_enter Try.func26, Try.ntmps26
  go_wp2_with fail
  refine (C23.out w (Below.refl _ _)).mono ?_
  rintro e w1 ⟨ib, db, rfl, t1, -, b1⟩
  have T1 := Lib.hid t1
  have B1 := Lib.hid b1
  clear t1 b1
  go_wp2_with fail
  refine T1.out.mono ?_
  rintro e w2 ⟨ta, tc, rfl, s2, b2⟩
  have S2 := Lib.hid s2
  have B2 : Hid (Below w.heap.size w w2) := Lib.hid (B1.out.trans (b2.mono B1.out.size))
  have rbc : w2.cell? ⟨rb, 2, none⟩ = some (.slice oa pr.length cap) := cell_at ((obj_below B2.out lb).trans R0.out) 2
  have lb2 : rb < w2.heap.size := Nat.lt_of_lt_of_le lb B2.out.size
  clear b2 s2 T1 B1
  go_wp2_with fail
  have B2d : Below w.heap.size w w2.drew := B2.out.drew
  refine wp_region_held_drew (S := fun W' => Below w.heap.size w W') (by kernel_rfl) B2d (fun hS => ?_)
  refine wpAnyH_take (i := 0) (oi := { dst := some 17, op := Op.move (Operand.tmp 0), type := 25, pos := _, after := _, guard := none }) (v := (.pointer (some ⟨b, 0, none⟩))) rfl (by kernel_rfl) (by kernel_rfl) (by kernel_rfl) (fun _ _ _ h => h) (yieldsIf_move' (by kernel_rfl) (.tmp 0) (by kernel_rfl) (by kernel_rfl)) hS ?_
  try simp only [Act.put, List.setIfInBounds_toArray, List.set_cons_zero, List.set_cons_succ]
  refine wpAnyH_take (i := 2) (oi := { dst := some 19, op := Op.move (Operand.tmp 1), type := 68, pos := _, after := _, guard := none }) (v := (.pointer (some ⟨rb, 0, none⟩))) rfl (by kernel_rfl) (by kernel_rfl) (by kernel_rfl) (fun _ _ _ h => h) (yieldsIf_move' (by kernel_rfl) (.tmp 1) (by kernel_rfl) (by kernel_rfl)) hS ?_
  try simp only [Act.put, List.setIfInBounds_toArray, List.set_cons_zero, List.set_cons_succ]
  refine wpAnyH_take (i := 3) (oi := { dst := some 20, op := Op.nilCheck (Operand.tmp 19), type := 0, pos := _, after := _, guard := none }) (v := (.pointer (some ⟨rb, 0, none⟩))) rfl (by kernel_rfl) (by kernel_rfl) (by kernel_rfl) (fun _ _ _ h => h) (.inl ⟨by kernel_rfl, fun W' hW => by go_simp⟩) hS ?_
  try simp only [Act.put, List.setIfInBounds_toArray, List.set_cons_zero, List.set_cons_succ]
  refine wpAnyH_take (i := 4) (oi := { dst := some 21, op := Op.fieldAddr 101 (Operand.tmp 20) 2, type := 0, pos := _, after := _, guard := none }) (v := (.pointer (some ⟨rb, 2, none⟩))) rfl (by kernel_rfl) (by kernel_rfl) (by kernel_rfl) (fun _ _ _ h => h) (.inl ⟨by kernel_rfl, fun W' hW => by go_simp⟩) hS ?_
  try simp only [Act.put, List.setIfInBounds_toArray, List.set_cons_zero, List.set_cons_succ]
  refine wpAnyH_take (i := 5) (oi := { dst := some 22, op := Op.load 99 (Operand.tmp 21), type := 99, pos := _, after := _, guard := none }) (v := (.slice oa pr.length cap)) rfl (by kernel_rfl) (by kernel_rfl) (by kernel_rfl) (fun _ _ _ h => h) (.inl ⟨by kernel_rfl, fun W' hW => by have ob := (obj_below hW (lt_of_obj R0.out)).trans R0.out; have z := lt_of_obj ob; have c := cell_at ob 2; (try simp only [List.getElem?_toArray, List.getElem?_cons_zero, List.getElem?_cons_succ] at c); go_simp⟩) hS ?_
  try simp only [Act.put, List.setIfInBounds_toArray, List.set_cons_zero, List.set_cons_succ]
  refine wpAnyH_take (i := 6) (oi := { dst := some 23, op := Op.call { callee := Callee.builtin Builtin.len, args := #[Operand.tmp 22], argTypes := #[99] }, type := 3, pos := _, after := _, guard := none }) (v := (.int .i64 (pr.length : Int))) rfl (by kernel_rfl) (by kernel_rfl) (by kernel_rfl) (fun _ _ _ h => h) (.inl ⟨by kernel_rfl, fun W' hW => by go_simp⟩) hS ?_
  try simp only [Act.put, List.setIfInBounds_toArray, List.set_cons_zero, List.set_cons_succ]
  refine wpAnyH_ready (rs := [1]) (by kernel_rfl) (by simp) (AllReadyH.cons rfl (fun K hK => ?_) AllReadyH.nil)
  go_simp
  refine (C19.out _ hS).mono ?_
  rintro _ x1 ⟨rfl, hb1x⟩
  have SX : Hid (SlIn x1 (.slice ta pr.length tc) 2 oneL (toldL S)) := Lib.hid ((S2.out.below (Below.refl _ _).drew).below hb1x)
  refine hK.out _ _ (hS.trans (hb1x.mono hS.size)) (fun hS1 => ?_)
  clear hK K
  try simp only [Act.put, List.setIfInBounds_toArray, List.set_cons_zero, List.set_cons_succ]
  refine wpAnyH_take (i := 7) (oi := { dst := some 24, op := Op.binOp BinOp.neq 3 (Operand.tmp 18) (Operand.tmp 23) 3, type := 4, pos := _, after := _, guard := none }) (v := (.bool false)) rfl (by kernel_rfl) (by kernel_rfl) (by kernel_rfl) (fun _ _ _ h => h) (.inl ⟨by kernel_rfl, fun W' hW => by go_simp⟩) hS1 ?_
  try simp only [Act.put, List.setIfInBounds_toArray, List.set_cons_zero, List.set_cons_succ]
  refine wpAnyH_take (i := 8) (oi := { dst := some 25, op := Op.move (Operand.tmp 24), type := 4, pos := _, after := _, guard := none }) (v := (.bool false)) rfl (by kernel_rfl) (by kernel_rfl) (by kernel_rfl) (fun _ _ _ h => h) (yieldsIf_move' (by kernel_rfl) (.tmp 24) (by kernel_rfl) (by kernel_rfl)) hS1 ?_
  try simp only [Act.put, List.setIfInBounds_toArray, List.set_cons_zero, List.set_cons_succ]
  refine wpAnyH_take (i := 9) (oi := { dst := some 26, op := Op.move (Operand.tmp 5), type := 60, pos := _, after := _, guard := some (8, false) }) (v := (.slice ta pr.length tc)) rfl (by kernel_rfl) (by kernel_rfl) (by kernel_rfl) (fun _ _ _ h => h) (yieldsIf_move' (by kernel_rfl) (.tmp 5) (by kernel_rfl) (by kernel_rfl)) hS1 ?_
  try simp only [Act.put, List.setIfInBounds_toArray, List.set_cons_zero, List.set_cons_succ]
  refine wpAnyH_take (i := 10) (oi := { dst := some 27, op := Op.call { callee := Callee.builtin Builtin.len, args := #[Operand.tmp 26], argTypes := #[60] }, type := 3, pos := _, after := _, guard := some (8, false) }) (v := (.int .i64 (pr.length : Int))) rfl (by kernel_rfl) (by kernel_rfl) (by kernel_rfl) (fun _ _ _ h => h) (.inl ⟨by kernel_rfl, fun W' hW => by go_simp⟩) hS1 ?_
  try simp only [Act.put, List.setIfInBounds_toArray, List.set_cons_zero, List.set_cons_succ]
  refine wpAnyH_take (i := 11) (oi := { dst := some 28, op := Op.move (Operand.tmp 1), type := 68, pos := _, after := _, guard := some (8, false) }) (v := (.pointer (some ⟨rb, 0, none⟩))) rfl (by kernel_rfl) (by kernel_rfl) (by kernel_rfl) (fun _ _ _ h => h) (yieldsIf_move' (by kernel_rfl) (.tmp 1) (by kernel_rfl) (by kernel_rfl)) hS1 ?_
  try simp only [Act.put, List.setIfInBounds_toArray, List.set_cons_zero, List.set_cons_succ]
  refine wpAnyH_take (i := 12) (oi := { dst := some 29, op := Op.nilCheck (Operand.tmp 28), type := 0, pos := _, after := _, guard := some (8, false) }) (v := (.pointer (some ⟨rb, 0, none⟩))) rfl (by kernel_rfl) (by kernel_rfl) (by kernel_rfl) (fun _ _ _ h => h) (.inl ⟨by kernel_rfl, fun W' hW => by go_simp⟩) hS1 ?_
  try simp only [Act.put, List.setIfInBounds_toArray, List.set_cons_zero, List.set_cons_succ]
  refine wpAnyH_take (i := 13) (oi := { dst := some 30, op := Op.fieldAddr 101 (Operand.tmp 29) 2, type := 0, pos := _, after := _, guard := some (8, false) }) (v := (.pointer (some ⟨rb, 2, none⟩))) rfl (by kernel_rfl) (by kernel_rfl) (by kernel_rfl) (fun _ _ _ h => h) (.inl ⟨by kernel_rfl, fun W' hW => by go_simp⟩) hS1 ?_
  try simp only [Act.put, List.setIfInBounds_toArray, List.set_cons_zero, List.set_cons_succ]
  refine wpAnyH_take (i := 14) (oi := { dst := some 31, op := Op.load 99 (Operand.tmp 30), type := 99, pos := _, after := _, guard := some (8, false) }) (v := (.slice oa pr.length cap)) rfl (by kernel_rfl) (by kernel_rfl) (by kernel_rfl) (fun _ _ _ h => h) (.inl ⟨by kernel_rfl, fun W' hW => by have ob := (obj_below hW (lt_of_obj R0.out)).trans R0.out; have z := lt_of_obj ob; have c := cell_at ob 2; (try simp only [List.getElem?_toArray, List.getElem?_cons_zero, List.getElem?_cons_succ] at c); go_simp⟩) hS1 ?_
  try simp only [Act.put, List.setIfInBounds_toArray, List.set_cons_zero, List.set_cons_succ]
  refine wpAnyH_take (i := 15) (oi := { dst := some 32, op := Op.call { callee := Callee.builtin Builtin.len, args := #[Operand.tmp 31], argTypes := #[99] }, type := 3, pos := _, after := _, guard := some (8, false) }) (v := (.int .i64 (pr.length : Int))) rfl (by kernel_rfl) (by kernel_rfl) (by kernel_rfl) (fun _ _ _ h => h) (.inl ⟨by kernel_rfl, fun W' hW => by go_simp⟩) hS1 ?_
  try simp only [Act.put, List.setIfInBounds_toArray, List.set_cons_zero, List.set_cons_succ]
  refine wpAnyH_take (i := 16) (oi := { dst := some 33, op := Op.binOp BinOp.neq 3 (Operand.tmp 27) (Operand.tmp 32) 3, type := 4, pos := _, after := _, guard := some (8, false) }) (v := (.bool false)) rfl (by kernel_rfl) (by kernel_rfl) (by kernel_rfl) (fun _ _ _ h => h) (.inl ⟨by kernel_rfl, fun W' hW => by go_simp⟩) hS1 ?_
  try simp only [Act.put, List.setIfInBounds_toArray, List.set_cons_zero, List.set_cons_succ]
  refine wpAnyH_take (i := 17) (oi := { dst := some 34, op := Op.pick (Operand.tmp 25) (Operand.const (Value.bool true)) (Operand.tmp 33), type := 4, pos := _, after := _, guard := none }) (v := (.bool false)) rfl (by kernel_rfl) (by kernel_rfl) (by kernel_rfl) (fun _ _ _ h => h) (.inl ⟨by kernel_rfl, fun W' hW => by go_simp⟩) hS1 ?_
  try simp only [Act.put, List.setIfInBounds_toArray, List.set_cons_zero, List.set_cons_succ]
  refine wpAnyH_take (i := 18) (oi := { dst := some 35, op := Op.move (Operand.tmp 34), type := 4, pos := _, after := _, guard := none }) (v := (.bool false)) rfl (by kernel_rfl) (by kernel_rfl) (by kernel_rfl) (fun _ _ _ h => h) (yieldsIf_move' (by kernel_rfl) (.tmp 34) (by kernel_rfl) (by kernel_rfl)) hS1 ?_
  try simp only [Act.put, List.setIfInBounds_toArray, List.set_cons_zero, List.set_cons_succ]
  refine wpAnyH_take (i := 19) (oi := { dst := some 36, op := Op.move (Operand.tmp 0), type := 25, pos := _, after := _, guard := some (18, false) }) (v := (.pointer (some ⟨b, 0, none⟩))) rfl (by kernel_rfl) (by kernel_rfl) (by kernel_rfl) (fun _ _ _ h => h) (yieldsIf_move' (by kernel_rfl) (.tmp 0) (by kernel_rfl) (by kernel_rfl)) hS1 ?_
  try simp only [Act.put, List.setIfInBounds_toArray, List.set_cons_zero, List.set_cons_succ]
  refine wpAnyH_take (i := 23) (oi := { dst := some 40, op := Op.move (Operand.tmp 1), type := 68, pos := _, after := _, guard := some (18, false) }) (v := (.pointer (some ⟨rb, 0, none⟩))) rfl (by kernel_rfl) (by kernel_rfl) (by kernel_rfl) (fun _ _ _ h => h) (yieldsIf_move' (by kernel_rfl) (.tmp 1) (by kernel_rfl) (by kernel_rfl)) hS1 ?_
  try simp only [Act.put, List.setIfInBounds_toArray, List.set_cons_zero, List.set_cons_succ]
  refine wpAnyH_take (i := 24) (oi := { dst := some 41, op := Op.nilCheck (Operand.tmp 40), type := 0, pos := _, after := _, guard := some (18, false) }) (v := (.pointer (some ⟨rb, 0, none⟩))) rfl (by kernel_rfl) (by kernel_rfl) (by kernel_rfl) (fun _ _ _ h => h) (.inl ⟨by kernel_rfl, fun W' hW => by go_simp⟩) hS1 ?_
  try simp only [Act.put, List.setIfInBounds_toArray, List.set_cons_zero, List.set_cons_succ]
  refine wpAnyH_take (i := 25) (oi := { dst := some 42, op := Op.fieldAddr 101 (Operand.tmp 41) 2, type := 0, pos := _, after := _, guard := some (18, false) }) (v := (.pointer (some ⟨rb, 2, none⟩))) rfl (by kernel_rfl) (by kernel_rfl) (by kernel_rfl) (fun _ _ _ h => h) (.inl ⟨by kernel_rfl, fun W' hW => by go_simp⟩) hS1 ?_
  try simp only [Act.put, List.setIfInBounds_toArray, List.set_cons_zero, List.set_cons_succ]
  refine wpAnyH_take (i := 26) (oi := { dst := some 43, op := Op.load 99 (Operand.tmp 42), type := 99, pos := _, after := _, guard := some (18, false) }) (v := (.slice oa pr.length cap)) rfl (by kernel_rfl) (by kernel_rfl) (by kernel_rfl) (fun _ _ _ h => h) (.inl ⟨by kernel_rfl, fun W' hW => by have ob := (obj_below hW (lt_of_obj R0.out)).trans R0.out; have z := lt_of_obj ob; have c := cell_at ob 2; (try simp only [List.getElem?_toArray, List.getElem?_cons_zero, List.getElem?_cons_succ] at c); go_simp⟩) hS1 ?_
  try simp only [Act.put, List.setIfInBounds_toArray, List.set_cons_zero, List.set_cons_succ]
  refine wpAnyH_take (i := 27) (oi := { dst := some 44, op := Op.call { callee := Callee.builtin Builtin.len, args := #[Operand.tmp 43], argTypes := #[99] }, type := 3, pos := _, after := _, guard := some (18, false) }) (v := (.int .i64 (pr.length : Int))) rfl (by kernel_rfl) (by kernel_rfl) (by kernel_rfl) (fun _ _ _ h => h) (.inl ⟨by kernel_rfl, fun W' hW => by go_simp⟩) hS1 ?_
  try simp only [Act.put, List.setIfInBounds_toArray, List.set_cons_zero, List.set_cons_succ]
  refine wpAnyH_take (i := 28) (oi := { dst := some 45, op := Op.call { callee := Callee.builtin Builtin.min, args := #[Operand.const (Value.int IntKind.i64 1), Operand.tmp 44], argTypes := #[3, 3] }, type := 3, pos := _, after := _, guard := some (18, false) }) (v := (.int .i64 (m1 : Int))) rfl (by kernel_rfl) (by kernel_rfl) (by kernel_rfl) (fun _ _ _ h => h) (.inl ⟨by kernel_rfl, fun W' hW => by first | go_simp | (simp only [← hmi]; go_simp)⟩) hS1 ?_
  try simp only [Act.put, List.setIfInBounds_toArray, List.set_cons_zero, List.set_cons_succ]
  refine wpAnyH_ready (rs := [20]) (by kernel_rfl) (by simp) (AllReadyH.cons rfl (fun K hK => ?_) AllReadyH.nil)
  go_simp
  refine (C23.out _ hS1).mono ?_
  rintro _ x2 ⟨ib1, db1, rfl, -, t1, hb2x⟩
  have SX : Hid (SlIn x2 (.slice ta pr.length tc) 2 oneL (toldL S)) := Lib.hid ((SX.out).below hb2x)
  refine hK.out _ _ (hS1.trans (hb2x.mono hS1.size)) (fun hS2 => ?_)
  clear hK K
  try simp only [Act.put, List.setIfInBounds_toArray, List.set_cons_zero, List.set_cons_succ]
  refine wpAnyH_ready (rs := [21]) (by kernel_rfl) (by simp) (AllReadyH.cons rfl (fun K hK => ?_) AllReadyH.nil)
  go_simp
  refine (t1).mono ?_
  rintro _ x3 ⟨ta1, tc1, rfl, hb3x⟩
  have SX : Hid (SlIn x3 (.slice ta pr.length tc) 2 oneL (toldL S)) := Lib.hid ((SX.out).below hb3x)
  clear t1
  refine hK.out _ _ (hS2.trans (hb3x.mono hS2.size)) (fun hS3 => ?_)
  clear hK K
  try simp only [Act.put, List.setIfInBounds_toArray, List.set_cons_zero, List.set_cons_succ]
  refine wpAnyH_take (i := 22) (oi := { dst := some 39, op := Op.call { callee := Callee.builtin Builtin.len, args := #[Operand.tmp 38], argTypes := #[60] }, type := 3, pos := _, after := _, guard := some (18, false) }) (v := (.int .i64 (m1 : Int))) rfl (by kernel_rfl) (by kernel_rfl) (by kernel_rfl) (fun _ _ _ h => h) (.inl ⟨by kernel_rfl, fun W' hW => by go_simp⟩) hS3 ?_
  try simp only [Act.put, List.setIfInBounds_toArray, List.set_cons_zero, List.set_cons_succ]
  refine wpAnyH_take (i := 29) (oi := { dst := some 46, op := Op.binOp BinOp.neq 3 (Operand.tmp 39) (Operand.tmp 45) 3, type := 4, pos := _, after := _, guard := some (18, false) }) (v := (.bool false)) rfl (by kernel_rfl) (by kernel_rfl) (by kernel_rfl) (fun _ _ _ h => h) (.inl ⟨by kernel_rfl, fun W' hW => by go_simp⟩) hS3 ?_
  try simp only [Act.put, List.setIfInBounds_toArray, List.set_cons_zero, List.set_cons_succ]
  refine wpAnyH_take (i := 30) (oi := { dst := some 47, op := Op.pick (Operand.tmp 35) (Operand.const (Value.bool true)) (Operand.tmp 46), type := 4, pos := _, after := _, guard := none }) (v := (.bool false)) rfl (by kernel_rfl) (by kernel_rfl) (by kernel_rfl) (fun _ _ _ h => h) (.inl ⟨by kernel_rfl, fun W' hW => by go_simp⟩) hS3 ?_
  try simp only [Act.put, List.setIfInBounds_toArray, List.set_cons_zero, List.set_cons_succ]
  refine wpAnyH_done (by kernel_rfl) ?_ _
  have BH := Lib.hid hS3
  have rbc3 : x3.cell? ⟨rb, 2, none⟩ = some (.slice oa pr.length cap) := cell_at ((obj_below BH.out lb).trans R0.out) 2
  have lb3 : rb < x3.heap.size := Nat.lt_of_lt_of_le lb BH.out.size
  clear S2 B2 B2d C19 C23 rbc lb2
  generalize x3 = w3 at *
  obtain ⟨_, _, hes, -, -, g3⟩ := SX.out
  injection hes with ea el ec
  clear el
  subst ea
  subst ec
  have E3 := Lib.hid g3
  clear g3
  go_wp2_with fail
  go_loopw [53] (fun v53 wr => ∃ i : Nat, i ≤ pr.length ∧ v53 = .int .i64 i ∧ Hid (Below w.heap.size w wr) ∧ Hid (Below w3.heap.size w3 wr)) (fun j _ => pr.length - (intOf j).toNat)
  case atStart => exact ⟨0, Nat.zero_le _, rfl, BH, Lib.hid (Below.refl _ _)⟩
  case round =>
    obtain ⟨i, hi, rfl, HB, HB3⟩ := hrel
    by_cases hlt : i < pr.length
    case neg =>
      obtain rfl : i = pr.length := by omega
      go_wp2_with fail
      go_ret
      exact ⟨rfl, HB.out⟩
    obtain ⟨q, o, sl, hf⟩ := found HRS.out HOK.out HREL.out (i := i) (by rw [← HPL.out]; exact hlt)
    have hpw := hf.pw.below HB.out
    have HPW := Lib.hid hpw
    have HREO := Lib.hid hf.rel
    have HOKO := Lib.hid hf.ok
    obtain ⟨c0, c1, -, -⟩ := hpw.cells
    obtain ⟨so, sc, esv⟩ := hpw.so.slice
    have HSO := Lib.hid (hpw.so.slIn intL_length)
    rw [esv] at c1 HSO
    have hsl64 := hf.hi
    have lq := lt_of_obj hpw.box
    obtain ⟨bb, off, rfl, hbb, hrow⟩ := H3.out (by omega)
    have hs := hrow i hlt
    rw [← obj_below HB.out hbb] at hs
    have hqe : pr[i] = q := by have := hf.hq; rw [List.getElem?_eq_getElem hlt] at this; exact Option.some.inj this
    have hoe : (toldL S)[i]? = some (o.id, isDone S o) := by unfold toldL; rw [List.getElem?_map, hf.ho]; rfl
    rw [hqe] at hs
    have cq : wr.cell? ⟨bb, off + i, none⟩ = some (.pointer (some ⟨q.p, 0, none⟩)) := by have := subOf_cell hs (j := 0) (by decide); simpa [qL] using this
    have hbbw : bb < wr.heap.size := Nat.lt_of_lt_of_le hbb HB.out.size
    have hti : i < (toldL S).length := by rw [told_len, ← HPL.out]; exact hlt
    obtain ⟨tb, tf, rfl, htb, htr⟩ := E3.out (by omega)
    have hst := htr i hti
    have hte : (toldL S)[i] = (o.id, isDone S o) := by rw [List.getElem?_eq_getElem hti] at hoe; exact Option.some.inj hoe
    rw [hte, ← obj_below HB3.out htb] at hst
    have ct0 : wr.cell? ⟨tb, tf + i * 2, none⟩ = some (.int .i64 o.id) := by have := subOf_cell hst (j := 0) (by decide); simpa [oneL] using this
    have ct1 : wr.cell? ⟨tb, tf + i * 2 + 1, none⟩ = some (.bool (isDone S o)) := by have := subOf_cell hst (j := 1) (by decide); simpa [oneL] using this
    have htbw : tb < wr.heap.size := Nat.lt_of_lt_of_le htb HB3.out.size
    have HDN := Lib.hid (fun y : Later wr => (rdone_any y.w G rb _ pr S R q o sl (HRS.out.below (HB.out.trans (y.h.mono HB.out.size))) (HPW.out.below y.h) HREO.out HOKO.out).mono (fun e w' (he : e = .returned (.bool (isDone S o)) ∧ w' = y.w) => (show e = .returned (.bool (isDone S o)) ∧ Below y.w.heap.size y.w w' from ⟨he.1, by rw [he.2]; exact Below.refl _ _⟩)))
    generalize isDone S o = dn at *
    obtain ⟨on, hon⟩ : ∃ on, on = o.id := ⟨_, rfl⟩
    rw [← hon] at c0 ct0
    have e1 : (on == on) = true := by simp
    have e2 : (dn == dn) = true := by simp
    clear hrow hs hqe hoe hst hte htr hf hpw esv hti hon
    go_wp2_with fail
    refine wp_region_later wr (Below.refl _ _) (by kernel_rfl) (by kernel_rfl) ?_
    repeat (go_big_quiet_step (first | (go_at_call 45; with_reducible exact Calls.later (HDN.out _))))
    refine wpQuiet_nil ?_
    intro _ hxx
    obtain ⟨⟨w6, b6⟩, hxx⟩ := hxx
    subst hxx
    rename_i w6
    have B6 : Hid (Below w.heap.size w w6) := Lib.hid (HB.out.trans (b6.mono HB.out.size))
    have B63 : Hid (Below w3.heap.size w3 w6) := Lib.hid (HB3.out.trans (b6.mono HB3.out.size))
    have P6 := Lib.hid (HPW.out.below b6)
    have c06 : w6.cell? ⟨q.p, 0, none⟩ = some (.int .i64 on) := (b6.cell (p := ⟨q.p, 0, none⟩) lq).trans c0
    have lq6 : q.p < w6.heap.size := Nat.lt_of_lt_of_le lq b6.size
    have SO6 := Lib.hid (HSO.out.below b6)
    have c16 : w6.cell? ⟨q.p, 1, none⟩ = some (.slice so sl.length sc) := (b6.cell (p := ⟨q.p, 1, none⟩) lq).trans c1
    clear b6 HDN c0 c1 ct0 ct1 cq htbw hbbw lq HPW HSO
    go_wp2_with fail
    refine (duo_left (HD.out.below B6.out) HOK.out on).mono ?_
    rintro e w7 ⟨rfl, b7⟩
    have B7 : Hid (Below w.heap.size w w7) := Lib.hid (B6.out.trans (b7.mono B6.out.size))
    have B73 : Hid (Below w3.heap.size w3 w7) := Lib.hid (B63.out.trans (b7.mono B63.out.size))
    have c07 : w7.cell? ⟨q.p, 0, none⟩ = some (.int .i64 on) := (b7.cell (p := ⟨q.p, 0, none⟩) lq6).trans c06
    have lq7 : q.p < w7.heap.size := Nat.lt_of_lt_of_le lq6 b7.size
    have SO7 := Lib.hid (SO6.out.below b7)
    have c17 : w7.cell? ⟨q.p, 1, none⟩ = some (.slice so sl.length sc) := (b7.cell (p := ⟨q.p, 1, none⟩) lq6).trans c16
    clear b7 c06 c16 lq6 SO6 B6 B63 P6
    go_wp2_with fail
    refine (duo_rleft (HD.out.below B7.out) HOK.out HREL.out (by rw [← HPL.out]; omega) on).mono ?_
    rintro e w8 ⟨rfl, b8⟩
    have B8 : Hid (Below w.heap.size w w8) := Lib.hid (B7.out.trans (b8.mono B7.out.size))
    have B83 : Hid (Below w3.heap.size w3 w8) := Lib.hid (B73.out.trans (b8.mono B73.out.size))
    have c08 : w8.cell? ⟨q.p, 0, none⟩ = some (.int .i64 on) := (b8.cell (p := ⟨q.p, 0, none⟩) lq7).trans c07
    have lq8 : q.p < w8.heap.size := Nat.lt_of_lt_of_le lq7 b8.size
    have SO8 := Lib.hid (SO7.out.below b8)
    have c18 : w8.cell? ⟨q.p, 1, none⟩ = some (.slice so sl.length sc) := (b8.cell (p := ⟨q.p, 1, none⟩) lq7).trans c17
    generalize (leftM S on).1 = l1 at *
    generalize (leftM S on).2 = l2 at *
    have e3 : (l1 == l1) = true := by simp
    have e4 : (l2 == l2) = true := by simp
    clear b8 c07 c17 lq7 SO7 B7 B73
    obtain ⟨_, _, hes, -, hsc, g4⟩ := SO8.out
    cases hes
    unfold maxLen at hsc
    have E4 := Lib.hid g4
    clear g4
    go_wp2_with fail
    go_loopw [102] (fun v102 wr => ∃ j : Nat, j ≤ sl.length ∧ v102 = .int .i64 j ∧ Hid (Below w.heap.size w wr) ∧ Hid (Below w3.heap.size w3 wr) ∧ Hid (Below w8.heap.size w8 wr)) (fun j _ => sl.length - (intOf j).toNat)
    case atStart => exact ⟨0, Nat.zero_le _, rfl, B8, B83, Lib.hid (Below.refl _ _)⟩
    case round =>
      obtain ⟨j, hj, rfl, HBr, HBr3, HBr8⟩ := hrel
      by_cases hjl : j < sl.length
      case neg =>
        obtain rfl : j = sl.length := by omega
        go_wp2_with fail
        go_roundw
        case rel => exact ⟨i + 1, by omega, by go_num, HBr, HBr3⟩
        case measure => simp [intOf]; omega
      obtain ⟨sb, sf, rfl, hsb, hsr⟩ := E4.out (by omega)
      have hss := hsr j hjl
      rw [← obj_below HBr8.out hsb] at hss
      have cs : wr.cell? ⟨sb, sf + j, none⟩ = some (.int .i64 sl[j]) := by have := subOf_cell hss (j := 0) (by decide); simpa [intL] using this
      have hsbw : sb < wr.heap.size := Nat.lt_of_lt_of_le hsb HBr8.out.size
      have cp : wr.cell? ⟨q.p, 0, none⟩ = some (.int .i64 on) := (HBr8.out.cell (p := ⟨q.p, 0, none⟩) lq8).trans c08
      have lqr : q.p < wr.heap.size := Nat.lt_of_lt_of_le lq8 HBr8.out.size
      clear hsr hss
      generalize sl[j] = v at *
      have HW := Lib.hid (fun y : Later wr => duo_waits (HD.out.below (HBr.out.trans (y.h.mono HBr.out.size))) HOK.out on v)
      have HR := Lib.hid (fun y : Later wr => duo_rwaits (HD.out.below (HBr.out.trans (y.h.mono HBr.out.size))) HOK.out HREL.out (by rw [← HPL.out]; omega) on v)
      generalize waitsM S on v = wb at *
      have e5 : (wb == wb) = true := by simp
      go_wp2_with fail
      refine wp_region_later wr (Below.refl _ _) (by kernel_rfl) (by kernel_rfl) ?_
      repeat (go_big_quiet_step (first | (go_at_call 12; with_reducible exact Calls.later (HW.out _)) | (go_at_call 44; with_reducible exact Calls.later (HR.out _))))
      refine wpQuiet_nil ?_
      intro _ hxx
      obtain ⟨⟨w9, b9⟩, hxx⟩ := hxx
      subst hxx
      rename_i w9
      have B9 : Hid (Below w.heap.size w w9) := Lib.hid (HBr.out.trans (b9.mono HBr.out.size))
      have B93 : Hid (Below w3.heap.size w3 w9) := Lib.hid (HBr3.out.trans (b9.mono HBr3.out.size))
      have B98 : Hid (Below w8.heap.size w8 w9) := Lib.hid (HBr8.out.trans (b9.mono HBr8.out.size))
      clear b9 HW HR cs cp
      go_wp2_with fail
      go_roundw
      case rel => exact ⟨j + 1, by omega, by go_num, B9, B93, B98⟩
      case measure => simp [intOf]; omega
end Go.Proofs.Ytfejhekoijemdaa
