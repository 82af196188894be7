import Derived.Test.YtkjaabajomigkaaMost
import Derived.Deep.RegionHeld3
namespace Go.Proofs.Ytkjaabajomigkaa
open Go.RowKit Go.Shelf

theorem few_row2 (w1 : World) (v1 : Value) (xs : List Vt) (h : SlIn w1 v1 33 vtL xs) :
    Calls Try.prog 10 #[.slice (some ⟨w1.heap.size, 0, none⟩) 1 1] (w1.alloc (.cells #[v1] 22)) fun e w' => e = .returned (.bool (decide (xs.length ≤ 60))) ∧ Below w1.heap.size w1 w' := few_row w1 w1 v1 xs h (Below.refl _ _)
theorem yieldsIf_move' {P : Program} {ops : Array Oper} {S : World → Prop} {op : Oper} {a : Act} {v : Value} (hw : Region.wanted op (yielded ops a.tmps) = true) (x : Operand) (ho : op.op = .move x) (hv : a.eval x = v) : YieldsIf P ops S op v a :=
  hv ▸ yieldsIf_move hw x ho
theorem atl_told (w : World) (v : Value) (l : List Vt) (n : Int) (h : SlIn w v 33 vtL l) :
    Calls Try.prog 28 #[v, .int .i64 n] w fun e w' => ∃ sb nb, e = .returned (.func (.func 42) #[] #[.pointer (some ⟨sb, 0, none⟩), .pointer (some ⟨nb, 0, none⟩)]) ∧ (∀ most, Calls Try.prog 27 #[.func (.func 42) #[] #[.pointer (some ⟨sb, 0, none⟩), .pointer (some ⟨nb, 0, none⟩)], .int .i64 most] w' (RetOwn w' 27 32 idL ((atlV l n).take most.toNat))) ∧ Below w.heap.size w w' := by
  refine (atl_any w v l n h).mono ?_
  rintro e w1 ⟨sb, nb, D, rfl, b1, hD, hs⟩
  exact ⟨sb, nb, rfl, fun most => told_atl w1 w1 l n sb nb D hD hs (Below.refl _ _) most, b1⟩
theorem atlV_len (l : List Vt) (n : Int) : (atlV l n).length ≤ l.length ∧ (atlV l n).length ≤ 1048576 := by
  unfold atlV
  rw [List.length_map]
  obtain ⟨_, hp, hs⟩ := goodV_ok l
  have := len_sum hp
  have := List.length_filter_le (fun x : Vt => decide (n ≤ x.n)) (goodV l)
  have := goodV_len l
  omega
set_option maxRecDepth 100000 in
set_option maxHeartbeats 8000000 in
/-- BagCounts -/
theorem countsLaw_any (w : World) (va : Value) (l : List Vt) (id : ID) (n : Int) (h1 : SlIn w va 33 vtL l) :
    Calls Try.prog 4 #[va, .agg (idL id).toArray, .int .i64 n] w fun e w' => e = .returned (.bool true) ∧ Below w.heap.size w w' := by
  have HL := fun W => Lib.hid (live_any W)
  have H1 := Lib.hid h1
  have B1 := Lib.hid ((Below.refl _ w).alloc (Nat.le_refl _) (.cells (idL id).toArray 27))
  have O1 : Hid (obj (w.alloc (.cells (idL id).toArray 27)) w.heap.size = some (.cells (idL id).toArray 27 (0, 0))) := Lib.hid (obj_alloc_at _ _ _ rfl)
  have HFE := fun w1 (hb : Below w.heap.size w w1) => Lib.hid (few_row2 w1 va l (h1.below hb))
  obtain ⟨oa, ca, rfl, a1, a2, a3⟩ := h1
  unfold maxLen at a2
  clear a3
  by_cases hn : l.length ≤ 60
  · rw [show decide (l.length ≤ 60) = true from decide_eq_true hn] at HFE
    have HLN := Lib.hid hn
    go_enter Try.func4, Try.ntmps4
    go_wp2_with fail
    generalize w.alloc (.cells (idL id).toArray 27) = w0 at *
    refine (HL _).out.mono ?_
    rintro e w2 ⟨rfl, b2⟩
    have B2 := Lib.hid (B1.out.trans (b2.mono B1.out.size))
    have O2 := Lib.hid ((obj_below b2 (lt_of_obj O1.out)).trans O1.out)
    have HF := Lib.hid (HFE w2 B2.out).out
    clear b2 HFE B1 O1
    go_wp2_with fail
    refine HF.out.mono ?_
    rintro e w3 ⟨rfl, b3⟩
    have B3 := Lib.hid (B2.out.trans (b3.mono B2.out.size))
    have O3 := Lib.hid ((obj_below b3 (lt_of_obj O2.out)).trans O2.out)
    have HM := Lib.hid (mode_any w3 _ l (H1.out.below B3.out))
    clear b3 HF B2 O2
    go_wp2_with fail
    refine HM.out.mono ?_
    rintro e w4 ⟨rfl, b4⟩
    have B4 := Lib.hid ((B3.out.trans (b4.mono B3.out.size)).alloc (Nat.le_trans B3.out.size b4.size) (.cells (idL (modeV l).id).toArray 27))
    have O4 := Lib.hid ((obj_alloc_past w4 (.cells (idL (modeV l).id).toArray 27) _ (Nat.lt_of_lt_of_le (lt_of_obj O3.out) b4.size)).trans ((obj_below b4 (lt_of_obj O3.out)).trans O3.out))
    have M4 : Hid (obj (w4.alloc (.cells (idL (modeV l).id).toArray 27)) w4.heap.size = some (.cells (idL (modeV l).id).toArray 27 (0, 0))) := Lib.hid (obj_alloc_at _ _ _ rfl)
    have HMR := Lib.hid (modeR_any _ _ l (H1.out.below B4.out))
    clear b4 HM B3 O3
    go_wp2_with fail
    generalize w4.alloc (.cells (idL (modeV l).id).toArray 27) = w5 at *
    generalize w4.heap.size = m4 at *
    refine HMR.out.mono ?_
    rintro e w6 ⟨rfl, b6⟩
    have hz5 := B4.out.size
    have hz6 := b6.size
    have B6 := Lib.hid ((B4.out.trans (b6.mono B4.out.size)).alloc (Nat.le_trans hz5 hz6) (.cells (idL (modeV l).id).toArray 27))
    have O6 := Lib.hid ((obj_alloc_past w6 (.cells (idL (modeV l).id).toArray 27) _ (Nat.lt_of_lt_of_le (lt_of_obj O4.out) hz6)).trans ((obj_below b6 (lt_of_obj O4.out)).trans O4.out))
    have M6 := Lib.hid ((obj_alloc_past w6 (.cells (idL (modeV l).id).toArray 27) _ (Nat.lt_of_lt_of_le (lt_of_obj M4.out) hz6)).trans ((obj_below b6 (lt_of_obj M4.out)).trans M4.out))
    have R6 : Hid (obj (w6.alloc (.cells (idL (modeV l).id).toArray 27)) w6.heap.size = some (.cells (idL (modeV l).id).toArray 27 (0, 0))) := Lib.hid (obj_alloc_at _ _ _ rfl)
    have HAR := Lib.hid (atlR_any _ _ l n (H1.out.below B6.out) (by omega))
    clear b6 HMR B4 O4 M4
    go_wp2_with fail
    generalize w6.alloc (.cells (idL (modeV l).id).toArray 27) = w7 at *
    generalize w6.heap.size = m6 at *
    refine HAR.out.mono ?_
    rintro e w8 ⟨v8, rfl, o8, b8⟩
    have B8 := Lib.hid (B6.out.trans (b8.mono B6.out.size))
    have O8 := Lib.hid ((obj_below b8 (lt_of_obj O6.out)).trans O6.out)
    have M8 := Lib.hid ((obj_below b8 (lt_of_obj M6.out)).trans M6.out)
    have R8 := Lib.hid ((obj_below b8 (lt_of_obj R6.out)).trans R6.out)
    have Q6 := Lib.hid (o8.slIn idL_length)
    obtain ⟨oac, cpc, rfl⟩ := o8.slice
    have HTL := Lib.hid (atlV_len l n)
    have hwd : wrap64 (((atlV l n).length : Int) / 2) = ((atlV l n).length : Int) / 2 := by have := HTL.out.2; simp [wrap64]; omega
    have hwe : IntKind.i64.wrap (((atlV l n).length : Int) / 2) = ((atlV l n).length : Int) / 2 := by have := HTL.out.2; simp [IntKind.wrap, IntKind.signed, IntKind.bits]; omega
    clear b8 o8 HAR B6 O6 M6 R6
    go_wp2
    have yl : ∀ (b : Nat) (i : ID), obj w8 b = some (.cells (idL i).toArray 27 (0, 0)) → ∀ W, Below w8.heap.size w8 W → (loadAgg 27 ⟨b, 0, none⟩).run Try.prog W = .ok (.agg (idL i).toArray) W := fun b i ho W hW => by
      rw [run_loadAgg Try.isAgg27 Try.sizeOf27, (obj_below hW (lt_of_obj ho)).trans ho, subOf_cells (by simp), subA_all (by simp)]
      rfl
    have y4 := yl _ _ O8.out
    have y7 := yl _ _ M8.out
    have y9 := yl _ _ R8.out
    have hX : ∀ {W : World}, Below w8.heap.size w8 W → Below w.heap.size w W := fun hW => B8.out.trans (hW.mono B8.out.size)
    have C22 := Lib.hid (fun W (hW : Below w8.heap.size w8 W) => count_any W _ l id (H1.out.below (hX hW)))
    have C23 := Lib.hid (fun W (hW : Below w8.heap.size w8 W) => countR_any W _ l id (H1.out.below (hX hW)))
    have C24 := Lib.hid (fun W (hW : Below w8.heap.size w8 W) => total_any W _ l (H1.out.below (hX hW)))
    have C25 := Lib.hid (fun W (hW : Below w8.heap.size w8 W) => totalR_any W _ l (H1.out.below (hX hW)))
    have C28 := Lib.hid (fun W (hW : Below w8.heap.size w8 W) => atl_told W _ l n (H1.out.below (hX hW)))
    have C26 := Lib.hid (fun W v1 v2 (xs ys : List ID) => fun h1 h2 => equal_any W v1 v2 xs ys h1 h2)
    have HT1 : Hid ((atlV l n).take (1048576 : Int).toNat = atlV l n) := Lib.hid (List.take_of_length_le HTL.out.2)
    clear yl O8 M8 R8
    generalize countV l id = ct at *
    generalize totV l = tt at *
    generalize modeV l = mo at *
    generalize atlV l n = lo at *
    obtain ⟨m, hm⟩ : ∃ m : Nat, m = lo.length / 2 := ⟨_, rfl⟩
    have hmi : ((lo.length : Int) / 2) = (m : Int) := by omega
    have HT2 : Hid (lo.take ((m : Int)).toNat = lo.take m) := Lib.hid rfl
    have Q7 := Lib.hid (Q6.out.take (n := m) (by omega))
    have hmc : m ≤ cpc ∧ cpc ≤ 9223372036854775807 := by
      obtain ⟨_, _, e, h1, h2, _⟩ := Q6.out
      simp only [Value.slice.injEq] at e
      obtain ⟨_, _, rfl⟩ := e
      unfold maxLen at h2
      omega
    clear hm
    simp only [hmi]
    refine wp_region_held_drew (S := fun W => Below w8.heap.size w8 W) (by kernel_rfl) (Below.refl _ _).drew (fun hS => ?_)
    refine wpAnyH_take (i := 0) (oi := { dst := some 38, op := Op.move (Operand.tmp 0), type := 22, pos := _, after := _, guard := none }) (v := (.slice oa l.length ca)) rfl (by kernel_rfl) (by kernel_rfl) (by kernel_rfl) (fun _ _ _ h => h) (yieldsIf_move' (by kernel_rfl) (.tmp 0) (by kernel_rfl) (by kernel_rfl)) hS ?_
    try simp only [Act.put, List.setIfInBounds_toArray, List.set_cons_zero, List.set_cons_succ]
    refine wpAnyH_take (i := 1) (oi := { dst := some 39, op := Op.load 27 (Operand.tmp 4), type := 27, pos := _, after := _, guard := none }) (v := (.agg (idL id).toArray)) rfl (by kernel_rfl) (by kernel_rfl) (by kernel_rfl) (fun _ _ _ h => h) (yieldsIf_agg (by kernel_rfl) 27 (.tmp 4) (by kernel_rfl) w.heap.size 0 (by kernel_rfl) y4) hS ?_
    try simp only [Act.put, List.setIfInBounds_toArray, List.set_cons_zero, List.set_cons_succ]
    refine wpAnyH_take (i := 3) (oi := { dst := some 41, op := Op.move (Operand.tmp 0), type := 22, pos := _, after := _, guard := none }) (v := (.slice oa l.length ca)) rfl (by kernel_rfl) (by kernel_rfl) (by kernel_rfl) (fun _ _ _ h => h) (yieldsIf_move' (by kernel_rfl) (.tmp 0) (by kernel_rfl) (by kernel_rfl)) hS ?_
    try simp only [Act.put, List.setIfInBounds_toArray, List.set_cons_zero, List.set_cons_succ]
    refine wpAnyH_take (i := 4) (oi := { dst := some 42, op := Op.load 27 (Operand.tmp 4), type := 27, pos := _, after := _, guard := none }) (v := (.agg (idL id).toArray)) rfl (by kernel_rfl) (by kernel_rfl) (by kernel_rfl) (fun _ _ _ h => h) (yieldsIf_agg (by kernel_rfl) 27 (.tmp 4) (by kernel_rfl) w.heap.size 0 (by kernel_rfl) y4) hS ?_
    try simp only [Act.put, List.setIfInBounds_toArray, List.set_cons_zero, List.set_cons_succ]
    refine wpAnyH_ready (rs := [2]) (by kernel_rfl) (by simp) (AllReadyH.cons rfl (fun K hK => ?_) AllReadyH.nil)
    go_simp
    refine (C22.out _ hS).mono ?_
    rintro _ x1 ⟨rfl, hb1x⟩
    refine hK.out _ _ (hS.trans (hb1x.mono hS.size)) (fun hS1 => ?_)
    clear hK K
    try simp only [Act.put, List.setIfInBounds_toArray, List.set_cons_zero, List.set_cons_succ]
    refine wpAnyH_ready (rs := [5]) (by kernel_rfl) (by simp) (AllReadyH.cons rfl (fun K hK => ?_) AllReadyH.nil)
    go_simp
    refine (C23.out _ hS1).mono ?_
    rintro _ x2 ⟨rfl, hb2x⟩
    refine hK.out _ _ (hS1.trans (hb2x.mono hS1.size)) (fun hS2 => ?_)
    clear hK K
    try simp only [Act.put, List.setIfInBounds_toArray, List.set_cons_zero, List.set_cons_succ]
    refine wpAnyH_take (i := 6) (oi := { dst := some 44, op := Op.binOp BinOp.eql 3 (Operand.tmp 40) (Operand.tmp 43) 3, type := 4, pos := _, after := _, guard := none }) (v := (.bool true)) rfl (by kernel_rfl) (by kernel_rfl) (by kernel_rfl) (fun _ _ _ h => h) (.inl ⟨by kernel_rfl, fun W _ => by go_simp⟩) hS2 ?_
    try simp only [Act.put, List.setIfInBounds_toArray, List.set_cons_zero, List.set_cons_succ]
    refine wpAnyH_take (i := 7) (oi := { dst := some 45, op := Op.move (Operand.tmp 44), type := 4, pos := _, after := _, guard := none }) (v := (.bool true)) rfl (by kernel_rfl) (by kernel_rfl) (by kernel_rfl) (fun _ _ _ h => h) (yieldsIf_move' (by kernel_rfl) (.tmp 44) (by kernel_rfl) (by kernel_rfl)) hS2 ?_
    try simp only [Act.put, List.setIfInBounds_toArray, List.set_cons_zero, List.set_cons_succ]
    refine wpAnyH_take (i := 8) (oi := { dst := some 46, op := Op.move (Operand.tmp 0), type := 22, pos := _, after := _, guard := some (7, true) }) (v := (.slice oa l.length ca)) rfl (by kernel_rfl) (by kernel_rfl) (by kernel_rfl) (fun _ _ _ h => h) (yieldsIf_move' (by kernel_rfl) (.tmp 0) (by kernel_rfl) (by kernel_rfl)) hS2 ?_
    try simp only [Act.put, List.setIfInBounds_toArray, List.set_cons_zero, List.set_cons_succ]
    refine wpAnyH_take (i := 10) (oi := { dst := some 48, op := Op.move (Operand.tmp 0), type := 22, pos := _, after := _, guard := some (7, true) }) (v := (.slice oa l.length ca)) rfl (by kernel_rfl) (by kernel_rfl) (by kernel_rfl) (fun _ _ _ h => h) (yieldsIf_move' (by kernel_rfl) (.tmp 0) (by kernel_rfl) (by kernel_rfl)) hS2 ?_
    try simp only [Act.put, List.setIfInBounds_toArray, List.set_cons_zero, List.set_cons_succ]
    refine wpAnyH_ready (rs := [9]) (by kernel_rfl) (by simp) (AllReadyH.cons rfl (fun K hK => ?_) AllReadyH.nil)
    go_simp
    refine (C24.out _ hS2).mono ?_
    rintro _ x3 ⟨rfl, hb3x⟩
    refine hK.out _ _ (hS2.trans (hb3x.mono hS2.size)) (fun hS3 => ?_)
    clear hK K
    try simp only [Act.put, List.setIfInBounds_toArray, List.set_cons_zero, List.set_cons_succ]
    refine wpAnyH_ready (rs := [11]) (by kernel_rfl) (by simp) (AllReadyH.cons rfl (fun K hK => ?_) AllReadyH.nil)
    go_simp
    refine (C25.out _ hS3).mono ?_
    rintro _ x4 ⟨rfl, hb4x⟩
    refine hK.out _ _ (hS3.trans (hb4x.mono hS3.size)) (fun hS4 => ?_)
    clear hK K
    try simp only [Act.put, List.setIfInBounds_toArray, List.set_cons_zero, List.set_cons_succ]
    refine wpAnyH_take (i := 12) (oi := { dst := some 50, op := Op.binOp BinOp.eql 3 (Operand.tmp 47) (Operand.tmp 49) 3, type := 4, pos := _, after := _, guard := some (7, true) }) (v := (.bool true)) rfl (by kernel_rfl) (by kernel_rfl) (by kernel_rfl) (fun _ _ _ h => h) (.inl ⟨by kernel_rfl, fun W _ => by go_simp⟩) hS4 ?_
    try simp only [Act.put, List.setIfInBounds_toArray, List.set_cons_zero, List.set_cons_succ]
    refine wpAnyH_take (i := 13) (oi := { dst := some 51, op := Op.pick (Operand.tmp 45) (Operand.tmp 50) (Operand.const (Value.bool false)), type := 4, pos := _, after := _, guard := none }) (v := (.bool true)) rfl (by kernel_rfl) (by kernel_rfl) (by kernel_rfl) (fun _ _ _ h => h) (.inl ⟨by kernel_rfl, fun W _ => by go_simp⟩) hS4 ?_
    try simp only [Act.put, List.setIfInBounds_toArray, List.set_cons_zero, List.set_cons_succ]
    refine wpAnyH_take (i := 14) (oi := { dst := some 52, op := Op.move (Operand.tmp 51), type := 4, pos := _, after := _, guard := none }) (v := (.bool true)) rfl (by kernel_rfl) (by kernel_rfl) (by kernel_rfl) (fun _ _ _ h => h) (yieldsIf_move' (by kernel_rfl) (.tmp 51) (by kernel_rfl) (by kernel_rfl)) hS4 ?_
    try simp only [Act.put, List.setIfInBounds_toArray, List.set_cons_zero, List.set_cons_succ]
    refine wpAnyH_take (i := 15) (oi := { dst := some 53, op := Op.load 27 (Operand.tmp 7), type := 27, pos := _, after := _, guard := some (14, true) }) (v := (.agg (idL mo.id).toArray)) rfl (by kernel_rfl) (by kernel_rfl) (by kernel_rfl) (fun _ _ _ h => h) (yieldsIf_agg (by kernel_rfl) 27 (.tmp 7) (by kernel_rfl) m4 0 (by kernel_rfl) y7) hS4 ?_
    try simp only [Act.put, List.setIfInBounds_toArray, List.set_cons_zero, List.set_cons_succ]
    refine wpAnyH_take (i := 16) (oi := { dst := some 54, op := Op.load 27 (Operand.tmp 9), type := 27, pos := _, after := _, guard := some (14, true) }) (v := (.agg (idL mo.id).toArray)) rfl (by kernel_rfl) (by kernel_rfl) (by kernel_rfl) (fun _ _ _ h => h) (yieldsIf_agg (by kernel_rfl) 27 (.tmp 9) (by kernel_rfl) m6 0 (by kernel_rfl) y9) hS4 ?_
    try simp only [Act.put, List.setIfInBounds_toArray, List.set_cons_zero, List.set_cons_succ]
    refine wpAnyH_take (i := 17) (oi := { dst := some 55, op := Op.binOp BinOp.eql 27 (Operand.tmp 53) (Operand.tmp 54) 27, type := 4, pos := _, after := _, guard := some (14, true) }) (v := (.bool true)) rfl (by kernel_rfl) (by kernel_rfl) (by kernel_rfl) (fun _ _ _ h => h) (.inl ⟨by kernel_rfl, fun W _ => by go_simp⟩) hS4 ?_
    try simp only [Act.put, List.setIfInBounds_toArray, List.set_cons_zero, List.set_cons_succ]
    refine wpAnyH_take (i := 18) (oi := { dst := some 56, op := Op.pick (Operand.tmp 52) (Operand.tmp 55) (Operand.const (Value.bool false)), type := 4, pos := _, after := _, guard := none }) (v := (.bool true)) rfl (by kernel_rfl) (by kernel_rfl) (by kernel_rfl) (fun _ _ _ h => h) (.inl ⟨by kernel_rfl, fun W _ => by go_simp⟩) hS4 ?_
    try simp only [Act.put, List.setIfInBounds_toArray, List.set_cons_zero, List.set_cons_succ]
    refine wpAnyH_take (i := 19) (oi := { dst := some 57, op := Op.move (Operand.tmp 56), type := 4, pos := _, after := _, guard := none }) (v := (.bool true)) rfl (by kernel_rfl) (by kernel_rfl) (by kernel_rfl) (fun _ _ _ h => h) (yieldsIf_move' (by kernel_rfl) (.tmp 56) (by kernel_rfl) (by kernel_rfl)) hS4 ?_
    try simp only [Act.put, List.setIfInBounds_toArray, List.set_cons_zero, List.set_cons_succ]
    refine wpAnyH_take (i := 20) (oi := { dst := some 58, op := Op.move (Operand.tmp 8), type := 3, pos := _, after := _, guard := some (19, true) }) (v := (.int .i64 mo.n)) rfl (by kernel_rfl) (by kernel_rfl) (by kernel_rfl) (fun _ _ _ h => h) (yieldsIf_move' (by kernel_rfl) (.tmp 8) (by kernel_rfl) (by kernel_rfl)) hS4 ?_
    try simp only [Act.put, List.setIfInBounds_toArray, List.set_cons_zero, List.set_cons_succ]
    refine wpAnyH_take (i := 21) (oi := { dst := some 59, op := Op.move (Operand.tmp 10), type := 3, pos := _, after := _, guard := some (19, true) }) (v := (.int .i64 mo.n)) rfl (by kernel_rfl) (by kernel_rfl) (by kernel_rfl) (fun _ _ _ h => h) (yieldsIf_move' (by kernel_rfl) (.tmp 10) (by kernel_rfl) (by kernel_rfl)) hS4 ?_
    try simp only [Act.put, List.setIfInBounds_toArray, List.set_cons_zero, List.set_cons_succ]
    refine wpAnyH_take (i := 22) (oi := { dst := some 60, op := Op.binOp BinOp.eql 3 (Operand.tmp 58) (Operand.tmp 59) 3, type := 4, pos := _, after := _, guard := some (19, true) }) (v := (.bool true)) rfl (by kernel_rfl) (by kernel_rfl) (by kernel_rfl) (fun _ _ _ h => h) (.inl ⟨by kernel_rfl, fun W _ => by go_simp⟩) hS4 ?_
    try simp only [Act.put, List.setIfInBounds_toArray, List.set_cons_zero, List.set_cons_succ]
    refine wpAnyH_take (i := 23) (oi := { dst := some 61, op := Op.pick (Operand.tmp 57) (Operand.tmp 60) (Operand.const (Value.bool false)), type := 4, pos := _, after := _, guard := none }) (v := (.bool true)) rfl (by kernel_rfl) (by kernel_rfl) (by kernel_rfl) (fun _ _ _ h => h) (.inl ⟨by kernel_rfl, fun W _ => by go_simp⟩) hS4 ?_
    try simp only [Act.put, List.setIfInBounds_toArray, List.set_cons_zero, List.set_cons_succ]
    refine wpAnyH_take (i := 24) (oi := { dst := some 62, op := Op.move (Operand.tmp 61), type := 4, pos := _, after := _, guard := none }) (v := (.bool true)) rfl (by kernel_rfl) (by kernel_rfl) (by kernel_rfl) (fun _ _ _ h => h) (yieldsIf_move' (by kernel_rfl) (.tmp 61) (by kernel_rfl) (by kernel_rfl)) hS4 ?_
    try simp only [Act.put, List.setIfInBounds_toArray, List.set_cons_zero, List.set_cons_succ]
    refine wpAnyH_take (i := 25) (oi := { dst := some 63, op := Op.move (Operand.tmp 0), type := 22, pos := _, after := _, guard := some (24, true) }) (v := (.slice oa l.length ca)) rfl (by kernel_rfl) (by kernel_rfl) (by kernel_rfl) (fun _ _ _ h => h) (yieldsIf_move' (by kernel_rfl) (.tmp 0) (by kernel_rfl) (by kernel_rfl)) hS4 ?_
    try simp only [Act.put, List.setIfInBounds_toArray, List.set_cons_zero, List.set_cons_succ]
    refine wpAnyH_take (i := 26) (oi := { dst := some 64, op := Op.move (Operand.tmp 2), type := 3, pos := _, after := _, guard := some (24, true) }) (v := (.int .i64 n)) rfl (by kernel_rfl) (by kernel_rfl) (by kernel_rfl) (fun _ _ _ h => h) (yieldsIf_move' (by kernel_rfl) (.tmp 2) (by kernel_rfl) (by kernel_rfl)) hS4 ?_
    try simp only [Act.put, List.setIfInBounds_toArray, List.set_cons_zero, List.set_cons_succ]
    refine wpAnyH_take (i := 29) (oi := { dst := some 67, op := Op.move (Operand.tmp 11), type := 23, pos := _, after := _, guard := some (24, true) }) (v := (.slice oac lo.length cpc)) rfl (by kernel_rfl) (by kernel_rfl) (by kernel_rfl) (fun _ _ _ h => h) (yieldsIf_move' (by kernel_rfl) (.tmp 11) (by kernel_rfl) (by kernel_rfl)) hS4 ?_
    try simp only [Act.put, List.setIfInBounds_toArray, List.set_cons_zero, List.set_cons_succ]
    refine wpAnyH_ready (rs := [27]) (by kernel_rfl) (by simp) (AllReadyH.cons rfl (fun K hK => ?_) AllReadyH.nil)
    go_simp
    refine (C28.out _ hS4).mono ?_
    rintro _ x5 ⟨sb1, nb1, rfl, hc1, hb5x⟩
    refine hK.out _ _ (hS4.trans (hb5x.mono hS4.size)) (fun hS5 => ?_)
    clear hK K
    try simp only [Act.put, List.setIfInBounds_toArray, List.set_cons_zero, List.set_cons_succ]
    refine wpAnyH_ready (rs := [28]) (by kernel_rfl) (by simp) (AllReadyH.cons rfl (fun K hK => ?_) AllReadyH.nil)
    go_simp
    refine (hc1 1048576).mono ?_
    rintro _ x6 ⟨v30, rfl, o30, hb6x⟩
    refine hK.out _ _ (hS5.trans (hb6x.mono hS5.size)) (fun hS6 => ?_)
    clear hK K
    try simp only [Act.put, List.setIfInBounds_toArray, List.set_cons_zero, List.set_cons_succ]
    rw [HT1.out] at o30
    refine wpAnyH_ready (rs := [30]) (by kernel_rfl) (by simp) (AllReadyH.cons rfl (fun K hK => ?_) AllReadyH.nil)
    go_simp
    refine (C26.out _ _ _ _ _ (o30.slIn idL_length) (Q6.out.below hS6)).mono ?_
    rintro _ x7 ⟨rfl, hb7x⟩
    refine hK.out _ _ (hS6.trans (hb7x.mono hS6.size)) (fun hS7 => ?_)
    clear hK K
    try simp only [Act.put, List.setIfInBounds_toArray, List.set_cons_zero, List.set_cons_succ]
    try rw [decide_eq_true rfl]
    clear hc1 o30
    try simp only [Act.put, List.setIfInBounds_toArray, List.set_cons_zero, List.set_cons_succ]
    refine wpAnyH_take (i := 31) (oi := { dst := some 69, op := Op.pick (Operand.tmp 62) (Operand.tmp 68) (Operand.const (Value.bool false)), type := 4, pos := _, after := _, guard := none }) (v := (.bool true)) rfl (by kernel_rfl) (by kernel_rfl) (by kernel_rfl) (fun _ _ _ h => h) (.inl ⟨by kernel_rfl, fun W _ => by go_simp⟩) hS7 ?_
    try simp only [Act.put, List.setIfInBounds_toArray, List.set_cons_zero, List.set_cons_succ]
    refine wpAnyH_take (i := 32) (oi := { dst := some 70, op := Op.move (Operand.tmp 69), type := 4, pos := _, after := _, guard := none }) (v := (.bool true)) rfl (by kernel_rfl) (by kernel_rfl) (by kernel_rfl) (fun _ _ _ h => h) (yieldsIf_move' (by kernel_rfl) (.tmp 69) (by kernel_rfl) (by kernel_rfl)) hS7 ?_
    try simp only [Act.put, List.setIfInBounds_toArray, List.set_cons_zero, List.set_cons_succ]
    refine wpAnyH_take (i := 33) (oi := { dst := some 71, op := Op.move (Operand.tmp 0), type := 22, pos := _, after := _, guard := some (32, true) }) (v := (.slice oa l.length ca)) rfl (by kernel_rfl) (by kernel_rfl) (by kernel_rfl) (fun _ _ _ h => h) (yieldsIf_move' (by kernel_rfl) (.tmp 0) (by kernel_rfl) (by kernel_rfl)) hS7 ?_
    try simp only [Act.put, List.setIfInBounds_toArray, List.set_cons_zero, List.set_cons_succ]
    refine wpAnyH_take (i := 34) (oi := { dst := some 72, op := Op.move (Operand.tmp 2), type := 3, pos := _, after := _, guard := some (32, true) }) (v := (.int .i64 n)) rfl (by kernel_rfl) (by kernel_rfl) (by kernel_rfl) (fun _ _ _ h => h) (yieldsIf_move' (by kernel_rfl) (.tmp 2) (by kernel_rfl) (by kernel_rfl)) hS7 ?_
    try simp only [Act.put, List.setIfInBounds_toArray, List.set_cons_zero, List.set_cons_succ]
    refine wpAnyH_take (i := 36) (oi := { dst := some 74, op := Op.move (Operand.tmp 12), type := 3, pos := _, after := _, guard := some (32, true) }) (v := (.int .i64 (m : Int))) rfl (by kernel_rfl) (by kernel_rfl) (by kernel_rfl) (fun _ _ _ h => h) (yieldsIf_move' (by kernel_rfl) (.tmp 12) (by kernel_rfl) (by kernel_rfl)) hS7 ?_
    try simp only [Act.put, List.setIfInBounds_toArray, List.set_cons_zero, List.set_cons_succ]
    refine wpAnyH_take (i := 38) (oi := { dst := some 76, op := Op.move (Operand.tmp 11), type := 23, pos := _, after := _, guard := some (32, true) }) (v := (.slice oac lo.length cpc)) rfl (by kernel_rfl) (by kernel_rfl) (by kernel_rfl) (fun _ _ _ h => h) (yieldsIf_move' (by kernel_rfl) (.tmp 11) (by kernel_rfl) (by kernel_rfl)) hS7 ?_
    try simp only [Act.put, List.setIfInBounds_toArray, List.set_cons_zero, List.set_cons_succ]
    refine wpAnyH_take (i := 39) (oi := { dst := some 77, op := Op.move (Operand.tmp 12), type := 3, pos := _, after := _, guard := some (32, true) }) (v := (.int .i64 (m : Int))) rfl (by kernel_rfl) (by kernel_rfl) (by kernel_rfl) (fun _ _ _ h => h) (yieldsIf_move' (by kernel_rfl) (.tmp 12) (by kernel_rfl) (by kernel_rfl)) hS7 ?_
    try simp only [Act.put, List.setIfInBounds_toArray, List.set_cons_zero, List.set_cons_succ]
    refine wpAnyH_take (i := 40) (oi := { dst := some 78, op := Op.slice 23 (Operand.tmp 76) none (some (Operand.tmp 77)) none, type := 23, pos := _, after := _, guard := some (32, true) }) (v := (.slice oac m cpc)) rfl (by kernel_rfl) (by kernel_rfl) (by kernel_rfl) (fun _ _ _ h => h) (.inl ⟨by kernel_rfl, fun W _ => by go_simp⟩) hS7 ?_
    try simp only [Act.put, List.setIfInBounds_toArray, List.set_cons_zero, List.set_cons_succ]
    refine wpAnyH_ready (rs := [35]) (by kernel_rfl) (by simp) (AllReadyH.cons rfl (fun K hK => ?_) AllReadyH.nil)
    go_simp
    refine (C28.out _ hS7).mono ?_
    rintro _ x8 ⟨sb2, nb2, rfl, hc2, hb8x⟩
    refine hK.out _ _ (hS7.trans (hb8x.mono hS7.size)) (fun hS8 => ?_)
    clear hK K
    try simp only [Act.put, List.setIfInBounds_toArray, List.set_cons_zero, List.set_cons_succ]
    refine wpAnyH_ready (rs := [37]) (by kernel_rfl) (by simp) (AllReadyH.cons rfl (fun K hK => ?_) AllReadyH.nil)
    go_simp
    refine (hc2 m).mono ?_
    rintro _ x9 ⟨v31, rfl, o31, hb9x⟩
    refine hK.out _ _ (hS8.trans (hb9x.mono hS8.size)) (fun hS9 => ?_)
    clear hK K
    try simp only [Act.put, List.setIfInBounds_toArray, List.set_cons_zero, List.set_cons_succ]
    rw [HT2.out] at o31
    refine wpAnyH_ready (rs := [41]) (by kernel_rfl) (by simp) (AllReadyH.cons rfl (fun K hK => ?_) AllReadyH.nil)
    go_simp
    refine (C26.out _ _ _ _ _ (o31.slIn idL_length) (Q7.out.below hS9)).mono ?_
    rintro _ x10 ⟨rfl, hb10x⟩
    refine hK.out _ _ (hS9.trans (hb10x.mono hS9.size)) (fun hS10 => ?_)
    clear hK K
    try simp only [Act.put, List.setIfInBounds_toArray, List.set_cons_zero, List.set_cons_succ]
    try rw [decide_eq_true rfl]
    clear hc2 o31
    try simp only [Act.put, List.setIfInBounds_toArray, List.set_cons_zero, List.set_cons_succ]
    refine wpAnyH_take (i := 42) (oi := { dst := some 80, op := Op.pick (Operand.tmp 70) (Operand.tmp 79) (Operand.const (Value.bool false)), type := 4, pos := _, after := _, guard := none }) (v := (.bool true)) rfl (by kernel_rfl) (by kernel_rfl) (by kernel_rfl) (fun _ _ _ h => h) (.inl ⟨by kernel_rfl, fun W _ => by go_simp⟩) hS10 ?_
    try simp only [Act.put, List.setIfInBounds_toArray, List.set_cons_zero, List.set_cons_succ]
    refine wpAnyH_take (i := 43) (oi := { dst := some 6, op := Op.assign (Operand.tmp 80), type := 4, pos := _, after := _, guard := none }) (v := (.bool true)) rfl (by kernel_rfl) (by kernel_rfl) (by kernel_rfl) (fun _ _ _ h => h) (.inl ⟨by kernel_rfl, fun W _ => by go_simp⟩) hS10 ?_
    try simp only [Act.put, List.setIfInBounds_toArray, List.set_cons_zero, List.set_cons_succ]
    refine wpAnyH_done (by kernel_rfl) ?_ _
    go_wp2
    go_ret
    exact ⟨rfl, B8.out.trans (hS10.mono B8.out.size)⟩
  · rw [show decide (l.length ≤ 60) = false from decide_eq_false hn] at HFE
    go_enter Try.func4, Try.ntmps4
    go_wp2_with fail
    generalize w.alloc (.cells (idL id).toArray 27) = w0 at *
    refine (HL _).out.mono ?_
    rintro e w2 ⟨rfl, b2⟩
    have B2 := Lib.hid (B1.out.trans (b2.mono B1.out.size))
    have HF := Lib.hid (HFE w2 B2.out).out
    clear b2 HFE B1 O1
    go_wp2_with fail
    refine HF.out.mono ?_
    rintro e w3 ⟨rfl, b3⟩
    have B3 := Lib.hid (B2.out.trans (b3.mono B2.out.size))
    clear b3 HF B2
    go_wp2_with fail
    refine (HL _).out.mono ?_
    rintro e w5 ⟨rfl, b5⟩
    have B5 := Lib.hid (B3.out.trans (b5.mono B3.out.size))
    clear b5
    go_wp2
    go_ret
    exact ⟨rfl, B5.out⟩
end Go.Proofs.Ytkjaabajomigkaa
