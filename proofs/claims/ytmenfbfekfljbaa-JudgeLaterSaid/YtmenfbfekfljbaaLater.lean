import Derived.Test.YtmenfbfekfljbaaOpenX
import Derived.Test.YtmenfbfekfljbaaPollsR
import Derived.Test.YtmenfbfekfljbaaSampR
import Derived.Test.YtmenfbfekfljbaaStaysR
import Derived.Test.YtmenfbfekfljbaaRestR
import Derived.Test.YtmenfbfekfljbaaBegun
import Derived.Deep.RegionHeld3
namespace Go.Proofs.Ytmenfbfekfljbaa
open Go.RowKit Go.Shelf

theorem yieldsIf_move' {P : Program} {ops : Array Oper} {S : World → Prop} {op : Oper} {a : Act} {v : Value} (hw : Region.wanted op (yielded ops a.tmps) = true) (x : Operand) (ho : op.op = .move x) (hv : a.eval x = v) : YieldsIf P ops S op v a :=
  hv ▸ yieldsIf_move hw x ho
theorem few_len {xs : List FactD} {p : PlanD} {vs : List VdrD} (h : fewB xs p vs = true) : xs.length ≤ 60 ∧ ∀ x ∈ xs, x.slots.len ≤ 100 ∧ x.votes.len ≤ 100 := by
  unfold fewB at h
  simp only [Bool.and_eq_true, decide_eq_true_eq, List.all_eq_true] at h
  refine ⟨h.1.1.1.1, fun x hx => ?_⟩
  have := h.1.2 x hx
  unfold fewX at this
  simpa using this
set_option maxRecDepth 100000 in
set_option maxHeartbeats 8000000 in
/-- JudgeLater -/
theorem laterLaw_any (w : World) (p : PlanD) (v : Value) (zs : List FactX) (vs : List VdrD) (byz : List Int) (nd fr : Int) (id : ID) (h : SlIn w v 72 fxL zs)
    (hz : ∀ z ∈ zs, (z.x.slots.len ≤ maxLen ∧ z.x.votes.len ≤ maxLen) ∧ Inner w z ∧ z.sl.length = z.x.slots.len ∧ z.vs.length = z.x.votes.len ∧ ∀ x ∈ z.vs, x.n ≤ 9223372036854775807)
    (hv : SlIn w (slV p.vdrs) 2 vdrL vs) (hn : ∀ x ∈ vs, x.name.size ≤ maxLen) (hby : SlIn w (slV p.byz) 1 iL byz) (hbl : p.byz.len ≤ maxLen) (hal : -9223372036854775808 ≤ p.al2 ∧ p.al2 ≤ 9223372036854775807) :
    Calls Try.prog 7 #[.agg (planL p).toArray, v, .int .i64 nd, .int .i64 fr, .agg (idL id).toArray] w fun e w' => e = .returned (.bool true) ∧ Below w.heap.size w w' := by
  have HBG := fun W => Lib.hid (begun_any W)
  have HSX := Lib.hid h
  have HS := Lib.hid (SlIn.map.2 h : SlIn w v 72 factL (zs.map (·.x)))
  have HZ := Lib.hid hz
  have HW1 : Hid (∀ x ∈ zs.map (·.x), x.slots.len ≤ maxLen ∧ x.votes.len ≤ maxLen) := Lib.hid (by
    intro x hx
    simp only [List.mem_map] at hx
    obtain ⟨z, hz', rfl⟩ := hx
    exact (hz z hz').1)
  have HFE := fun W (hb : Below w.heap.size w W) => Lib.hid (few_any W v (zs.map (·.x)) p vs (HS.out.below hb) (hv.below hb) HW1.out hbl hn)
  have HBY := Lib.hid hby
  have HAL := Lib.hid hal
  have B0 := Lib.hid (((Below.refl _ w).alloc (Nat.le_refl _) (.cells (planL p).toArray 41)).alloc (by simp) (.cells (idL id).toArray 45))
  have P0 : Hid (obj ((w.alloc (.cells (planL p).toArray 41)).alloc (.cells (idL id).toArray 45)) w.heap.size = some (.cells (planL p).toArray 41 (0, 0))) := Lib.hid (by simp [go_sem])
  have I0 : Hid (obj ((w.alloc (.cells (planL p).toArray 41)).alloc (.cells (idL id).toArray 45)) (w.heap.size + 1) = some (.cells (idL id).toArray 45 (0, 0))) := Lib.hid (by simp [go_sem])
  clear h hz hv hn hby hbl hal HW1
  go_enter Try.func7, Try.ntmps7
  go_wp2_with fail
  generalize (w.alloc (.cells (planL p).toArray 41)).alloc (.cells (idL id).toArray 45) = w0 at *
  refine (HBG _).out.mono ?_
  rintro e w1 ⟨rfl, b1⟩
  have B1 := Lib.hid (B0.out.trans (b1.mono B0.out.size))
  have P1 := Lib.hid ((obj_below b1 (lt_of_obj P0.out)).trans P0.out)
  have I1 := Lib.hid ((obj_below b1 (lt_of_obj I0.out)).trans I0.out)
  have HF := Lib.hid (HFE w1 B1.out).out
  have sp1 : subOf (obj w1 w.heap.size) 0 32 = some (planL p).toArray := by rw [P1.out, subOf_cells (by simp), subA_all (by simp)]
  have hlt1 : w.heap.size < w1.heap.size := lt_of_obj P1.out
  clear b1 HFE B0 P0 I0
  go_wp2_with fail
  refine HF.out.mono ?_
  rintro e w2 ⟨rfl, b2⟩
  have B2 := Lib.hid (B1.out.trans (b2.mono B1.out.size))
  have P2 := Lib.hid ((obj_below b2 (lt_of_obj P1.out)).trans P1.out)
  have I2 := Lib.hid ((obj_below b2 (lt_of_obj I1.out)).trans I1.out)
  clear b2 HF B1 P1 I1 sp1 hlt1
  by_cases hf : fewB (zs.map (·.x)) p vs = true
  · have HN := Lib.hid (few_len hf)
    rw [hf]
    clear hf HBG
    go_wp2
    have y5 : ∀ W, Below w2.heap.size w2 W → (loadAgg 41 ⟨w.heap.size, 0, none⟩).run Try.prog W = .ok (.agg (planL p).toArray) W := fun W hW => by
      rw [run_load41, (obj_below hW (lt_of_obj P2.out)).trans P2.out, subOf_cells (by simp), subA_all (by simp)]
      rfl
    have y9 : ∀ W, Below w2.heap.size w2 W → (loadAgg 45 ⟨w.heap.size + 1, 0, none⟩).run Try.prog W = .ok (.agg (idL id).toArray) W := fun W hW => by
      rw [run_loadAgg Try.isAgg45 Try.sizeOf45, (obj_below hW (lt_of_obj I2.out)).trans I2.out, subOf_cells (by simp), subA_all (by simp)]
      rfl
    have hX : ∀ {W : World}, Below w2.heap.size w2 W → Below w.heap.size w W := fun hW => B2.out.trans (hW.mono B2.out.size)
    have hlm : (zs.map (·.x)).length ≤ 1000 := by have := HN.out.1; omega
    have hlz : zs.length ≤ 1000 := by rw [List.length_map] at hlm; exact hlm
    have hsl : ∀ z ∈ zs, z.sl.length ≤ 1000 := fun z hz => by
      have h1 := (HZ.out z hz).2.2.1
      have h2 := (HN.out.2 z.x (List.mem_map.2 ⟨z, hz, rfl⟩)).1
      omega
    have hin : ∀ {W : World}, Below w.heap.size w W → ∀ z ∈ zs, Inner W z := fun hW z hz => (HZ.out z hz).2.1.below hW
    have hvn : ∀ z ∈ zs, ∀ x ∈ z.vs, x.n ≤ 9223372036854775807 := fun z hz => (HZ.out z hz).2.2.2.2
    have C28 := Lib.hid (fun W (hW : Below w2.heap.size w2 W) => stays_any W v _ fr id (HS.out.below (hX hW)) hlm)
    have C29 := Lib.hid (fun W (hW : Below w2.heap.size w2 W) => staysR_any W v _ fr id (HS.out.below (hX hW)) hlm)
    have C30 := Lib.hid (fun W (hW : Below w2.heap.size w2 W) => samples_any W v p zs byz fr (HSX.out.below (hX hW)) (HBY.out.below (hX hW)) (hin (hX hW)) hsl)
    have C31 := Lib.hid (fun W (hW : Below w2.heap.size w2 W) => samplesR_any W v p zs byz fr (HSX.out.below (hX hW)) (HBY.out.below (hX hW)) (hin (hX hW)) hsl)
    have C32 := Lib.hid (fun W (hW : Below w2.heap.size w2 W) => restarts_any W v _ fr (HS.out.below (hX hW)))
    have C33 := Lib.hid (fun W (hW : Below w2.heap.size w2 W) => restartsR_any W v _ fr (HS.out.below (hX hW)))
    have C34 := Lib.hid (fun W (hW : Below w2.heap.size w2 W) => polls_any W p v zs nd fr id (HSX.out.below (hX hW)) hlz (hin (hX hW)) HAL.out.2 hvn)
    have C35 := Lib.hid (fun W (hW : Below w2.heap.size w2 W) => pollsR_any W p v zs nd fr id (HSX.out.below (hX hW)) hlz (hin (hX hW)) HAL.out hvn)
    clear P2 I2 hsl hlm hlz hvn HZ HAL HN HBY HSX HS
    generalize (!(zs.map (·.x)).any (badS (zs.map (·.x)) fr id)) = vst at *
    generalize (!zs.any (badP byz p.al1 fr)) = vsa at *
    generalize ((zs.map (·.x)).any (restB fr)) = vre at *
    generalize (pollsF zs nd fr p.al2 id zs.length) = vpo at *
    refine wp_region_held_drew (S := fun W => Below w2.heap.size w2 W) (by kernel_rfl) (Below.refl _ _).drew (fun hS => ?_)
    refine wpAnyH_take (i := 0) (oi := { dst := some 20, op := Op.move (Operand.tmp 1), type := 22, pos := _, after := _, guard := none }) (v := v) rfl (by kernel_rfl) (by kernel_rfl) (by kernel_rfl) (fun _ _ _ h => h) (yieldsIf_move' (by kernel_rfl) (.tmp 1) (by kernel_rfl) (by kernel_rfl)) hS ?_
    try simp only [Act.put, List.setIfInBounds_toArray, List.set_cons_zero, List.set_cons_succ]
    refine wpAnyH_take (i := 1) (oi := { dst := some 21, op := Op.move (Operand.tmp 3), type := 3, pos := _, after := _, guard := none }) (v := (.int .i64 fr)) rfl (by kernel_rfl) (by kernel_rfl) (by kernel_rfl) (fun _ _ _ h => h) (yieldsIf_move' (by kernel_rfl) (.tmp 3) (by kernel_rfl) (by kernel_rfl)) hS ?_
    try simp only [Act.put, List.setIfInBounds_toArray, List.set_cons_zero, List.set_cons_succ]
    refine wpAnyH_take (i := 2) (oi := { dst := some 22, op := Op.load 45 (Operand.tmp 9), type := 45, pos := _, after := _, guard := none }) (v := (.agg (idL id).toArray)) rfl (by kernel_rfl) (by kernel_rfl) (by kernel_rfl) (fun _ _ _ h => h) (yieldsIf_agg (by kernel_rfl) 45 (.tmp 9) (by kernel_rfl) (w.heap.size + 1) 0 (by kernel_rfl) y9) hS ?_
    try simp only [Act.put, List.setIfInBounds_toArray, List.set_cons_zero, List.set_cons_succ]
    refine wpAnyH_take (i := 4) (oi := { dst := some 24, op := Op.move (Operand.tmp 1), type := 22, pos := _, after := _, guard := none }) (v := v) rfl (by kernel_rfl) (by kernel_rfl) (by kernel_rfl) (fun _ _ _ h => h) (yieldsIf_move' (by kernel_rfl) (.tmp 1) (by kernel_rfl) (by kernel_rfl)) hS ?_
    try simp only [Act.put, List.setIfInBounds_toArray, List.set_cons_zero, List.set_cons_succ]
    refine wpAnyH_take (i := 5) (oi := { dst := some 25, op := Op.move (Operand.tmp 3), type := 3, pos := _, after := _, guard := none }) (v := (.int .i64 fr)) rfl (by kernel_rfl) (by kernel_rfl) (by kernel_rfl) (fun _ _ _ h => h) (yieldsIf_move' (by kernel_rfl) (.tmp 3) (by kernel_rfl) (by kernel_rfl)) hS ?_
    try simp only [Act.put, List.setIfInBounds_toArray, List.set_cons_zero, List.set_cons_succ]
    refine wpAnyH_take (i := 6) (oi := { dst := some 26, op := Op.load 45 (Operand.tmp 9), type := 45, pos := _, after := _, guard := none }) (v := (.agg (idL id).toArray)) rfl (by kernel_rfl) (by kernel_rfl) (by kernel_rfl) (fun _ _ _ h => h) (yieldsIf_agg (by kernel_rfl) 45 (.tmp 9) (by kernel_rfl) (w.heap.size + 1) 0 (by kernel_rfl) y9) hS ?_
    try simp only [Act.put, List.setIfInBounds_toArray, List.set_cons_zero, List.set_cons_succ]
    refine wpAnyH_ready (rs := [3]) (by kernel_rfl) (by simp) (AllReadyH.cons rfl (fun K hK => ?_) AllReadyH.nil)
    go_simp
    refine (C28.out _ hS).mono ?_
    rintro _ x1 ⟨rfl, hb1x⟩
    refine hK.out _ _ (hS.trans (hb1x.mono hS.size)) (fun hS1 => ?_)
    clear hK K
    try simp only [Act.put, List.setIfInBounds_toArray, List.set_cons_zero, List.set_cons_succ]
    refine wpAnyH_ready (rs := [7]) (by kernel_rfl) (by simp) (AllReadyH.cons rfl (fun K hK => ?_) AllReadyH.nil)
    go_simp
    refine (C29.out _ hS1).mono ?_
    rintro _ x2 ⟨rfl, hb2x⟩
    refine hK.out _ _ (hS1.trans (hb2x.mono hS1.size)) (fun hS2 => ?_)
    clear hK K
    try simp only [Act.put, List.setIfInBounds_toArray, List.set_cons_zero, List.set_cons_succ]
    refine wpAnyH_take (i := 8) (oi := { dst := some 28, op := Op.binOp BinOp.eql 4 (Operand.tmp 23) (Operand.tmp 27) 4, type := 4, pos := _, after := _, guard := none }) (v := (.bool true)) rfl (by kernel_rfl) (by kernel_rfl) (by kernel_rfl) (fun _ _ _ h => h) (.inl ⟨by kernel_rfl, fun W _ => by go_simp⟩) hS2 ?_
    try simp only [Act.put, List.setIfInBounds_toArray, List.set_cons_zero, List.set_cons_succ]
    refine wpAnyH_take (i := 9) (oi := { dst := some 29, op := Op.move (Operand.tmp 28), type := 4, pos := _, after := _, guard := none }) (v := (.bool true)) rfl (by kernel_rfl) (by kernel_rfl) (by kernel_rfl) (fun _ _ _ h => h) (yieldsIf_move' (by kernel_rfl) (.tmp 28) (by kernel_rfl) (by kernel_rfl)) hS2 ?_
    try simp only [Act.put, List.setIfInBounds_toArray, List.set_cons_zero, List.set_cons_succ]
    refine wpAnyH_take (i := 10) (oi := { dst := some 30, op := Op.load 41 (Operand.tmp 5), type := 41, pos := _, after := _, guard := some (9, true) }) (v := (.agg (planL p).toArray)) rfl (by kernel_rfl) (by kernel_rfl) (by kernel_rfl) (fun _ _ _ h => h) (yieldsIf_agg (by kernel_rfl) 41 (.tmp 5) (by kernel_rfl) w.heap.size 0 (by kernel_rfl) y5) hS2 ?_
    try simp only [Act.put, List.setIfInBounds_toArray, List.set_cons_zero, List.set_cons_succ]
    refine wpAnyH_take (i := 11) (oi := { dst := some 31, op := Op.move (Operand.tmp 1), type := 22, pos := _, after := _, guard := some (9, true) }) (v := v) rfl (by kernel_rfl) (by kernel_rfl) (by kernel_rfl) (fun _ _ _ h => h) (yieldsIf_move' (by kernel_rfl) (.tmp 1) (by kernel_rfl) (by kernel_rfl)) hS2 ?_
    try simp only [Act.put, List.setIfInBounds_toArray, List.set_cons_zero, List.set_cons_succ]
    refine wpAnyH_take (i := 12) (oi := { dst := some 32, op := Op.move (Operand.tmp 3), type := 3, pos := _, after := _, guard := some (9, true) }) (v := (.int .i64 fr)) rfl (by kernel_rfl) (by kernel_rfl) (by kernel_rfl) (fun _ _ _ h => h) (yieldsIf_move' (by kernel_rfl) (.tmp 3) (by kernel_rfl) (by kernel_rfl)) hS2 ?_
    try simp only [Act.put, List.setIfInBounds_toArray, List.set_cons_zero, List.set_cons_succ]
    refine wpAnyH_take (i := 14) (oi := { dst := some 34, op := Op.load 41 (Operand.tmp 5), type := 41, pos := _, after := _, guard := some (9, true) }) (v := (.agg (planL p).toArray)) rfl (by kernel_rfl) (by kernel_rfl) (by kernel_rfl) (fun _ _ _ h => h) (yieldsIf_agg (by kernel_rfl) 41 (.tmp 5) (by kernel_rfl) w.heap.size 0 (by kernel_rfl) y5) hS2 ?_
    try simp only [Act.put, List.setIfInBounds_toArray, List.set_cons_zero, List.set_cons_succ]
    refine wpAnyH_take (i := 15) (oi := { dst := some 35, op := Op.move (Operand.tmp 1), type := 22, pos := _, after := _, guard := some (9, true) }) (v := v) rfl (by kernel_rfl) (by kernel_rfl) (by kernel_rfl) (fun _ _ _ h => h) (yieldsIf_move' (by kernel_rfl) (.tmp 1) (by kernel_rfl) (by kernel_rfl)) hS2 ?_
    try simp only [Act.put, List.setIfInBounds_toArray, List.set_cons_zero, List.set_cons_succ]
    refine wpAnyH_take (i := 16) (oi := { dst := some 36, op := Op.move (Operand.tmp 3), type := 3, pos := _, after := _, guard := some (9, true) }) (v := (.int .i64 fr)) rfl (by kernel_rfl) (by kernel_rfl) (by kernel_rfl) (fun _ _ _ h => h) (yieldsIf_move' (by kernel_rfl) (.tmp 3) (by kernel_rfl) (by kernel_rfl)) hS2 ?_
    try simp only [Act.put, List.setIfInBounds_toArray, List.set_cons_zero, List.set_cons_succ]
    refine wpAnyH_ready (rs := [13]) (by kernel_rfl) (by simp) (AllReadyH.cons rfl (fun K hK => ?_) AllReadyH.nil)
    go_simp
    refine (C30.out _ hS2).mono ?_
    rintro _ x3 ⟨rfl, hb3x⟩
    refine hK.out _ _ (hS2.trans (hb3x.mono hS2.size)) (fun hS3 => ?_)
    clear hK K
    try simp only [Act.put, List.setIfInBounds_toArray, List.set_cons_zero, List.set_cons_succ]
    refine wpAnyH_ready (rs := [17]) (by kernel_rfl) (by simp) (AllReadyH.cons rfl (fun K hK => ?_) AllReadyH.nil)
    go_simp
    refine (C31.out _ hS3).mono ?_
    rintro _ x4 ⟨rfl, hb4x⟩
    refine hK.out _ _ (hS3.trans (hb4x.mono hS3.size)) (fun hS4 => ?_)
    clear hK K
    try simp only [Act.put, List.setIfInBounds_toArray, List.set_cons_zero, List.set_cons_succ]
    refine wpAnyH_take (i := 18) (oi := { dst := some 38, op := Op.binOp BinOp.eql 4 (Operand.tmp 33) (Operand.tmp 37) 4, type := 4, pos := _, after := _, guard := some (9, true) }) (v := (.bool true)) rfl (by kernel_rfl) (by kernel_rfl) (by kernel_rfl) (fun _ _ _ h => h) (.inl ⟨by kernel_rfl, fun W _ => by go_simp⟩) hS4 ?_
    try simp only [Act.put, List.setIfInBounds_toArray, List.set_cons_zero, List.set_cons_succ]
    refine wpAnyH_take (i := 19) (oi := { dst := some 39, op := Op.pick (Operand.tmp 29) (Operand.tmp 38) (Operand.const (Value.bool false)), type := 4, pos := _, after := _, guard := none }) (v := (.bool true)) rfl (by kernel_rfl) (by kernel_rfl) (by kernel_rfl) (fun _ _ _ h => h) (.inl ⟨by kernel_rfl, fun W _ => by go_simp⟩) hS4 ?_
    try simp only [Act.put, List.setIfInBounds_toArray, List.set_cons_zero, List.set_cons_succ]
    refine wpAnyH_take (i := 20) (oi := { dst := some 40, op := Op.move (Operand.tmp 39), type := 4, pos := _, after := _, guard := none }) (v := (.bool true)) rfl (by kernel_rfl) (by kernel_rfl) (by kernel_rfl) (fun _ _ _ h => h) (yieldsIf_move' (by kernel_rfl) (.tmp 39) (by kernel_rfl) (by kernel_rfl)) hS4 ?_
    try simp only [Act.put, List.setIfInBounds_toArray, List.set_cons_zero, List.set_cons_succ]
    refine wpAnyH_take (i := 21) (oi := { dst := some 41, op := Op.move (Operand.tmp 1), type := 22, pos := _, after := _, guard := some (20, true) }) (v := v) rfl (by kernel_rfl) (by kernel_rfl) (by kernel_rfl) (fun _ _ _ h => h) (yieldsIf_move' (by kernel_rfl) (.tmp 1) (by kernel_rfl) (by kernel_rfl)) hS4 ?_
    try simp only [Act.put, List.setIfInBounds_toArray, List.set_cons_zero, List.set_cons_succ]
    refine wpAnyH_take (i := 22) (oi := { dst := some 42, op := Op.move (Operand.tmp 3), type := 3, pos := _, after := _, guard := some (20, true) }) (v := (.int .i64 fr)) rfl (by kernel_rfl) (by kernel_rfl) (by kernel_rfl) (fun _ _ _ h => h) (yieldsIf_move' (by kernel_rfl) (.tmp 3) (by kernel_rfl) (by kernel_rfl)) hS4 ?_
    try simp only [Act.put, List.setIfInBounds_toArray, List.set_cons_zero, List.set_cons_succ]
    refine wpAnyH_take (i := 24) (oi := { dst := some 44, op := Op.move (Operand.tmp 1), type := 22, pos := _, after := _, guard := some (20, true) }) (v := v) rfl (by kernel_rfl) (by kernel_rfl) (by kernel_rfl) (fun _ _ _ h => h) (yieldsIf_move' (by kernel_rfl) (.tmp 1) (by kernel_rfl) (by kernel_rfl)) hS4 ?_
    try simp only [Act.put, List.setIfInBounds_toArray, List.set_cons_zero, List.set_cons_succ]
    refine wpAnyH_take (i := 25) (oi := { dst := some 45, op := Op.move (Operand.tmp 3), type := 3, pos := _, after := _, guard := some (20, true) }) (v := (.int .i64 fr)) rfl (by kernel_rfl) (by kernel_rfl) (by kernel_rfl) (fun _ _ _ h => h) (yieldsIf_move' (by kernel_rfl) (.tmp 3) (by kernel_rfl) (by kernel_rfl)) hS4 ?_
    try simp only [Act.put, List.setIfInBounds_toArray, List.set_cons_zero, List.set_cons_succ]
    refine wpAnyH_ready (rs := [23]) (by kernel_rfl) (by simp) (AllReadyH.cons rfl (fun K hK => ?_) AllReadyH.nil)
    go_simp
    refine (C32.out _ hS4).mono ?_
    rintro _ x5 ⟨rfl, hb5x⟩
    refine hK.out _ _ (hS4.trans (hb5x.mono hS4.size)) (fun hS5 => ?_)
    clear hK K
    try simp only [Act.put, List.setIfInBounds_toArray, List.set_cons_zero, List.set_cons_succ]
    refine wpAnyH_ready (rs := [26]) (by kernel_rfl) (by simp) (AllReadyH.cons rfl (fun K hK => ?_) AllReadyH.nil)
    go_simp
    refine (C33.out _ hS5).mono ?_
    rintro _ x6 ⟨rfl, hb6x⟩
    refine hK.out _ _ (hS5.trans (hb6x.mono hS5.size)) (fun hS6 => ?_)
    clear hK K
    try simp only [Act.put, List.setIfInBounds_toArray, List.set_cons_zero, List.set_cons_succ]
    refine wpAnyH_take (i := 27) (oi := { dst := some 47, op := Op.binOp BinOp.eql 4 (Operand.tmp 43) (Operand.tmp 46) 4, type := 4, pos := _, after := _, guard := some (20, true) }) (v := (.bool true)) rfl (by kernel_rfl) (by kernel_rfl) (by kernel_rfl) (fun _ _ _ h => h) (.inl ⟨by kernel_rfl, fun W _ => by go_simp⟩) hS6 ?_
    try simp only [Act.put, List.setIfInBounds_toArray, List.set_cons_zero, List.set_cons_succ]
    refine wpAnyH_take (i := 28) (oi := { dst := some 48, op := Op.pick (Operand.tmp 40) (Operand.tmp 47) (Operand.const (Value.bool false)), type := 4, pos := _, after := _, guard := none }) (v := (.bool true)) rfl (by kernel_rfl) (by kernel_rfl) (by kernel_rfl) (fun _ _ _ h => h) (.inl ⟨by kernel_rfl, fun W _ => by go_simp⟩) hS6 ?_
    try simp only [Act.put, List.setIfInBounds_toArray, List.set_cons_zero, List.set_cons_succ]
    refine wpAnyH_take (i := 29) (oi := { dst := some 49, op := Op.move (Operand.tmp 48), type := 4, pos := _, after := _, guard := none }) (v := (.bool true)) rfl (by kernel_rfl) (by kernel_rfl) (by kernel_rfl) (fun _ _ _ h => h) (yieldsIf_move' (by kernel_rfl) (.tmp 48) (by kernel_rfl) (by kernel_rfl)) hS6 ?_
    try simp only [Act.put, List.setIfInBounds_toArray, List.set_cons_zero, List.set_cons_succ]
    refine wpAnyH_take (i := 30) (oi := { dst := some 50, op := Op.load 41 (Operand.tmp 5), type := 41, pos := _, after := _, guard := some (29, true) }) (v := (.agg (planL p).toArray)) rfl (by kernel_rfl) (by kernel_rfl) (by kernel_rfl) (fun _ _ _ h => h) (yieldsIf_agg (by kernel_rfl) 41 (.tmp 5) (by kernel_rfl) w.heap.size 0 (by kernel_rfl) y5) hS6 ?_
    try simp only [Act.put, List.setIfInBounds_toArray, List.set_cons_zero, List.set_cons_succ]
    refine wpAnyH_take (i := 31) (oi := { dst := some 51, op := Op.move (Operand.tmp 1), type := 22, pos := _, after := _, guard := some (29, true) }) (v := v) rfl (by kernel_rfl) (by kernel_rfl) (by kernel_rfl) (fun _ _ _ h => h) (yieldsIf_move' (by kernel_rfl) (.tmp 1) (by kernel_rfl) (by kernel_rfl)) hS6 ?_
    try simp only [Act.put, List.setIfInBounds_toArray, List.set_cons_zero, List.set_cons_succ]
    refine wpAnyH_take (i := 32) (oi := { dst := some 52, op := Op.move (Operand.tmp 2), type := 3, pos := _, after := _, guard := some (29, true) }) (v := (.int .i64 nd)) rfl (by kernel_rfl) (by kernel_rfl) (by kernel_rfl) (fun _ _ _ h => h) (yieldsIf_move' (by kernel_rfl) (.tmp 2) (by kernel_rfl) (by kernel_rfl)) hS6 ?_
    try simp only [Act.put, List.setIfInBounds_toArray, List.set_cons_zero, List.set_cons_succ]
    refine wpAnyH_take (i := 33) (oi := { dst := some 53, op := Op.move (Operand.tmp 3), type := 3, pos := _, after := _, guard := some (29, true) }) (v := (.int .i64 fr)) rfl (by kernel_rfl) (by kernel_rfl) (by kernel_rfl) (fun _ _ _ h => h) (yieldsIf_move' (by kernel_rfl) (.tmp 3) (by kernel_rfl) (by kernel_rfl)) hS6 ?_
    try simp only [Act.put, List.setIfInBounds_toArray, List.set_cons_zero, List.set_cons_succ]
    refine wpAnyH_take (i := 34) (oi := { dst := some 54, op := Op.load 45 (Operand.tmp 9), type := 45, pos := _, after := _, guard := some (29, true) }) (v := (.agg (idL id).toArray)) rfl (by kernel_rfl) (by kernel_rfl) (by kernel_rfl) (fun _ _ _ h => h) (yieldsIf_agg (by kernel_rfl) 45 (.tmp 9) (by kernel_rfl) (w.heap.size + 1) 0 (by kernel_rfl) y9) hS6 ?_
    try simp only [Act.put, List.setIfInBounds_toArray, List.set_cons_zero, List.set_cons_succ]
    refine wpAnyH_take (i := 36) (oi := { dst := some 56, op := Op.load 41 (Operand.tmp 5), type := 41, pos := _, after := _, guard := some (29, true) }) (v := (.agg (planL p).toArray)) rfl (by kernel_rfl) (by kernel_rfl) (by kernel_rfl) (fun _ _ _ h => h) (yieldsIf_agg (by kernel_rfl) 41 (.tmp 5) (by kernel_rfl) w.heap.size 0 (by kernel_rfl) y5) hS6 ?_
    try simp only [Act.put, List.setIfInBounds_toArray, List.set_cons_zero, List.set_cons_succ]
    refine wpAnyH_take (i := 37) (oi := { dst := some 57, op := Op.move (Operand.tmp 1), type := 22, pos := _, after := _, guard := some (29, true) }) (v := v) rfl (by kernel_rfl) (by kernel_rfl) (by kernel_rfl) (fun _ _ _ h => h) (yieldsIf_move' (by kernel_rfl) (.tmp 1) (by kernel_rfl) (by kernel_rfl)) hS6 ?_
    try simp only [Act.put, List.setIfInBounds_toArray, List.set_cons_zero, List.set_cons_succ]
    refine wpAnyH_take (i := 38) (oi := { dst := some 58, op := Op.move (Operand.tmp 2), type := 3, pos := _, after := _, guard := some (29, true) }) (v := (.int .i64 nd)) rfl (by kernel_rfl) (by kernel_rfl) (by kernel_rfl) (fun _ _ _ h => h) (yieldsIf_move' (by kernel_rfl) (.tmp 2) (by kernel_rfl) (by kernel_rfl)) hS6 ?_
    try simp only [Act.put, List.setIfInBounds_toArray, List.set_cons_zero, List.set_cons_succ]
    refine wpAnyH_take (i := 39) (oi := { dst := some 59, op := Op.move (Operand.tmp 3), type := 3, pos := _, after := _, guard := some (29, true) }) (v := (.int .i64 fr)) rfl (by kernel_rfl) (by kernel_rfl) (by kernel_rfl) (fun _ _ _ h => h) (yieldsIf_move' (by kernel_rfl) (.tmp 3) (by kernel_rfl) (by kernel_rfl)) hS6 ?_
    try simp only [Act.put, List.setIfInBounds_toArray, List.set_cons_zero, List.set_cons_succ]
    refine wpAnyH_take (i := 40) (oi := { dst := some 60, op := Op.load 45 (Operand.tmp 9), type := 45, pos := _, after := _, guard := some (29, true) }) (v := (.agg (idL id).toArray)) rfl (by kernel_rfl) (by kernel_rfl) (by kernel_rfl) (fun _ _ _ h => h) (yieldsIf_agg (by kernel_rfl) 45 (.tmp 9) (by kernel_rfl) (w.heap.size + 1) 0 (by kernel_rfl) y9) hS6 ?_
    try simp only [Act.put, List.setIfInBounds_toArray, List.set_cons_zero, List.set_cons_succ]
    refine wpAnyH_ready (rs := [35]) (by kernel_rfl) (by simp) (AllReadyH.cons rfl (fun K hK => ?_) AllReadyH.nil)
    go_simp
    refine (C34.out _ hS6).mono ?_
    rintro _ x7 ⟨rfl, hb7x⟩
    refine hK.out _ _ (hS6.trans (hb7x.mono hS6.size)) (fun hS7 => ?_)
    clear hK K
    try simp only [Act.put, List.setIfInBounds_toArray, List.set_cons_zero, List.set_cons_succ]
    refine wpAnyH_ready (rs := [41]) (by kernel_rfl) (by simp) (AllReadyH.cons rfl (fun K hK => ?_) AllReadyH.nil)
    go_simp
    refine (C35.out _ hS7).mono ?_
    rintro _ x8 ⟨rfl, hb8x⟩
    refine hK.out _ _ (hS7.trans (hb8x.mono hS7.size)) (fun hS8 => ?_)
    clear hK K
    try simp only [Act.put, List.setIfInBounds_toArray, List.set_cons_zero, List.set_cons_succ]
    refine wpAnyH_take (i := 42) (oi := { dst := some 62, op := Op.binOp BinOp.eql 3 (Operand.tmp 55) (Operand.tmp 61) 3, type := 4, pos := _, after := _, guard := some (29, true) }) (v := (.bool true)) rfl (by kernel_rfl) (by kernel_rfl) (by kernel_rfl) (fun _ _ _ h => h) (.inl ⟨by kernel_rfl, fun W _ => by go_simp⟩) hS8 ?_
    try simp only [Act.put, List.setIfInBounds_toArray, List.set_cons_zero, List.set_cons_succ]
    refine wpAnyH_take (i := 43) (oi := { dst := some 63, op := Op.pick (Operand.tmp 49) (Operand.tmp 62) (Operand.const (Value.bool false)), type := 4, pos := _, after := _, guard := none }) (v := (.bool true)) rfl (by kernel_rfl) (by kernel_rfl) (by kernel_rfl) (fun _ _ _ h => h) (.inl ⟨by kernel_rfl, fun W _ => by go_simp⟩) hS8 ?_
    try simp only [Act.put, List.setIfInBounds_toArray, List.set_cons_zero, List.set_cons_succ]
    refine wpAnyH_take (i := 44) (oi := { dst := some 10, op := Op.assign (Operand.tmp 63), type := 4, pos := _, after := _, guard := none }) (v := (.bool true)) rfl (by kernel_rfl) (by kernel_rfl) (by kernel_rfl) (fun _ _ _ h => h) (.inl ⟨by kernel_rfl, fun W _ => by go_simp⟩) hS8 ?_
    try simp only [Act.put, List.setIfInBounds_toArray, List.set_cons_zero, List.set_cons_succ]
    refine wpAnyH_done (by kernel_rfl) ?_ _
    go_wp2
    go_ret
    exact ⟨rfl, B2.out.trans (hS8.mono B2.out.size)⟩
  · rw [show fewB (zs.map (·.x)) p vs = false by simpa using hf]
    go_wp2_with fail
    refine (HBG _).out.mono ?_
    rintro e w5 ⟨rfl, b5⟩
    have B5 := Lib.hid (B2.out.trans (b5.mono B2.out.size))
    clear b5
    go_wp2
    go_ret
    exact ⟨rfl, B5.out⟩
end Go.Proofs.Ytmenfbfekfljbaa
