import Derived.Test.YtmenfbfekfljbaaVotP
import Derived.Test.YtmenfbfekfljbaaOpenX
import Derived.Test.YtmenfbfekfljbaaBegun
import Derived.Deep.RegionHeld3
namespace Go.Proofs.Ytmenfbfekfljbaa
open Go.RowKit Go.Shelf

theorem q_cell {w W : World} {b off : Nat} {vq : List (SlD × List Int)} (h : RowAt w b off 1 qL vq) (e : obj W b = obj w b) {j : Nat} (hj : j < vq.length) : W.cell? ⟨b, off + j, none⟩ = some (slV vq[j].1) := by
  have h1 := h j hj
  rw [← e, Nat.mul_one] at h1
  have := subOf_cell h1 (j := 0) (by decide)
  rw [Nat.add_zero] at this
  rw [this]
  rfl
set_option maxRecDepth 100000 in
set_option maxHeartbeats 8000000 in
/-- JudgeVoters -/
theorem votersLaw_any (w : World) (p : PlanD) (v : Value) (xs : List FactD) (vs : List VdrD) (h : SlIn w v 72 factL xs)
    (hx : ∀ x ∈ xs, x.slots.len ≤ maxLen ∧ x.votes.len ≤ maxLen)
    (hv : SlIn w (slV p.vdrs) 2 vdrL vs) (hn : ∀ x ∈ vs, x.name.size ≤ maxLen) (hbl : p.byz.len ≤ maxLen) :
    Calls Try.prog 8 #[.agg (planL p).toArray, v] w fun e w' => e = .returned (.bool true) ∧ Below w.heap.size w w' := by
  have HBG := fun W => Lib.hid (begun_any W)
  have HS := Lib.hid h
  have HFE := fun W (hb : Below w.heap.size w W) => Lib.hid (few_any W v xs p vs (HS.out.below hb) (hv.below hb) hx hbl hn)
  have B0 := Lib.hid (((Below.refl _ w).alloc (Nat.le_refl _) (.cells (planL p).toArray 41)).alloc (by simp) (.cells #[v] 22))
  have P0 : Hid (obj ((w.alloc (.cells (planL p).toArray 41)).alloc (.cells #[v] 22)) w.heap.size = some (.cells (planL p).toArray 41 (0, 0))) := Lib.hid (by simp [go_sem])
  have I0 : Hid (obj ((w.alloc (.cells (planL p).toArray 41)).alloc (.cells #[v] 22)) (w.heap.size + 1) = some (.cells #[v] 22 (0, 0))) := Lib.hid (by simp [go_sem])
  obtain ⟨oa, cap, rfl, _, _, _⟩ := h
  clear hx hv hn hbl
  go_enter Try.func8, Try.ntmps8
  go_wp2_with fail
  generalize (w.alloc (.cells (planL p).toArray 41)).alloc (.cells #[.slice oa xs.length cap] 22) = w0 at *
  refine (HBG _).out.mono ?_
  rintro e w1 ⟨rfl, b1⟩
  have B1 := Lib.hid (B0.out.trans (b1.mono B0.out.size))
  have P1 := Lib.hid ((obj_below b1 (lt_of_obj P0.out)).trans P0.out)
  have I1 := Lib.hid ((obj_below b1 (lt_of_obj I0.out)).trans I0.out)
  have HF := Lib.hid (HFE w1 B1.out).out
  have sp1 : subOf (obj w1 w.heap.size) 0 32 = some (planL p).toArray := by rw [P1.out, subOf_cells (by simp), subA_all (by simp)]
  have ci1 : w1.cell? ⟨w.heap.size + 1, 0, none⟩ = some (.slice oa xs.length cap) := cell_at I1.out 0
  have hlt1 : w.heap.size < w1.heap.size := lt_of_obj P1.out
  have hlt1' : w.heap.size + 1 < w1.heap.size := lt_of_obj I1.out
  clear b1 HFE B0 P0 I0
  go_wp2_with fail
  refine HF.out.mono ?_
  rintro e w2 ⟨rfl, b2⟩
  have B2 := Lib.hid (B1.out.trans (b2.mono B1.out.size))
  have P2 := Lib.hid ((obj_below b2 (lt_of_obj P1.out)).trans P1.out)
  have I2 := Lib.hid ((obj_below b2 (lt_of_obj I1.out)).trans I1.out)
  clear b2 HF B1 P1 I1 sp1 hlt1 hlt1' ci1
  by_cases hf : fewB xs p vs = true
  · have HLN : Hid (xs.length ≤ 60) := Lib.hid (by
      unfold fewB at hf
      simp only [Bool.and_eq_true, decide_eq_true_eq] at hf
      exact hf.1.1.1.1)
    rw [hf]
    have sp2 : subOf (obj w2 w.heap.size) 0 32 = some (planL p).toArray := by rw [P2.out, subOf_cells (by simp), subA_all (by simp)]
    have ci2 : w2.cell? ⟨w.heap.size + 1, 0, none⟩ = some (.slice oa xs.length cap) := cell_at I2.out 0
    have hlt2 : w.heap.size < w2.heap.size := lt_of_obj P2.out
    have hlt2' : w.heap.size + 1 < w2.heap.size := lt_of_obj I2.out
    have HWI := Lib.hid (windows_any w2 p _ xs (HS.out.below B2.out) (by have := HLN.out; omega))
    clear hf HBG
    go_wp2_with fail
    refine HWI.out.mono ?_
    rintro e w3 ⟨v3, zs, rfl, hz3, hm3, b3⟩
    have B3 := Lib.hid (B2.out.trans (b3.mono B2.out.size))
    have P3 := Lib.hid ((obj_below b3 (lt_of_obj P2.out)).trans P2.out)
    have I3 := Lib.hid ((obj_below b3 (lt_of_obj I2.out)).trans I2.out)
    have Z3 := Lib.hid hz3
    have G3 : Hid (∀ k (h : k < zs.length), GoodW xs p.beta zs[k].m) := Lib.hid (fun k h => wins_good (by rw [← hm3]; exact List.mem_map.2 ⟨_, List.getElem_mem h, rfl⟩))
    have hlp : w.heap.size < w3.heap.size := lt_of_obj P3.out
    have hli : w.heap.size + 1 < w3.heap.size := lt_of_obj I3.out
    obtain ⟨za, zc, rfl, zh1, zh2, zh3⟩ := hz3.1.slIn wxL_length
    have ZH := Lib.hid zh3
    unfold maxLen at zh2
    have hzl : zs.length ≤ 60 := by
      have := congrArg List.length hm3
      rw [List.length_map] at this
      have := winsK_len xs p.beta xs.length
      have := HLN.out
      omega
    clear hz3 hm3 b3 HWI P2 I2 B2 sp2 ci2 hlt2 hlt2' zh3
    go_wp2
    generalize hB : w.heap.size = B at *
    generalize hC : w3.heap.size = C at *
    go_loopw [24] (fun v24 wr => ∃ (k : Nat), k ≤ zs.length ∧ v24 = .int .i64 k ∧ Hid (Below C w3 wr)) (fun i _ => zs.length - (intOf i).toNat)
    case atStart => exact ⟨0, Nat.zero_le _, rfl, Lib.hid (Below.refl _ _)⟩
    case round =>
      obtain ⟨k, hk, rfl, HQ⟩ := hrel
      have hzq := HQ.out.size
      by_cases hlt : k < zs.length
      · obtain ⟨b, off, hoa, hbb, hrow⟩ := ZH.out (by omega)
        subst hoa
        have hsub : subOf (obj wr b) (off + k * 35) 35 = some (winL zs[k].w).toArray := by have := hrow k hlt; rw [← obj_below HQ.out (by omega)] at this; exact this
        have hbr : b < wr.heap.size := by omega
        have GK := Lib.hid (G3.out k hlt)
        have ZK := Lib.hid (Z3.out.2 zs[k] (List.getElem_mem hlt))
        generalize zs[k] = z at *
        obtain ⟨zw, vq⟩ := z
        simp only at *
        obtain ⟨nd, id, mv, ⟨va, vl, vc⟩⟩ := zw
        obtain ⟨va', vc', hve, vh1, vh2, vh3⟩ := ZK.out.1.slIn qL_length
        simp only [slV, Value.slice.injEq] at hve
        obtain ⟨rfl, rfl, rfl⟩ := hve
        unfold maxLen at vh2
        have VH := Lib.hid vh3
        have hgd := GK.out.1
        simp only [WinX.m, List.length_map] at hgd
        have hmx : decide (max p.beta 0 < (vq.length : Int)) = false := by simp; omega
        have o2 : obj (wr.alloc (.cells (winL ⟨nd, id, mv, ⟨va, vq.length, vc⟩⟩).toArray 74)) wr.heap.size = some (.cells (winL ⟨nd, id, mv, ⟨va, vq.length, vc⟩⟩).toArray 74 (0, 0)) := obj_alloc_at _ _ _ rfl
        have HQA := Lib.hid (HQ.out.alloc (by omega) (.cells (winL ⟨nd, id, mv, ⟨va, vq.length, vc⟩⟩).toArray 74))
        have hzx : (wr.alloc (.cells (winL ⟨nd, id, mv, ⟨va, vq.length, vc⟩⟩).toArray 74)).heap.size = wr.heap.size + 1 := by simp
        have WC := Lib.hid o2
        clear hrow vh3 hgd
        go_wp2
        generalize wr.alloc (.cells (winL ⟨nd, id, mv, ⟨va, vq.length, vc⟩⟩).toArray 74) = wf at *
        generalize hbx : wr.heap.size = bx at *
        have PF := Lib.hid ((obj_below HQA.out (lt_of_obj P3.out |> fun h => by rw [← hC]; exact h)).trans P3.out)
        have IF := Lib.hid ((obj_below HQA.out (lt_of_obj I3.out |> fun h => by rw [← hC]; exact h)).trans I3.out)
        have HSW : Hid (∀ W', Below wf.heap.size wf W' → SlIn W' (.slice oa xs.length cap) 72 factL xs) := Lib.hid (fun W' hW' => HS.out.below (by rw [hB]; exact B3.out.trans ((HQA.out.trans (hW'.mono (by omega))).mono (show B ≤ C by omega))))
        have HLI : Hid (∀ W', Below wf.heap.size wf W' → Calls Try.prog 13 #[.slice oa xs.length cap, .int .i64 nd] W' (RetOwn W' 45 32 idL (lineM xs nd))) := Lib.hid (fun W' hW' => line_any W' _ xs nd (HSW.out W' hW') (by have := HLN.out; omega))
        have hmem : decide (id ∈ lineM xs nd) = true := by have := GK.out.2.1; simpa [WinX.m] using this
        have HCN : Hid (∀ W' v', SlIn W' v' 32 idL (lineM xs nd) → Calls Try.prog 27 #[v', .agg (idL id).toArray] W' fun e w' => e = .returned (.bool true) ∧ Below W'.heap.size W' w') := Lib.hid (fun W' v' h => by have := contains_any W' v' _ id h; rw [hmem] at this; exact this)
        clear hmem
        have y45 : ∀ W', Below wf.heap.size wf W' → (loadAgg 45 ⟨bx, 1, none⟩).run Try.prog W' = .ok (.agg (idL id).toArray) W' := fun W' hW' => by
          rw [run_loadAgg Try.isAgg45 Try.sizeOf45, (obj_below hW' (lt_of_obj WC.out)).trans WC.out, subOf_cells (by simp), winL_id]
          rfl
        refine wp_region_held_drew (S := fun W' => Below wf.heap.size wf W') (by kernel_rfl) (Below.refl _ wf).drew (fun hS => ?_)
        refine wpAnyH_take (i := 0) (oi := { dst := some 28, op := Op.fieldAddr 74 (Operand.tmp 6) 3, type := 0, pos := _, after := _, guard := none }) (v := (.pointer (some ⟨bx, 34, none⟩))) rfl (by kernel_rfl) (by kernel_rfl) (by kernel_rfl) (fun _ _ _ h => h) (.inl ⟨by kernel_rfl, fun W' hW => by go_simp⟩) hS ?_
        try simp only [Act.put, List.setIfInBounds_toArray, List.set_cons_zero, List.set_cons_succ]
        refine wpAnyH_take (i := 1) (oi := { dst := some 29, op := Op.load 72 (Operand.tmp 28), type := 72, pos := _, after := _, guard := none }) (v := (.slice va vq.length vc)) rfl (by kernel_rfl) (by kernel_rfl) (by kernel_rfl) (fun _ _ _ h => h) (.inl ⟨by kernel_rfl, fun W' hW => by have ob := (obj_below hW (lt_of_obj WC.out)).trans WC.out; have z := lt_of_obj ob; have c := cell_at ob 34; (try simp only [List.getElem?_toArray, winL_34] at c); go_simp⟩) hS ?_
        try simp only [Act.put, List.setIfInBounds_toArray, List.set_cons_zero, List.set_cons_succ]
        refine wpAnyH_take (i := 2) (oi := { dst := some 30, op := Op.call { callee := Callee.builtin Builtin.len, args := #[Operand.tmp 29], argTypes := #[72] }, type := 3, pos := _, after := _, guard := none }) (v := (.int .i64 (vq.length : Int))) rfl (by kernel_rfl) (by kernel_rfl) (by kernel_rfl) (fun _ _ _ h => h) (.inl ⟨by kernel_rfl, fun W' hW => by go_simp⟩) hS ?_
        try simp only [Act.put, List.setIfInBounds_toArray, List.set_cons_zero, List.set_cons_succ]
        refine wpAnyH_take (i := 3) (oi := { dst := some 31, op := Op.fieldAddr 41 (Operand.tmp 2) 0, type := 0, pos := _, after := _, guard := none }) (v := (.pointer (some ⟨B, 0, none⟩))) rfl (by kernel_rfl) (by kernel_rfl) (by kernel_rfl) (fun _ _ _ h => h) (.inl ⟨by kernel_rfl, fun W' hW => by go_simp⟩) hS ?_
        try simp only [Act.put, List.setIfInBounds_toArray, List.set_cons_zero, List.set_cons_succ]
        refine wpAnyH_take (i := 4) (oi := { dst := some 32, op := Op.fieldAddr 36 (Operand.tmp 31) 0, type := 0, pos := _, after := _, guard := none }) (v := (.pointer (some ⟨B, 0, none⟩))) rfl (by kernel_rfl) (by kernel_rfl) (by kernel_rfl) (fun _ _ _ h => h) (.inl ⟨by kernel_rfl, fun W' hW => by go_simp⟩) hS ?_
        try simp only [Act.put, List.setIfInBounds_toArray, List.set_cons_zero, List.set_cons_succ]
        refine wpAnyH_take (i := 5) (oi := { dst := some 33, op := Op.fieldAddr 26 (Operand.tmp 32) 3, type := 0, pos := _, after := _, guard := none }) (v := (.pointer (some ⟨B, 3, none⟩))) rfl (by kernel_rfl) (by kernel_rfl) (by kernel_rfl) (fun _ _ _ h => h) (.inl ⟨by kernel_rfl, fun W' hW => by go_simp⟩) hS ?_
        try simp only [Act.put, List.setIfInBounds_toArray, List.set_cons_zero, List.set_cons_succ]
        refine wpAnyH_take (i := 6) (oi := { dst := some 34, op := Op.load 3 (Operand.tmp 33), type := 3, pos := _, after := _, guard := none }) (v := (.int .i64 p.beta)) rfl (by kernel_rfl) (by kernel_rfl) (by kernel_rfl) (fun _ _ _ h => h) (.inl ⟨by kernel_rfl, fun W' hW => by have ob := (obj_below hW (lt_of_obj PF.out)).trans PF.out; have z := lt_of_obj ob; have c := cell_at ob 3; (try simp only [List.getElem?_toArray, planL_3] at c); go_simp⟩) hS ?_
        try simp only [Act.put, List.setIfInBounds_toArray, List.set_cons_zero, List.set_cons_succ]
        refine wpAnyH_take (i := 7) (oi := { dst := some 35, op := Op.call { callee := Callee.builtin Builtin.max, args := #[Operand.tmp 34, Operand.const (Value.int IntKind.i64 0)], argTypes := #[3, 3] }, type := 3, pos := _, after := _, guard := none }) (v := (.int .i64 (max p.beta 0))) rfl (by kernel_rfl) (by kernel_rfl) (by kernel_rfl) (fun _ _ _ h => h) (.inl ⟨by kernel_rfl, fun W' hW => by go_simp⟩) hS ?_
        try simp only [Act.put, List.setIfInBounds_toArray, List.set_cons_zero, List.set_cons_succ]
        refine wpAnyH_take (i := 8) (oi := { dst := some 36, op := Op.binOp BinOp.gtr 3 (Operand.tmp 30) (Operand.tmp 35) 3, type := 4, pos := _, after := _, guard := none }) (v := (.bool false)) rfl (by kernel_rfl) (by kernel_rfl) (by kernel_rfl) (fun _ _ _ h => h) (.inl ⟨by kernel_rfl, fun W' hW => by go_simp⟩) hS ?_
        try simp only [Act.put, List.setIfInBounds_toArray, List.set_cons_zero, List.set_cons_succ]
        refine wpAnyH_take (i := 9) (oi := { dst := some 37, op := Op.move (Operand.tmp 36), type := 4, pos := _, after := _, guard := none }) (v := (.bool false)) rfl (by kernel_rfl) (by kernel_rfl) (by kernel_rfl) (fun _ _ _ h => h) (.inl ⟨by kernel_rfl, fun W' hW => by go_simp⟩) hS ?_
        try simp only [Act.put, List.setIfInBounds_toArray, List.set_cons_zero, List.set_cons_succ]
        refine wpAnyH_take (i := 10) (oi := { dst := some 38, op := Op.load 22 (Operand.tmp 3), type := 22, pos := _, after := _, guard := some (9, false) }) (v := (.slice oa xs.length cap)) rfl (by kernel_rfl) (by kernel_rfl) (by kernel_rfl) (fun _ _ _ h => h) (.inl ⟨by kernel_rfl, fun W' hW => by have ob := (obj_below hW (lt_of_obj IF.out)).trans IF.out; have z := lt_of_obj ob; have c := cell_at ob 0; (try simp only [List.getElem?_toArray] at c); go_simp⟩) hS ?_
        try simp only [Act.put, List.setIfInBounds_toArray, List.set_cons_zero, List.set_cons_succ]
        refine wpAnyH_take (i := 11) (oi := { dst := some 39, op := Op.fieldAddr 74 (Operand.tmp 6) 0, type := 0, pos := _, after := _, guard := some (9, false) }) (v := (.pointer (some ⟨bx, 0, none⟩))) rfl (by kernel_rfl) (by kernel_rfl) (by kernel_rfl) (fun _ _ _ h => h) (.inl ⟨by kernel_rfl, fun W' hW => by go_simp⟩) hS ?_
        try simp only [Act.put, List.setIfInBounds_toArray, List.set_cons_zero, List.set_cons_succ]
        refine wpAnyH_take (i := 12) (oi := { dst := some 40, op := Op.load 3 (Operand.tmp 39), type := 3, pos := _, after := _, guard := some (9, false) }) (v := (.int .i64 nd)) rfl (by kernel_rfl) (by kernel_rfl) (by kernel_rfl) (fun _ _ _ h => h) (.inl ⟨by kernel_rfl, fun W' hW => by have ob := (obj_below hW (lt_of_obj WC.out)).trans WC.out; have z := lt_of_obj ob; have c := cell_at ob 0; (try simp only [List.getElem?_toArray, winL_0] at c); go_simp⟩) hS ?_
        try simp only [Act.put, List.setIfInBounds_toArray, List.set_cons_zero, List.set_cons_succ]
        refine wpAnyH_take (i := 14) (oi := { dst := some 42, op := Op.fieldAddr 74 (Operand.tmp 6) 1, type := 0, pos := _, after := _, guard := some (9, false) }) (v := (.pointer (some ⟨bx, 1, none⟩))) rfl (by kernel_rfl) (by kernel_rfl) (by kernel_rfl) (fun _ _ _ h => h) (.inl ⟨by kernel_rfl, fun W' hW => by go_simp⟩) hS ?_
        try simp only [Act.put, List.setIfInBounds_toArray, List.set_cons_zero, List.set_cons_succ]
        refine wpAnyH_take (i := 15) (oi := { dst := some 43, op := Op.load 45 (Operand.tmp 42), type := 45, pos := _, after := _, guard := some (9, false) }) (v := (.agg (idL id).toArray)) rfl (by kernel_rfl) (by kernel_rfl) (by kernel_rfl) (fun _ _ _ h => h) (yieldsIf_agg (by kernel_rfl) 45 (.tmp 42) (by kernel_rfl) bx 1 (by kernel_rfl) y45) hS ?_
        try simp only [Act.put, List.setIfInBounds_toArray, List.set_cons_zero, List.set_cons_succ]
        refine wpAnyH_ready (rs := [13]) (by kernel_rfl) (by simp) (AllReadyH.cons rfl (fun K hK => ?_) AllReadyH.nil)
        go_simp
        refine (HLI.out _ hS).mono ?_
        rintro _ x1 ⟨v1, rfl, o1, hb1⟩
        refine hK.out _ _ (hS.trans (hb1.mono hS.size)) (fun hS1 => ?_)
        clear hK K hb1
        try simp only [Act.put, List.setIfInBounds_toArray, List.set_cons_zero, List.set_cons_succ]
        refine wpAnyH_ready (rs := [16]) (by kernel_rfl) (by simp) (AllReadyH.cons rfl (fun K hK => ?_) AllReadyH.nil)
        go_simp
        refine (HCN.out _ _ (o1.slIn idL_length)).mono ?_
        rintro _ x2 ⟨rfl, hb2⟩
        refine hK.out _ _ (hS1.trans (hb2.mono hS1.size)) (fun hS2 => ?_)
        clear hK K hb2 o1
        try simp only [Act.put, List.setIfInBounds_toArray, List.set_cons_zero, List.set_cons_succ]
        refine wpAnyH_take (i := 17) (oi := { dst := some 45, op := Op.unOp UnOp.not 4 (Operand.tmp 44), type := 4, pos := _, after := _, guard := some (9, false) }) (v := (.bool false)) rfl (by kernel_rfl) (by kernel_rfl) (by kernel_rfl) (fun _ _ _ h => h) (.inl ⟨by kernel_rfl, fun W' hW => by go_simp⟩) hS2 ?_
        try simp only [Act.put, List.setIfInBounds_toArray, List.set_cons_zero, List.set_cons_succ]
        refine wpAnyH_take (i := 18) (oi := { dst := some 46, op := Op.pick (Operand.tmp 37) (Operand.const (Value.bool true)) (Operand.tmp 45), type := 4, pos := _, after := _, guard := none }) (v := (.bool false)) rfl (by kernel_rfl) (by kernel_rfl) (by kernel_rfl) (fun _ _ _ h => h) (.inl ⟨by kernel_rfl, fun W' hW => by go_simp⟩) hS2 ?_
        try simp only [Act.put, List.setIfInBounds_toArray, List.set_cons_zero, List.set_cons_succ]
        refine wpAnyH_done (by kernel_rfl) ?_ _
        have WC2 := Lib.hid ((obj_below hS2 (lt_of_obj WC.out)).trans WC.out)
        have PF2 := Lib.hid ((obj_below hS2 (lt_of_obj PF.out)).trans PF.out)
        have IF2 := Lib.hid ((obj_below hS2 (lt_of_obj IF.out)).trans IF.out)
        have HQ2 := Lib.hid (HQA.out.trans (hS2.mono (by omega)))
        have c34 : x2.cell? ⟨bx, 34, none⟩ = some (.slice va vq.length vc) := (cell_at WC2.out 34).trans (by rw [List.getElem?_toArray]; exact winL_34 _)
        have hb2 := lt_of_obj WC2.out
        have hi2 := lt_of_obj IF2.out
        have hz2 : wf.heap.size ≤ x2.heap.size := hS2.size
        clear hS hS1 hS2 HLI HCN HSW y45 WC PF IF
        go_wp2
        generalize hD : x2.heap.size = D at *
        go_loopw [50] (fun v50 wr => ∃ (j : Nat), j ≤ vq.length ∧ v50 = .int .i64 j ∧ Hid (Below D x2 wr)) (fun i _ => vq.length - (intOf i).toNat)
        case atStart => exact ⟨0, Nat.zero_le _, rfl, Lib.hid (Below.refl _ _)⟩
        case round =>
          obtain ⟨j, hj, rfl, HR⟩ := hrel
          have hzr := HR.out.size
          by_cases hjt : j < vq.length
          · obtain ⟨vb, voff, hva, hvb, hvrow⟩ := VH.out (by omega)
            subst hva
            have cq := q_cell hvrow (obj_below (HQ2.out.trans (HR.out.mono (by omega))) (by omega)) hjt
            have hvr : vb < wr.heap.size := by omega
            have QK := Lib.hid (ZK.out.2 vq[j] (List.getElem_mem hjt))
            have GQ := Lib.hid (GK.out.2.2 vq[j].2 (List.mem_map.2 ⟨_, List.getElem_mem hjt, rfl⟩))
            generalize vq[j] = q at *
            obtain ⟨⟨qa, ql, qc⟩, l⟩ := q
            simp only at *
            obtain ⟨qa', qc', hqe, qh1, qh2, qh3⟩ := QK.out.slIn iL_length
            simp only [slV, Value.slice.injEq] at hqe
            obtain ⟨rfl, rfl, rfl⟩ := hqe
            unfold maxLen at qh2
            have QH := Lib.hid qh3
            clear hvrow qh3
            simp only [slV] at cq
            go_wp2
            go_loopw [56] (fun v56 wr => ∃ (i : Nat), i ≤ l.length ∧ v56 = .int .i64 i ∧ Hid (Below D x2 wr)) (fun i _ => l.length - (intOf i).toNat)
            case atStart => exact ⟨0, Nat.zero_le _, rfl, HR⟩
            case round =>
              obtain ⟨i, hi, rfl, HT⟩ := hrel
              have hzt := HT.out.size
              by_cases hit : i < l.length
              · obtain ⟨qb, qoff, hqa, hqb, hqrow⟩ := QH.out (by omega)
                subst hqa
                have HTW := Lib.hid (HQ2.out.trans (HT.out.mono (by omega)))
                have ci := int_cell hqrow (obj_below HTW.out (by omega)) hit
                have hqr : qb < wr.heap.size := by omega
                obtain ⟨g0, g32, ga, gp⟩ := GQ.out i hit
                have GA := Lib.hid ga
                have hcp : Hid (∀ (h0 : 0 < i), wr.cell? ⟨qb, qoff + (i - 1), none⟩ = some (.int .i64 (l[i - 1]'(by omega))) ∧ l[i - 1]'(by omega) < l[i]) := Lib.hid (fun h0 => ⟨int_cell hqrow (obj_below HTW.out (by omega)) (show i - 1 < l.length by omega), gp (i - 1) (by omega) (by omega)⟩)
                clear ga gp hqrow
                generalize l[i] = u at *
                have d0 : decide (u < 0) = false := by simp; omega
                have d32 : decide (32 ≤ u) = false := by simp; omega
                have vo : obj (wr.alloc (.cells #[.int .i64 u] 3)) wr.heap.size = some (.cells #[.int .i64 u] 3 (0, 0)) := obj_alloc_at _ _ _ rfl
                have HTA := Lib.hid (HT.out.alloc (by omega) (.cells #[.int .i64 u] 3))
                have hzv : (wr.alloc (.cells #[.int .i64 u] 3)).heap.size = wr.heap.size + 1 := by simp
                have VO := Lib.hid vo
                have cv : (wr.alloc (.cells #[.int .i64 u] 3)).cell? ⟨wr.heap.size, 0, none⟩ = some (.int .i64 u) := cell_at vo 0
                have IFV := (obj_below HTA.out (show B + 1 < D by omega)).trans IF2.out
                have civ := cell_at IFV 0
                simp only [List.getElem?_toArray, List.getElem?_cons_zero] at civ
                have liv := lt_of_obj IFV
                have hmf : ∀ (fn : Fn) (first cap : Array Value) (w : World), (Instr.makeFunc fn first cap).run Try.prog w = .ok (.func fn first cap) w := fun _ _ _ _ => rfl
                have WCV := (obj_below HTA.out (show bx < D by omega)).trans WC2.out
                have HSV : Hid (SlIn (wr.alloc (.cells #[.int .i64 u] 3)) (.slice oa xs.length cap) 72 factL xs) := Lib.hid (HS.out.below (by rw [hB]; exact B3.out.trans ((HQ2.out.mono (show B ≤ C by omega)).trans (HTA.out.mono (by omega)))))
                have HCF := fun (W0 : World) (h0 : Below (wr.alloc (.cells #[.int .i64 u] 3)).heap.size (wr.alloc (.cells #[.int .i64 u] 3)) W0) => Lib.hid (containsFunc_fact W0 (.slice oa xs.length cap) xs 37 #[.pointer (some ⟨bx, 0, none⟩), .pointer (some ⟨wr.heap.size, 0, none⟩), .pointer (some ⟨B + 1, 0, none⟩)] (vpB xs nd id u) eg37 (fun W y hb => vote_clo W bx wr.heap.size (B + 1) ⟨nd, id, mv, ⟨some ⟨vb, voff, none⟩, vq.length, vc⟩⟩ u _ xs y ((obj_below (h0.trans (hb.mono h0.size)) (lt_of_obj WCV)).trans WCV) ((obj_below (h0.trans (hb.mono h0.size)) (lt_of_obj vo)).trans vo) ((obj_below (h0.trans (hb.mono h0.size)) liv).trans IFV) (HSV.out.below (h0.trans (hb.mono h0.size))) (by have := HLN.out; omega)) (HSV.out.below h0))
                have HDN : ∀ n : Nat, Hid (Below (wr.alloc (.cells #[.int .i64 u] 3)).heap.size (wr.alloc (.cells #[.int .i64 u] 3)) ((wr.alloc (.cells #[.int .i64 u] 3)).drewN n)) := fun n => Lib.hid ⟨rfl, rfl, rfl, Nat.le_refl _, fun _ _ => rfl⟩
                rw [show xs.any (vpB xs nd id u) = true from GA.out] at HCF
                have HTN : ∀ n : Nat, Hid (Below D x2 ((wr.alloc (.cells #[.int .i64 u] 3)).drewN n)) := fun n => Lib.hid (HTA.out.trans ((HDN n).out.mono (by omega)))
                clear vo IFV WCV
                by_cases h0 : 0 < i
                · obtain ⟨cp, hlp2⟩ := hcp.out h0
                  have dp : decide (u ≤ l[i - 1]) = false := by simp; omega
                  generalize l[i - 1] = u0 at *
                  have hi0 : decide ((0 : Int) < (i : Int)) = true := by simp; omega
                  have hwi : IntKind.i64.wrap ((i : Int) - 1) = ((i - 1 : Nat) : Int) := by simp [IntKind.wrap, IntKind.signed, IntKind.bits]; omega
                  have hil2 : i - 1 < l.length := by omega
                  clear hcp
                  go_wp2
                  go_quiet (fail)
                  go_wp2_with fail
                  refine (HCF _ (HDN _).out).out.mono ?_
                  rintro e w7 ⟨rfl, b7⟩
                  have HT7 := Lib.hid ((HTN _).out.trans (b7.mono (by simp; omega)))
                  clear b7
                  go_wp2
                  go_roundw
                  case rel => exact ⟨i + 1, by omega, by go_num, HT7⟩
                  case measure => simp [intOf]; omega
                · obtain rfl : i = 0 := by omega
                  rw [Nat.add_zero] at ci
                  clear hcp
                  go_wp2
                  go_quiet (fail)
                  go_wp2_with fail
                  refine (HCF _ (HDN _).out).out.mono ?_
                  rintro e w7 ⟨rfl, b7⟩
                  have HT7 := Lib.hid ((HTN _).out.trans (b7.mono (by simp; omega)))
                  clear b7
                  go_wp2
                  go_roundw
                  case rel => exact ⟨0 + 1, by omega, by go_num, HT7⟩
                  case measure => simp [intOf]; omega
              · go_wp2
                go_roundw
                case rel => exact ⟨j + 1, by omega, by go_num, HT⟩
                case measure => simp [intOf]; omega
          · go_wp2
            go_roundw
            case rel => exact ⟨k + 1, by omega, by go_num, Lib.hid (HQ2.out.trans (HR.out.mono (by omega)))⟩
            case measure => simp [intOf]; omega
      · go_wp2
        go_ret
        exact ⟨rfl, by rw [hB]; exact B3.out.trans (HQ.out.mono (show B ≤ C by omega))⟩
  · rw [show fewB xs p vs = false by simpa using hf]
    go_wp2_with fail
    refine (HBG _).out.mono ?_
    rintro e w5 ⟨rfl, b5⟩
    have B5 := Lib.hid (B2.out.trans (b5.mono B2.out.size))
    clear b5
    go_wp2
    go_ret
    exact ⟨rfl, B5.out⟩
end Go.Proofs.Ytmenfbfekfljbaa
