import Derived.Test.YtmenfbfekfljbaaGrowP
import Derived.Test.YtmenfbfekfljbaaCat
import Derived.Test.YtmenfbfekfljbaaWinEq
import Derived.Test.YtmenfbfekfljbaaOpenX
import Derived.Test.YtmenfbfekfljbaaLines
import Derived.Deep.RegionHeld3
namespace Go.Proofs.Ytmenfbfekfljbaa
open Go.RowKit Go.Shelf

theorem yieldsIf_move' {P : Program} {ops : Array Oper} {S : World → Prop} {op : Oper} {a : Act} {v : Value} (hw : Region.wanted op (yielded ops a.tmps) = true) (x : Operand) (ho : op.op = .move x) (hv : a.eval x = v) : YieldsIf P ops S op v a :=
  hv ▸ yieldsIf_move hw x ho
theorem few_len2 {xs : List FactD} {p : PlanD} {vs : List VdrD} (h : fewB xs p vs = true) : xs.length ≤ 60 := few_len h
set_option maxRecDepth 100000 in
set_option maxHeartbeats 8000000 in
/-- JudgeGrows -/
theorem growsLaw_any (w : World) (p : PlanD) (v1 v2 : Value) (xs ys : List FactD) (vs : List VdrD) (nd : Int) (a b : ID) (h1 : SlIn w v1 72 factL xs) (h2 : SlIn w v2 72 factL ys)
    (hx : ∀ x ∈ xs, x.slots.len ≤ maxLen ∧ x.votes.len ≤ maxLen) (hy : ∀ x ∈ ys, x.slots.len ≤ maxLen ∧ x.votes.len ≤ maxLen)
    (hv : SlIn w (slV p.vdrs) 2 vdrL vs) (hn : ∀ x ∈ vs, x.name.size ≤ maxLen) (hbl : p.byz.len ≤ maxLen) (hsz : (xs.length + ys.length) * 160 ≤ 281474976710656) :
    Calls Try.prog 9 #[.agg (planL p).toArray, v1, v2, .int .i64 nd, .agg (idL a).toArray, .agg (idL b).toArray] w fun e w' => e = .returned (.bool true) ∧ Below w.heap.size w w' := by
  obtain ⟨zs, HZ⟩ : ∃ zs, Hid (zs = xs ++ ys) := ⟨_, Lib.hid rfl⟩
  have HZL : Hid (zs.length = xs.length + ys.length) := Lib.hid (by rw [HZ.out, List.length_append])
  have HBG := fun W => Lib.hid (begun_any W)
  have HX := Lib.hid h1
  have HYS := Lib.hid h2
  have HXY : Hid (∀ z ∈ zs, z.slots.len ≤ maxLen ∧ z.votes.len ≤ maxLen) := Lib.hid (fun z hz => (List.mem_append.1 (by rw [← HZ.out]; exact hz)).elim (hx z) (hy z))
  have HV := Lib.hid hv
  have HNB := Lib.hid (And.intro hn hbl)
  have HSZ := Lib.hid hsz
  obtain ⟨oa1, c1, rfl, _, _, _⟩ := h1
  obtain ⟨oa2, c2, rfl, g1, g2, g3⟩ := h2
  have G3 := Lib.hid g3
  unfold maxLen at g2
  have B0 := Lib.hid ((((Below.refl _ w).alloc (Nat.le_refl _) (.cells (planL p).toArray 41)).alloc (by simp) (.cells (idL a).toArray 45)).alloc (by simp; omega) (.cells (idL b).toArray 45))
  have P0 : Hid (obj (((w.alloc (.cells (planL p).toArray 41)).alloc (.cells (idL a).toArray 45)).alloc (.cells (idL b).toArray 45)) w.heap.size = some (.cells (planL p).toArray 41 (0, 0))) := Lib.hid (by simp [go_sem])
  have A0 : Hid (obj (((w.alloc (.cells (planL p).toArray 41)).alloc (.cells (idL a).toArray 45)).alloc (.cells (idL b).toArray 45)) (w.heap.size + 1) = some (.cells (idL a).toArray 45 (0, 0))) := Lib.hid (by simp [go_sem])
  have I0 : Hid (obj (((w.alloc (.cells (planL p).toArray 41)).alloc (.cells (idL a).toArray 45)).alloc (.cells (idL b).toArray 45)) (w.heap.size + 2) = some (.cells (idL b).toArray 45 (0, 0))) := Lib.hid (by simp [go_sem])
  clear hx hy hv hn hbl hsz g3
  go_enter Try.func9, Try.ntmps9
  go_wp2_with fail
  have hz0 : (((w.alloc (.cells (planL p).toArray 41)).alloc (.cells (idL a).toArray 45)).alloc (.cells (idL b).toArray 45)).heap.size = w.heap.size + 1 + 1 + 1 := by simp
  generalize ((w.alloc (.cells (planL p).toArray 41)).alloc (.cells (idL a).toArray 45)).alloc (.cells (idL b).toArray 45) = w0 at *
  have b1 : Below w0.heap.size w0 (w0.alloc (.cells #[.slice oa1 xs.length c1, .slice oa2 ys.length c2] 22)) := (Below.refl _ w0).alloc (Nat.le_refl _) _
  have B1 := Lib.hid (B0.out.trans (b1.mono B0.out.size))
  have P1 := Lib.hid ((obj_below b1 (lt_of_obj P0.out)).trans P0.out)
  have A1 := Lib.hid ((obj_below b1 (lt_of_obj A0.out)).trans A0.out)
  have I1 := Lib.hid ((obj_below b1 (lt_of_obj I0.out)).trans I0.out)
  have HC := Lib.hid (concat_any _ (w.heap.size + 1 + 1 + 1) _ _ xs ys (obj_alloc_at _ _ _ hz0.symm : obj (w0.alloc (.cells #[.slice oa1 xs.length c1, .slice oa2 ys.length c2] 22)) (w.heap.size + 1 + 1 + 1) = _) (HX.out.below B1.out) (HYS.out.below B1.out) HSZ.out)
  clear b1 B0 P0 A0 I0 hz0
  generalize w0.alloc (.cells #[.slice oa1 xs.length c1, .slice oa2 ys.length c2] 22) = w1 at *
  refine HC.out.mono ?_
  rintro e w2 ⟨v3, rfl, o3, b2⟩
  rw [← HZ.out] at o3
  have B2 := Lib.hid (B1.out.trans (b2.mono B1.out.size))
  have P2 := Lib.hid ((obj_below b2 (lt_of_obj P1.out)).trans P1.out)
  have A2 := Lib.hid ((obj_below b2 (lt_of_obj A1.out)).trans A1.out)
  have I2 := Lib.hid ((obj_below b2 (lt_of_obj I1.out)).trans I1.out)
  have hs3 := o3.slIn factL_length
  have HXA := Lib.hid hs3
  obtain ⟨oa3, c3, rfl, _, _, _⟩ := hs3
  clear b2 B1 P1 A1 I1 HC o3
  go_wp2_with fail
  refine (HBG _).out.mono ?_
  rintro e w3 ⟨rfl, b3⟩
  have HXB := Lib.hid (HXA.out.below b3)
  have B3 := Lib.hid (B2.out.trans (b3.mono B2.out.size))
  have P3 := Lib.hid ((obj_below b3 (lt_of_obj P2.out)).trans P2.out)
  have A3 := Lib.hid ((obj_below b3 (lt_of_obj A2.out)).trans A2.out)
  have I3 := Lib.hid ((obj_below b3 (lt_of_obj I2.out)).trans I2.out)
  have HF := Lib.hid (few_any w3 _ zs p vs HXB.out (HV.out.below B3.out) HXY.out HNB.out.2 HNB.out.1)
  have sp3 : subOf (obj w3 w.heap.size) 0 32 = some (planL p).toArray := by rw [P3.out, subOf_cells (by simp), subA_all (by simp)]
  have hlt3 : w.heap.size < w3.heap.size := lt_of_obj P3.out
  clear b3 B2 P2 A2 I2 HXA
  go_wp2_with fail
  refine HF.out.mono ?_
  rintro e w4 ⟨rfl, b4⟩
  have HXC := Lib.hid (HXB.out.below b4)
  have B4 := Lib.hid (B3.out.trans (b4.mono B3.out.size))
  have P4 := Lib.hid ((obj_below b4 (lt_of_obj P3.out)).trans P3.out)
  have A4 := Lib.hid ((obj_below b4 (lt_of_obj A3.out)).trans A3.out)
  have I4 := Lib.hid ((obj_below b4 (lt_of_obj I3.out)).trans I3.out)
  clear b4 B3 P3 A3 I3 HXB HF sp3 hlt3
  by_cases hf : fewB zs p vs = true
  · have HLN : Hid (xs.length + ys.length ≤ 60) := Lib.hid (by have := few_len2 hf; have := HZL.out; omega)
    rw [hf]
    clear hf HBG
    have L1 := Lib.hid (line_any w4 _ xs nd (HX.out.below B4.out) (by have := HLN.out; omega))
    go_wp2_with fail
    refine L1.out.mono ?_
    rintro e w5 ⟨v5, rfl, o5, b5⟩
    have HXD := Lib.hid (HXC.out.below b5)
    have B5 := Lib.hid (B4.out.trans (b5.mono B4.out.size))
    have P5 := Lib.hid ((obj_below b5 (lt_of_obj P4.out)).trans P4.out)
    have A5 := Lib.hid ((obj_below b5 (lt_of_obj A4.out)).trans A4.out)
    have I5 := Lib.hid ((obj_below b5 (lt_of_obj I4.out)).trans I4.out)
    have s5 := o5.slIn idL_length
    have L2 := Lib.hid (line_any w5 _ zs nd HXD.out (by have := HLN.out; have := HZL.out; omega))
    clear b5 B4 P4 A4 I4 HXC L1 o5
    obtain ⟨oa5, c5, rfl, _, hm5, _⟩ := id s5
    have S5 := Lib.hid s5
    clear s5
    go_wp2_with fail
    refine L2.out.mono ?_
    rintro e w6 ⟨v6, rfl, o6, b6⟩
    have HXE := Lib.hid (HXD.out.below b6)
    have S5' := Lib.hid (S5.out.below b6)
    have B6 := Lib.hid (B5.out.trans (b6.mono B5.out.size))
    have P6 := Lib.hid ((obj_below b6 (lt_of_obj P5.out)).trans P5.out)
    have A6 := Lib.hid ((obj_below b6 (lt_of_obj A5.out)).trans A5.out)
    have I6 := Lib.hid ((obj_below b6 (lt_of_obj I5.out)).trans I5.out)
    have s6 := o6.slIn idL_length
    clear b6 B5 P5 A5 I5 HXD L2 o6 S5
    obtain ⟨oa6, c6, rfl, hc6, hm6, _⟩ := id s6
    have hle : (lineM xs nd).length ≤ (lineM zs nd).length := by rw [HZ.out, lineM_append, List.length_append]; omega
    have s6' := SlIn.take s6 hle
    have htk : (lineM zs nd).take (lineM xs nd).length = lineM xs nd := by rw [HZ.out, lineM_append]; exact List.take_left' rfl
    rw [htk] at s6'
    have E6 := Lib.hid (equal_any w6 _ _ _ _ s6' S5'.out)
    rw [decide_eq_true rfl] at E6
    have U6 := fun W (hW : Below w6.heap.size w6 W) => Lib.hid (judge_under_any W _ xs a b (HX.out.below (B6.out.trans (hW.mono B6.out.size))) (by have := HLN.out; omega))
    have U7 := fun W (hW : Below w6.heap.size w6 W) => Lib.hid (judge_under_any W _ zs a b (HXE.out.below hW) (by have := HLN.out; have := HZL.out; omega))
    have HU : Hid (underM xs a b = true → underM zs a b = true) := Lib.hid (by rw [HZ.out]; exact under_more ys)
    generalize hlx : (lineM xs nd).length = lx at *
    generalize hly : (lineM zs nd).length = ly at *
    unfold maxLen at hm5 hm6
    have dl : decide ((ly : Int) < (lx : Int)) = false := by simp; omega
    generalize underM xs a b = t1 at *
    generalize underM zs a b = t2 at *
    clear s6 s6' htk hlx hly S5'
    go_wp2_with fail
    refine E6.out.mono ?_
    rintro e w7 ⟨rfl, b7⟩
    have B7 := Lib.hid b7
    have A7 := Lib.hid ((obj_below b7 (lt_of_obj A6.out)).trans A6.out)
    have I7 := Lib.hid ((obj_below b7 (lt_of_obj I6.out)).trans I6.out)
    have za := lt_of_obj A7.out
    have zb := lt_of_obj I7.out
    have sa : subOf (obj w7 (w.heap.size + 1)) 0 32 = some (idL a).toArray := by rw [A7.out, subOf_cells (by simp), subA_all (by simp)]
    have sb : subOf (obj w7 (w.heap.size + 2)) 0 32 = some (idL b).toArray := by rw [I7.out, subOf_cells (by simp), subA_all (by simp)]
    clear b7 E6
    cases t1
    · go_wp2_with fail
      refine (U6 _ B7.out).out.mono ?_
      rintro e w8 ⟨rfl, b8⟩
      have HBW := Lib.hid (B7.out.trans (b8.mono B7.out.size))
      clear b8 sa sb za zb U7 U6
      have HXZ := Lib.hid (HXE.out.below HBW.out)
      have BZ := Lib.hid (B6.out.trans (HBW.out.mono B6.out.size))
      have PZ := Lib.hid ((obj_below HBW.out (lt_of_obj P6.out)).trans P6.out)
      go_wp2
      go_loopw [68] (fun v68 wr => ∃ k : Nat, k ≤ ys.length ∧ v68 = .int .i64 k ∧ Hid (∀ j (h : j < ys.length), j < k → ¬ ys[j].kind = 1) ∧ Hid (Below w8.heap.size w8 wr)) (fun i _ => ys.length - (intOf i).toNat)
      case atStart => exact ⟨0, Nat.zero_le _, rfl, Lib.hid (by omega), Lib.hid (Below.refl _ _)⟩
      case round =>
        obtain ⟨k, hk, rfl, HK, HB⟩ := hrel
        have hzk := HB.out.size
        by_cases hlt : k < ys.length
        · obtain ⟨b, off, hoa, hbb, hrow⟩ := G3.out (by omega)
          subst hoa
          have hsub := hrow k hlt
          have hbz : b < w8.heap.size := Nat.lt_of_lt_of_le hbb BZ.out.size
          have hob : obj wr b = obj w b := (obj_below HB.out hbz).trans (obj_below BZ.out hbb)
          have hbr : b < wr.heap.size := by omega
          rw [← hob] at hsub
          have NX : Hid (¬ ys[k].kind = 1 → ∀ j (h : j < ys.length), j < k + 1 → ¬ ys[j].kind = 1) := Lib.hid (fun h j h1 h2 => by
            by_cases e : j = k
            · subst e; exact h
            · exact HK.out j h1 (by omega))
          have HB2 := Lib.hid (HB.out.alloc hzk (.cells (factL ys[k]).toArray 54))
          have HBX := Lib.hid (BZ.out.trans (HB2.out.mono BZ.out.size))
          generalize ys[k] = x at *
          clear hrow hob
          by_cases hk1 : x.kind = 1
          · go_wp2
            go_ret
            exact ⟨rfl, HBX.out⟩
          · have hk2 : (x.kind == 1) = false := by simpa using hk1
            go_wp2
            go_roundw
            case rel => exact ⟨k + 1, by omega, by go_num, Lib.hid (NX.out hk1), HB2⟩
            case measure => simp [intOf]; omega
        · have hk' : k = ys.length := by omega
          subst hk'
          have HNO : Hid (∀ y ∈ ys, ¬ y.kind = 1) := Lib.hid (fun y hy => by
            obtain ⟨j, hj, rfl⟩ := List.getElem_of_mem hy
            exact HK.out j hj hj)
          have BR := Lib.hid (BZ.out.trans (HB.out.mono BZ.out.size))
          have HXR := Lib.hid (HXZ.out.below HB.out)
          have PR := Lib.hid ((obj_below HB.out (lt_of_obj PZ.out)).trans PZ.out)
          have HM := Lib.hid (wins_more (xs := xs) HNO.out p.beta)
          have HAL := Lib.hid (agree_less (xs := xs) HNO.out)
          rw [← HZ.out] at HM HAL
          have W1 := Lib.hid (fun W (hW : Below wr.heap.size wr W) => windows_any W p _ xs (HX.out.below (BR.out.trans (hW.mono BR.out.size))) (by have := HLN.out; omega))
          have W2 := Lib.hid (fun W (hW : Below wr.heap.size wr W) => windows_any W p _ zs (HXR.out.below hW) (by have := HLN.out; have := HZL.out; omega))
          have AG1 := Lib.hid (fun W (hW : Below wr.heap.size wr W) => agree_any W _ xs (HX.out.below (BR.out.trans (hW.mono BR.out.size))) (by have := HLN.out; omega))
          have AG2 := Lib.hid (fun W (hW : Below wr.heap.size wr W) => agree_any W _ zs (HXR.out.below hW) (by have := HLN.out; have := HZL.out; omega))
          have y41 : ∀ W', Below wr.heap.size wr W' → (loadAgg 41 ⟨w.heap.size, 0, none⟩).run Try.prog W' = .ok (.agg (planL p).toArray) W' := fun W' hW => by
            rw [run_load41, (obj_below hW (lt_of_obj PR.out)).trans PR.out, subOf_cells (by simp), subA_all (by simp)]
            rfl
          clear HK HB hzk HNO PR PZ HXZ BZ G3
          go_wp2
          refine wp_region_held_drew (S := fun W' => Below wr.heap.size wr W') (by kernel_rfl) (Below.refl _ wr).drew (fun hS => ?_)
          refine wpAnyH_take (i := 0) (oi := { dst := some 76, op := Op.load 41 (Operand.tmp 6), type := 41, pos := _, after := _, guard := none }) (v := (.agg (planL p).toArray)) rfl (by kernel_rfl) (by kernel_rfl) (by kernel_rfl) (fun _ _ _ h => h) (yieldsIf_agg (by kernel_rfl) 41 (.tmp 6) (by kernel_rfl) (w.heap.size) 0 (by kernel_rfl) y41) hS ?_
          try simp only [Act.put, List.setIfInBounds_toArray, List.set_cons_zero, List.set_cons_succ]
          refine wpAnyH_take (i := 1) (oi := { dst := some 77, op := Op.move (Operand.tmp 1), type := 22, pos := _, after := _, guard := none }) (v := (.slice oa1 xs.length c1)) rfl (by kernel_rfl) (by kernel_rfl) (by kernel_rfl) (fun _ _ _ h => h) (yieldsIf_move' (by kernel_rfl) (.tmp 1) (by kernel_rfl) (by kernel_rfl)) hS ?_
          try simp only [Act.put, List.setIfInBounds_toArray, List.set_cons_zero, List.set_cons_succ]
          refine wpAnyH_take (i := 3) (oi := { dst := some 79, op := Op.load 41 (Operand.tmp 6), type := 41, pos := _, after := _, guard := none }) (v := (.agg (planL p).toArray)) rfl (by kernel_rfl) (by kernel_rfl) (by kernel_rfl) (fun _ _ _ h => h) (yieldsIf_agg (by kernel_rfl) 41 (.tmp 6) (by kernel_rfl) (w.heap.size) 0 (by kernel_rfl) y41) hS ?_
          try simp only [Act.put, List.setIfInBounds_toArray, List.set_cons_zero, List.set_cons_succ]
          refine wpAnyH_take (i := 4) (oi := { dst := some 80, op := Op.move (Operand.tmp 13), type := 22, pos := _, after := _, guard := none }) (v := (.slice oa3 zs.length c3)) rfl (by kernel_rfl) (by kernel_rfl) (by kernel_rfl) (fun _ _ _ h => h) (yieldsIf_move' (by kernel_rfl) (.tmp 13) (by kernel_rfl) (by kernel_rfl)) hS ?_
          try simp only [Act.put, List.setIfInBounds_toArray, List.set_cons_zero, List.set_cons_succ]

          refine wpAnyH_ready (rs := [2]) (by kernel_rfl) (by simp) (AllReadyH.cons rfl (fun K hK => ?_) AllReadyH.nil)
          go_simp
          refine (W1.out _ hS).mono ?_
          rintro _ x1 ⟨v1, z1, rfl, o1, hm1, hb1⟩
          obtain ⟨ua, uc, rfl, _, hmu, _⟩ := id o1.sl.1
          refine hK.out _ _ (hS.trans (hb1.mono hS.size)) (fun hS1 => ?_)
          clear hK K
          try simp only [Act.put, List.setIfInBounds_toArray, List.set_cons_zero, List.set_cons_succ]
          refine wpAnyH_ready (rs := [5]) (by kernel_rfl) (by simp) (AllReadyH.cons rfl (fun K hK => ?_) AllReadyH.nil)
          go_simp
          refine (W2.out _ hS1).mono ?_
          rintro _ x2 ⟨v2, z2, rfl, o2, hm2, hb2⟩
          obtain ⟨va, vc, rfl, hcv, hmv, _⟩ := id o2.sl.1
          refine hK.out _ _ (hS1.trans (hb2.mono hS1.size)) (fun hS2 => ?_)
          clear hK K
          try simp only [Act.put, List.setIfInBounds_toArray, List.set_cons_zero, List.set_cons_succ]
          refine wpAnyH_take (i := 6) (oi := { dst := some 18, op := Op.assign (Operand.tmp 78), type := 70, pos := _, after := _, guard := none }) (v := (.slice ua z1.length uc)) rfl (by kernel_rfl) (by kernel_rfl) (by kernel_rfl) (fun _ _ _ h => h) (.inl ⟨by kernel_rfl, fun W' hW => by go_simp⟩) hS2 ?_
          try simp only [Act.put, List.setIfInBounds_toArray, List.set_cons_zero, List.set_cons_succ]
          refine wpAnyH_take (i := 7) (oi := { dst := some 19, op := Op.assign (Operand.tmp 81), type := 70, pos := _, after := _, guard := none }) (v := (.slice va z2.length vc)) rfl (by kernel_rfl) (by kernel_rfl) (by kernel_rfl) (fun _ _ _ h => h) (.inl ⟨by kernel_rfl, fun W' hW => by go_simp⟩) hS2 ?_
          try simp only [Act.put, List.setIfInBounds_toArray, List.set_cons_zero, List.set_cons_succ]
          refine wpAnyH_done (by kernel_rfl) ?_ _
          have hmx := HM.out
          rw [← hm1, ← hm2, List.length_map, ← List.map_take] at hmx
          have hle12 : z1.length ≤ z2.length := by
            have := congrArg List.length hmx
            rw [List.length_map, List.length_map, List.length_take] at this
            omega
          have s1 := (o1.sl.below hb2)
          have s2 := o2.sl
          have s2' : WinS x2 (.slice va z1.length vc) (z2.take z1.length) := ⟨SlIn.take s2.1 hle12, fun z hz => s2.2 z (List.mem_of_mem_take hz)⟩
          have SM := Lib.hid (same_any x2 _ _ _ _ s2' s1 hmx)
          have BX := Lib.hid (hS1.trans (hb2.mono hS1.size))
          have BRX := Lib.hid (BR.out.trans (BX.out.mono BR.out.size))
          have A1 := fun W (hW : Below x2.heap.size x2 W) => Lib.hid (AG1.out W (BX.out.trans (hW.mono BX.out.size)))
          have A2 := fun W (hW : Below x2.heap.size x2 W) => Lib.hid (AG2.out W (BX.out.trans (hW.mono BX.out.size)))
          generalize z1.length = n1 at *
          generalize z2.length = n2 at *
          unfold maxLen at hmu hmv
          have dge : decide ((n1 : Int) ≤ (n2 : Int)) = true := by simp; omega
          have HAL2 := HAL.out
          generalize agreeR xs = t3 at *
          generalize agreeR zs = t4 at *
          clear hS hS1 hS2 hb1 hb2 o1 o2 s1 s2 s2' hm1 hm2 hmx W1 W2 AG1 AG2 y41 HM HAL
          go_wp2_with fail
          refine SM.out.mono ?_
          rintro e x3 ⟨rfl, b3⟩
          have B3 := Lib.hid b3
          clear b3
          cases t3
          · obtain rfl : t4 = false := by
              cases t4
              · rfl
              · exact absurd (HAL2 rfl) (by simp)
            go_wp2_with fail
            refine (A1 _ B3.out).out.mono ?_
            rintro e x4 ⟨rfl, b4⟩
            have B4 := Lib.hid (B3.out.trans (b4.mono B3.out.size))
            clear b4
            go_wp2_with fail
            refine (A2 _ B4.out).out.mono ?_
            rintro e x5 ⟨rfl, b5⟩
            have B5 := Lib.hid (BRX.out.trans ((B4.out.trans (b5.mono B4.out.size)).mono BRX.out.size))
            clear b5
            go_wp2
            go_ret
            exact ⟨rfl, B5.out⟩
          · go_wp2_with fail
            refine (A1 _ B3.out).out.mono ?_
            rintro e x4 ⟨rfl, b4⟩
            have B4 := Lib.hid (BRX.out.trans ((B3.out.trans (b4.mono B3.out.size)).mono BRX.out.size))
            clear b4
            go_wp2
            go_ret
            exact ⟨rfl, B4.out⟩


    · obtain rfl : t2 = true := HU.out (by first | rfl | trivial)
      go_wp2_with fail
      refine (U6 _ B7.out).out.mono ?_
      rintro e w8 ⟨rfl, b8⟩
      have B8 := Lib.hid (B7.out.trans (b8.mono B7.out.size))
      have A8 := Lib.hid ((obj_below b8 (lt_of_obj A7.out)).trans A7.out)
      have I8 := Lib.hid ((obj_below b8 (lt_of_obj I7.out)).trans I7.out)
      clear za zb sa sb
      have za := lt_of_obj A8.out
      have zb := lt_of_obj I8.out
      have sa : subOf (obj w8 (w.heap.size + 1)) 0 32 = some (idL a).toArray := by rw [A8.out, subOf_cells (by simp), subA_all (by simp)]
      have sb : subOf (obj w8 (w.heap.size + 2)) 0 32 = some (idL b).toArray := by rw [I8.out, subOf_cells (by simp), subA_all (by simp)]
      clear b8
      go_wp2_with fail
      refine (U7 _ B8.out).out.mono ?_
      rintro e w9 ⟨rfl, b9⟩
      have HBW := Lib.hid (B8.out.trans (b9.mono B8.out.size))
      clear b9 sa sb za zb U7 U6
      have HXZ := Lib.hid (HXE.out.below HBW.out)
      have BZ := Lib.hid (B6.out.trans (HBW.out.mono B6.out.size))
      have PZ := Lib.hid ((obj_below HBW.out (lt_of_obj P6.out)).trans P6.out)
      go_wp2
      go_loopw [68] (fun v68 wr => ∃ k : Nat, k ≤ ys.length ∧ v68 = .int .i64 k ∧ Hid (∀ j (h : j < ys.length), j < k → ¬ ys[j].kind = 1) ∧ Hid (Below w9.heap.size w9 wr)) (fun i _ => ys.length - (intOf i).toNat)
      case atStart => exact ⟨0, Nat.zero_le _, rfl, Lib.hid (by omega), Lib.hid (Below.refl _ _)⟩
      case round =>
        obtain ⟨k, hk, rfl, HK, HB⟩ := hrel
        have hzk := HB.out.size
        by_cases hlt : k < ys.length
        · obtain ⟨b, off, hoa, hbb, hrow⟩ := G3.out (by omega)
          subst hoa
          have hsub := hrow k hlt
          have hbz : b < w9.heap.size := Nat.lt_of_lt_of_le hbb BZ.out.size
          have hob : obj wr b = obj w b := (obj_below HB.out hbz).trans (obj_below BZ.out hbb)
          have hbr : b < wr.heap.size := by omega
          rw [← hob] at hsub
          have NX : Hid (¬ ys[k].kind = 1 → ∀ j (h : j < ys.length), j < k + 1 → ¬ ys[j].kind = 1) := Lib.hid (fun h j h1 h2 => by
            by_cases e : j = k
            · subst e; exact h
            · exact HK.out j h1 (by omega))
          have HB2 := Lib.hid (HB.out.alloc hzk (.cells (factL ys[k]).toArray 54))
          have HBX := Lib.hid (BZ.out.trans (HB2.out.mono BZ.out.size))
          generalize ys[k] = x at *
          clear hrow hob
          by_cases hk1 : x.kind = 1
          · go_wp2
            go_ret
            exact ⟨rfl, HBX.out⟩
          · have hk2 : (x.kind == 1) = false := by simpa using hk1
            go_wp2
            go_roundw
            case rel => exact ⟨k + 1, by omega, by go_num, Lib.hid (NX.out hk1), HB2⟩
            case measure => simp [intOf]; omega
        · have hk' : k = ys.length := by omega
          subst hk'
          have HNO : Hid (∀ y ∈ ys, ¬ y.kind = 1) := Lib.hid (fun y hy => by
            obtain ⟨j, hj, rfl⟩ := List.getElem_of_mem hy
            exact HK.out j hj hj)
          have BR := Lib.hid (BZ.out.trans (HB.out.mono BZ.out.size))
          have HXR := Lib.hid (HXZ.out.below HB.out)
          have PR := Lib.hid ((obj_below HB.out (lt_of_obj PZ.out)).trans PZ.out)
          have HM := Lib.hid (wins_more (xs := xs) HNO.out p.beta)
          have HAL := Lib.hid (agree_less (xs := xs) HNO.out)
          rw [← HZ.out] at HM HAL
          have W1 := Lib.hid (fun W (hW : Below wr.heap.size wr W) => windows_any W p _ xs (HX.out.below (BR.out.trans (hW.mono BR.out.size))) (by have := HLN.out; omega))
          have W2 := Lib.hid (fun W (hW : Below wr.heap.size wr W) => windows_any W p _ zs (HXR.out.below hW) (by have := HLN.out; have := HZL.out; omega))
          have AG1 := Lib.hid (fun W (hW : Below wr.heap.size wr W) => agree_any W _ xs (HX.out.below (BR.out.trans (hW.mono BR.out.size))) (by have := HLN.out; omega))
          have AG2 := Lib.hid (fun W (hW : Below wr.heap.size wr W) => agree_any W _ zs (HXR.out.below hW) (by have := HLN.out; have := HZL.out; omega))
          have y41 : ∀ W', Below wr.heap.size wr W' → (loadAgg 41 ⟨w.heap.size, 0, none⟩).run Try.prog W' = .ok (.agg (planL p).toArray) W' := fun W' hW => by
            rw [run_load41, (obj_below hW (lt_of_obj PR.out)).trans PR.out, subOf_cells (by simp), subA_all (by simp)]
            rfl
          clear HK HB hzk HNO PR PZ HXZ BZ G3
          go_wp2
          refine wp_region_held_drew (S := fun W' => Below wr.heap.size wr W') (by kernel_rfl) (Below.refl _ wr).drew (fun hS => ?_)
          refine wpAnyH_take (i := 0) (oi := { dst := some 76, op := Op.load 41 (Operand.tmp 6), type := 41, pos := _, after := _, guard := none }) (v := (.agg (planL p).toArray)) rfl (by kernel_rfl) (by kernel_rfl) (by kernel_rfl) (fun _ _ _ h => h) (yieldsIf_agg (by kernel_rfl) 41 (.tmp 6) (by kernel_rfl) (w.heap.size) 0 (by kernel_rfl) y41) hS ?_
          try simp only [Act.put, List.setIfInBounds_toArray, List.set_cons_zero, List.set_cons_succ]
          refine wpAnyH_take (i := 1) (oi := { dst := some 77, op := Op.move (Operand.tmp 1), type := 22, pos := _, after := _, guard := none }) (v := (.slice oa1 xs.length c1)) rfl (by kernel_rfl) (by kernel_rfl) (by kernel_rfl) (fun _ _ _ h => h) (yieldsIf_move' (by kernel_rfl) (.tmp 1) (by kernel_rfl) (by kernel_rfl)) hS ?_
          try simp only [Act.put, List.setIfInBounds_toArray, List.set_cons_zero, List.set_cons_succ]
          refine wpAnyH_take (i := 3) (oi := { dst := some 79, op := Op.load 41 (Operand.tmp 6), type := 41, pos := _, after := _, guard := none }) (v := (.agg (planL p).toArray)) rfl (by kernel_rfl) (by kernel_rfl) (by kernel_rfl) (fun _ _ _ h => h) (yieldsIf_agg (by kernel_rfl) 41 (.tmp 6) (by kernel_rfl) (w.heap.size) 0 (by kernel_rfl) y41) hS ?_
          try simp only [Act.put, List.setIfInBounds_toArray, List.set_cons_zero, List.set_cons_succ]
          refine wpAnyH_take (i := 4) (oi := { dst := some 80, op := Op.move (Operand.tmp 13), type := 22, pos := _, after := _, guard := none }) (v := (.slice oa3 zs.length c3)) rfl (by kernel_rfl) (by kernel_rfl) (by kernel_rfl) (fun _ _ _ h => h) (yieldsIf_move' (by kernel_rfl) (.tmp 13) (by kernel_rfl) (by kernel_rfl)) hS ?_
          try simp only [Act.put, List.setIfInBounds_toArray, List.set_cons_zero, List.set_cons_succ]

          refine wpAnyH_ready (rs := [2]) (by kernel_rfl) (by simp) (AllReadyH.cons rfl (fun K hK => ?_) AllReadyH.nil)
          go_simp
          refine (W1.out _ hS).mono ?_
          rintro _ x1 ⟨v1, z1, rfl, o1, hm1, hb1⟩
          obtain ⟨ua, uc, rfl, _, hmu, _⟩ := id o1.sl.1
          refine hK.out _ _ (hS.trans (hb1.mono hS.size)) (fun hS1 => ?_)
          clear hK K
          try simp only [Act.put, List.setIfInBounds_toArray, List.set_cons_zero, List.set_cons_succ]
          refine wpAnyH_ready (rs := [5]) (by kernel_rfl) (by simp) (AllReadyH.cons rfl (fun K hK => ?_) AllReadyH.nil)
          go_simp
          refine (W2.out _ hS1).mono ?_
          rintro _ x2 ⟨v2, z2, rfl, o2, hm2, hb2⟩
          obtain ⟨va, vc, rfl, hcv, hmv, _⟩ := id o2.sl.1
          refine hK.out _ _ (hS1.trans (hb2.mono hS1.size)) (fun hS2 => ?_)
          clear hK K
          try simp only [Act.put, List.setIfInBounds_toArray, List.set_cons_zero, List.set_cons_succ]
          refine wpAnyH_take (i := 6) (oi := { dst := some 18, op := Op.assign (Operand.tmp 78), type := 70, pos := _, after := _, guard := none }) (v := (.slice ua z1.length uc)) rfl (by kernel_rfl) (by kernel_rfl) (by kernel_rfl) (fun _ _ _ h => h) (.inl ⟨by kernel_rfl, fun W' hW => by go_simp⟩) hS2 ?_
          try simp only [Act.put, List.setIfInBounds_toArray, List.set_cons_zero, List.set_cons_succ]
          refine wpAnyH_take (i := 7) (oi := { dst := some 19, op := Op.assign (Operand.tmp 81), type := 70, pos := _, after := _, guard := none }) (v := (.slice va z2.length vc)) rfl (by kernel_rfl) (by kernel_rfl) (by kernel_rfl) (fun _ _ _ h => h) (.inl ⟨by kernel_rfl, fun W' hW => by go_simp⟩) hS2 ?_
          try simp only [Act.put, List.setIfInBounds_toArray, List.set_cons_zero, List.set_cons_succ]
          refine wpAnyH_done (by kernel_rfl) ?_ _
          have hmx := HM.out
          rw [← hm1, ← hm2, List.length_map, ← List.map_take] at hmx
          have hle12 : z1.length ≤ z2.length := by
            have := congrArg List.length hmx
            rw [List.length_map, List.length_map, List.length_take] at this
            omega
          have s1 := (o1.sl.below hb2)
          have s2 := o2.sl
          have s2' : WinS x2 (.slice va z1.length vc) (z2.take z1.length) := ⟨SlIn.take s2.1 hle12, fun z hz => s2.2 z (List.mem_of_mem_take hz)⟩
          have SM := Lib.hid (same_any x2 _ _ _ _ s2' s1 hmx)
          have BX := Lib.hid (hS1.trans (hb2.mono hS1.size))
          have BRX := Lib.hid (BR.out.trans (BX.out.mono BR.out.size))
          have A1 := fun W (hW : Below x2.heap.size x2 W) => Lib.hid (AG1.out W (BX.out.trans (hW.mono BX.out.size)))
          have A2 := fun W (hW : Below x2.heap.size x2 W) => Lib.hid (AG2.out W (BX.out.trans (hW.mono BX.out.size)))
          generalize z1.length = n1 at *
          generalize z2.length = n2 at *
          unfold maxLen at hmu hmv
          have dge : decide ((n1 : Int) ≤ (n2 : Int)) = true := by simp; omega
          have HAL2 := HAL.out
          generalize agreeR xs = t3 at *
          generalize agreeR zs = t4 at *
          clear hS hS1 hS2 hb1 hb2 o1 o2 s1 s2 s2' hm1 hm2 hmx W1 W2 AG1 AG2 y41 HM HAL
          go_wp2_with fail
          refine SM.out.mono ?_
          rintro e x3 ⟨rfl, b3⟩
          have B3 := Lib.hid b3
          clear b3
          cases t3
          · obtain rfl : t4 = false := by
              cases t4
              · rfl
              · exact absurd (HAL2 rfl) (by simp)
            go_wp2_with fail
            refine (A1 _ B3.out).out.mono ?_
            rintro e x4 ⟨rfl, b4⟩
            have B4 := Lib.hid (B3.out.trans (b4.mono B3.out.size))
            clear b4
            go_wp2_with fail
            refine (A2 _ B4.out).out.mono ?_
            rintro e x5 ⟨rfl, b5⟩
            have B5 := Lib.hid (BRX.out.trans ((B4.out.trans (b5.mono B4.out.size)).mono BRX.out.size))
            clear b5
            go_wp2
            go_ret
            exact ⟨rfl, B5.out⟩
          · go_wp2_with fail
            refine (A1 _ B3.out).out.mono ?_
            rintro e x4 ⟨rfl, b4⟩
            have B4 := Lib.hid (BRX.out.trans ((B3.out.trans (b4.mono B3.out.size)).mono BRX.out.size))
            clear b4
            go_wp2
            go_ret
            exact ⟨rfl, B4.out⟩


  · rw [show fewB zs p vs = false by simpa using hf]
    go_wp2_with fail
    refine (HBG _).out.mono ?_
    rintro e w5 ⟨rfl, b5⟩
    have B5 := Lib.hid (B4.out.trans (b5.mono B4.out.size))
    clear b5
    go_wp2
    go_ret
    exact ⟨rfl, B5.out⟩
end Go.Proofs.Ytmenfbfekfljbaa
