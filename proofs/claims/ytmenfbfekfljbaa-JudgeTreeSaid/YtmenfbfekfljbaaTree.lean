import Derived.Test.YtmenfbfekfljbaaTold
import Derived.Test.YtmenfbfekfljbaaEqPair
import Derived.Test.YtmenfbfekfljbaaOrder
import Derived.Test.YtmenfbfekfljbaaPredF

namespace Go.Proofs.Ytmenfbfekfljbaa
open Go.RowKit

/-- the closure of JudgeTree: a block of this name -/
def blkB (a : ID) (x : FactD) : Bool := x.kind == 1 && decide (x.id = a)
theorem eg21 : ∀ args w, (callFunc 21 args).run Try.prog w = .ok (.enter 21 args) w := enters_of Try.func21 (by kernel_rfl) rfl
set_option maxRecDepth 100000 in
set_option maxHeartbeats 1000000 in
theorem blk_clo (w : World) (b : Nat) (y x : FactD) (h : obj w b = some (.cells (factL y).toArray 54 (0, 0))) :
    Calls Try.prog 21 #[.agg (factL x).toArray, .pointer (some ⟨b, 0, none⟩)] w fun e w' => e = .returned (.bool (blkB y.id x)) ∧ Below w.heap.size w w' := by
  have hb := lt_of_obj h
  have HB : Hid (blkB y.id x = (x.kind == 1 && decide (x.id = y.id))) := Lib.hid rfl
  cases h2 : x.kind == 1
  · go_enter Try.func21, Try.ntmps21
    go_wp2
    go_ret
    exact ⟨ret_bool (by rw [HB.out, h2]; rfl), (Below.refl _ w).alloc (Nat.le_refl _) _⟩
  · go_enter Try.func21, Try.ntmps21
    go_wp2
    go_ret
    exact ⟨ret_bool (by rw [HB.out, h2]; rfl), (Below.refl _ w).alloc (Nat.le_refl _) _⟩
theorem any_blkB (xs : List FactD) (a : ID) : xs.any (blkB a) = decide (a ∈ blkIds xs) := by
  rw [Bool.eq_iff_iff, decide_eq_true_iff, mem_blkIds, List.any_eq_true]
  simp [blkB]
def wantK (xs : List FactD) (k : Nat) : List (ID × ID) := (blkIds (xs.take k)).map fun a => (a, (parM xs a).getD ID.zero)
theorem wantK_all (xs : List FactD) : wantK xs xs.length = blkPairs xs := by
  unfold wantK blkPairs
  rw [List.take_length]
theorem wantK_hit {xs : List FactD} {k : Nat} (h : k < xs.length) (h1 : (xs[k].kind == 1) = true) (h2 : (xs.take k).any (blkB xs[k].id) = false) : wantK xs (k + 1) = wantK xs k ++ [(xs[k].id, (parM xs xs[k].id).getD ID.zero)] := by
  unfold wantK
  rw [blkIds_succ h, idsStep, h1, ← any_blkB, h2]
  simp
theorem wantK_miss {xs : List FactD} {k : Nat} (h : k < xs.length) (h1 : (xs[k].kind == 1 && !(xs.take k).any (blkB xs[k].id)) = false) : wantK xs (k + 1) = wantK xs k := by
  unfold wantK
  rw [blkIds_succ h, idsStep, ← any_blkB, h1]
  simp
theorem wantK_length (xs : List FactD) (k : Nat) : (wantK xs k).length ≤ k := by
  unfold wantK
  rw [List.length_map]
  exact Nat.le_trans (blkIds_length _) (List.length_take_le _ _)

theorem yieldsIf_move' {P : Program} {ops : Array Oper} {S : World → Prop} {op : Oper} {a : Act} {v : Value} (hw : Region.wanted op (yielded ops a.tmps) = true) (x : Operand) (ho : op.op = .move x) (hv : a.eval x = v) : YieldsIf P ops S op v a :=
  hv ▸ yieldsIf_move hw x ho
set_option maxRecDepth 100000 in
set_option maxHeartbeats 4000000 in
theorem tree_any (w : World) (v : Value) (xs : List FactD) (a b : ID) (h : SlIn w v 72 factL xs) (hw1 : ∀ x ∈ xs, x.slots.len ≤ maxLen ∧ x.votes.len ≤ maxLen) :
    Calls Try.prog 5 #[v, .agg (idL a).toArray, .agg (idL b).toArray] w fun e w' => e = .returned (.bool true) ∧ Below w.heap.size w w' := by
  have HF := Lib.hid fun W (hW : Below w.heap.size w W) => few_zero W v xs (h.below hW) hw1
  have HL := Lib.hid fun (hh : fewB xs PlanD.zero [] = true) => few_len hh
  have HS := Lib.hid h
  obtain ⟨oa, cap, rfl⟩ := h.len
  clear h hw1
  generalize fewB xs PlanD.zero [] = fw at *
  have bw : Below w.heap.size w ((w.alloc (.cells (idL a).toArray 45)).alloc (.cells (idL b).toArray 45)) := ((Below.refl _ w).alloc (Nat.le_refl _) _).alloc (by simp) _
  have pa : obj ((w.alloc (.cells (idL a).toArray 45)).alloc (.cells (idL b).toArray 45)) w.heap.size = some (.cells (idL a).toArray 45 (0, 0)) := by simp [go_sem]
  have pb : obj ((w.alloc (.cells (idL a).toArray 45)).alloc (.cells (idL b).toArray 45)) (w.heap.size + 1) = some (.cells (idL b).toArray 45 (0, 0)) := by simp [go_sem]
  have hmf : ∀ (fn : Fn) (first cap : Array Value) (w : World), (Instr.makeFunc fn first cap).run Try.prog w = .ok (.func fn first cap) w := fun _ _ _ _ => rfl
  go_enter Try.func5, Try.ntmps5
  go_wp2_with fail
  generalize (w.alloc (.cells (idL a).toArray 45)).alloc (.cells (idL b).toArray 45) = w0 at *
  have hsz := bw.size
  have za := lt_of_obj pa
  have zb := lt_of_obj pb
  refine (begun_any _).mono ?_
  rintro e w1 ⟨rfl, h1⟩
  go_wp2_with fail
  refine (HF.out _ (bw.trans (h1.mono hsz))).mono ?_
  rintro e w2 ⟨rfl, h2⟩
  replace h2 := h1.trans (h2.mono h1.size)
  clear h1
  cases fw
  · go_wp2_with fail
    refine (begun_any _).mono ?_
    rintro e w3 ⟨rfl, h3⟩
    replace h3 := h2.trans (h3.mono h2.size)
    go_wp2
    go_ret
    exact ⟨rfl, bw.trans (h3.mono hsz)⟩
  · have hl : xs.length ≤ 1000 := by have := HL.out (by first | rfl | trivial); omega
    have B2 := Lib.hid (bw.trans (h2.mono hsz))
    have PA := Lib.hid ((obj_below h2 za).trans pa)
    have PB := Lib.hid ((obj_below h2 zb).trans pb)
    clear pa pb za zb h2 bw
    go_wp2_with fail
    go_loopw [7, 23] (fun v7 v23 wr => ∃ k : Nat, k ≤ xs.length ∧ v23 = .int .i64 k ∧ Hid (OwnS wr w2.heap.size 59 64 pairL v7 (wantK xs k)) ∧ Below w2.heap.size w2 wr) (fun _ i _ => xs.length - (intOf i).toNat)
    case atStart => exact ⟨0, Nat.zero_le _, rfl, Lib.hid (OwnS.nil _ _ _ _ _), Below.refl _ _⟩
    case round =>
      obtain ⟨k, hk, rfl, HO, hb⟩ := hrel
      have hz := hb.size
      have hbw := B2.out.trans (hb.mono B2.out.size)
      have hzw := hbw.size
      by_cases hlt : k < xs.length
      · obtain ⟨oa', cap', e', q1', q2', q3'⟩ := HS.out
        simp only [Value.slice.injEq] at e'
        obtain ⟨rfl, _, rfl⟩ := e'
        obtain ⟨bb, off, hoa, hbb, hrow⟩ := q3' (by omega)
        subst hoa
        have hsub := hrow k hlt
        unfold maxLen at q2'
        have hob : obj wr bb = obj w bb := obj_below hbw hbb
        have hbr : bb < wr.heap.size := by omega
        have HM1 := Lib.hid (wantK_hit hlt)
        have HM2 := Lib.hid (wantK_miss hlt)
        have HLW := Lib.hid (wantK_length xs k)
        have HPC := Lib.hid fun W (hW : Below w.heap.size w W) => ref_parent_any' W _ xs xs[k].id (HS.out.below hW) hl
        have HCF := Lib.hid fun W (hW : Below w.heap.size w W) bx (ho : obj W bx = some (.cells (factL xs[k]).toArray 54 (0, 0))) => containsFunc_fact W _ (xs.take k) 21 #[.pointer (some ⟨bx, 0, none⟩)] (blkB xs[k].id) eg21 (fun W' y hb => blk_clo W' bx xs[k] y ((obj_below hb (lt_of_obj ho)).trans ho)) ((HS.out.take hk).below hW)
        generalize xs[k] = x at *
        generalize (xs.take k).any (blkB x.id) = r at *
        generalize parM xs x.id = px at *
        clear hrow q3'
        have b3 := hbw.alloc hzw (.cells (factL x).toArray 54)
        have f3 : obj (wr.alloc (.cells (factL x).toArray 54)) wr.heap.size = some (.cells (factL x).toArray 54 (0, 0)) := obj_alloc_at _ _ _ rfl
        have OW3 := Lib.hid (HO.out.alloc (.cells (factL x).toArray 54))
        have bs3 := hb.alloc hz (.cells (factL x).toArray 54)
        have hz3' := b3.size
        have hsz3 : (wr.alloc (.cells (factL x).toArray 54)).heap.size = wr.heap.size + 1 := by simp
        go_wp2_with fail
        generalize wr.alloc (.cells (factL x).toArray 54) = w3 at *
        generalize wr.heap.size = bx at *
        refine (HPC.out _ b3).mono ?_
        rintro e w4 ⟨rfl, hb4⟩
        have OW4 := Lib.hid (OW3.out.below hb4)
        have zf3 := lt_of_obj f3
        have f4 := (obj_below hb4 zf3).trans f3
        have zf4 := lt_of_obj f4
        have ck4 : w4.cell? ⟨bx, 1, none⟩ = some (.int .i64 x.kind) := (cell_at f4 1).trans (by simp [factL])
        have b4 := b3.trans (hb4.mono hz3')
        have bs4 := bs3.trans (hb4.mono bs3.size)
        have hz4 := b4.size
        generalize px.getD ID.zero = pp at *
        generalize px.isSome = pb' at *
        clear hb4 f3 b3 bs3 OW3
        have b5 := b4.alloc hz4 (.cells (idL pp).toArray 45)
        have f5 : obj (w4.alloc (.cells (idL pp).toArray 45)) bx = some (.cells (factL x).toArray 54 (0, 0)) := (obj_alloc_past _ _ _ zf4).trans f4
        have g5 : obj (w4.alloc (.cells (idL pp).toArray 45)) w4.heap.size = some (.cells (idL pp).toArray 45 (0, 0)) := obj_alloc_at _ _ _ rfl
        have OW5 := Lib.hid (OW4.out.alloc (.cells (idL pp).toArray 45))
        have bs5 := bs4.alloc bs4.size (.cells (idL pp).toArray 45)
        have hz5 := b5.size
        have zf5 := lt_of_obj f5
        have zg5 := lt_of_obj g5
        cases hk1 : x.kind == 1
        · have HE := Lib.hid (HM2.out (by rw [hk1]; rfl))
          go_wp2
          go_roundw
          case rel => exact ⟨k + 1, by omega, by go_num, Lib.hid (by rw [HE.out]; exact OW5.out), bs5⟩
          case measure => simp [intOf]; omega
        · have HC6 := Lib.hid (HCF.out _ b5 _ f5)
          have HM1' := Lib.hid (HM1.out hk1)
          have HM2' := Lib.hid HM2.out
          clear HCF HPC HM1 HM2
          go_wp2_with fail
          generalize w4.alloc (.cells (idL pp).toArray 45) = w5 at *
          refine HC6.out.mono ?_
          rintro e w6 ⟨rfl, hb6⟩
          have b6 := b5.trans (hb6.mono hz5)
          have bs6 := bs5.trans (hb6.mono bs5.size)
          have f6 := (obj_below hb6 zf5).trans f5
          have g6 := (obj_below hb6 zg5).trans g5
          have zf6 := lt_of_obj f6
          clear ck4
          have zg6 := lt_of_obj g6
          have OW6 := Lib.hid (OW5.out.below hb6)
          have hz6 := b6.size
          clear hb6
          cases r
          · have HE := Lib.hid (HM1'.out rfl)
            have hsv : ∃ oa cp, u7 = .slice oa (wantK xs k).length cp := by
              obtain ⟨oa, cp, e, _⟩ := OW6.out.slIn pairL_length
              exact ⟨oa, cp, e⟩
            obtain ⟨oa7, cp7, rfl⟩ := hsv
            go_wp2_with (at_builtin; refine push59 rfl _ _ rfl w2.heap.size _ (wantK xs k) (x.id, pp) rfl (OW6.out.alloc _) w6.heap.size rfl (obj_alloc_at _ _ _ rfl) (by have := HLW.out; omega) (by have := bs6.size; simp; omega) ?_; intro v' w7 hown7 hb7 hk7; obtain ⟨g7, cap7, rfl⟩ := hown7.snoc'; have OW7 := Lib.hid hown7; clear hown7)
            go_roundw
            case rel => exact ⟨k + 1, by omega, by go_num, Lib.hid (by rw [HE.out]; exact OW7.out), (bs6.alloc bs6.size _).trans hb7⟩
            case measure => simp [intOf]; omega
          · have HE := Lib.hid (HM2'.out (by rw [hk1]; rfl))
            go_wp2
            go_roundw
            case rel => exact ⟨k + 1, by omega, by go_num, Lib.hid (by rw [HE.out]; exact OW6.out), bs6⟩
            case measure => simp [intOf]; omega
      · have hk' : k = xs.length := by omega
        subst hk'
        rw [wantK_all] at HO
        go_wp2_with fail
        clear HF hmf HL hk hlt
        have hzb := B2.out.size
        have qa := (obj_below hb (lt_of_obj PA.out)).trans PA.out
        have qb := (obj_below hb (lt_of_obj PB.out)).trans PB.out
        have ya := lt_of_obj qa
        have yb := lt_of_obj qb
        clear PA PB hb
        have C24 := Lib.hid fun W (hW : Below wr.heap.size wr W) => blocks_any W _ xs (HS.out.below (hbw.trans (hW.mono hzw))) hl
        have C23 := Lib.hid fun ib ub m v w0 (W : World) most (hB : BlkAt w0 ib ub m v xs) (hb0 : Below w0.heap.size w0 W) => told_any w0 W ib ub m v xs most hB hb0 (by simp only [blkPairs, List.length_map]; exact Nat.le_trans (blkIds_length xs) hl)
        have C22 := Lib.hid fun W v1 v2 (h1 : SlIn W v1 64 pairL (blkPairs xs)) (h2 : SlIn W v2 64 pairL (blkPairs xs)) => equal_pairs W v1 v2 _ _ h1 h2
        have C17 := Lib.hid fun W (hW : Below wr.heap.size wr W) => judge_under_any W _ xs a b (HS.out.below (hbw.trans (hW.mono hzw))) hl
        have C25 := Lib.hid fun W (hW : Below wr.heap.size wr W) => ref_under_any W _ xs a b (HS.out.below (hbw.trans (hW.mono hzw))) hl
        have C18 := Lib.hid fun W (hW : Below wr.heap.size wr W) => judge_conflict_any W _ xs a b (HS.out.below (hbw.trans (hW.mono hzw))) hl
        have C26 := Lib.hid fun W (hW : Below wr.heap.size wr W) => ref_conflict_any W _ xs a b (HS.out.below (hbw.trans (hW.mono hzw))) hl
        have HTK := Lib.hid (show (blkPairs xs).take (1048576 : Int).toNat = blkPairs xs from List.take_of_length_le (by simp only [blkPairs, List.length_map]; exact Nat.le_trans (Nat.le_trans (blkIds_length xs) hl) (by decide)))
        obtain ⟨oa7, cp7, rfl⟩ : ∃ oa cp, u7 = .slice oa (blkPairs xs).length cp := by
          obtain ⟨oa, cp, e, _⟩ := HO.out.slIn pairL_length
          exact ⟨oa, cp, e⟩
        have y0 : ∀ W, Below wr.heap.size wr W → (loadAgg 45 ⟨w.heap.size, 0, none⟩).run Try.prog W = .ok (.agg (idL a).toArray) W := fun W hW => by
          have := (obj_below hW ya).trans qa
          simp [go_sem, this]
        have y1 : ∀ W, Below wr.heap.size wr W → (loadAgg 45 ⟨w.heap.size + 1, 0, none⟩).run Try.prog W = .ok (.agg (idL b).toArray) W := fun W hW => by
          have := (obj_below hW yb).trans qb
          simp [go_sem, this]
        refine wp_region_held_drew (S := fun W => Below wr.heap.size wr W) (by kernel_rfl) (Below.refl _ _).drew (fun hS => ?_)
        refine wpAnyH_take (i := 0) (oi := { dst := some 54, op := Op.move (Operand.tmp 0), type := 22, pos := _, after := _, guard := none }) (v := (.slice oa xs.length cap)) rfl (by kernel_rfl) (by kernel_rfl) (by kernel_rfl) (fun _ _ _ h => h) (yieldsIf_move' (by kernel_rfl) (.tmp 0) (by kernel_rfl) (by kernel_rfl)) hS ?_
        refine wpAnyH_take (i := 3) (oi := { dst := some 57, op := Op.move (Operand.tmp 7), type := 51, pos := _, after := _, guard := none }) (v := (.slice oa7 (blkPairs xs).length cp7)) rfl (by kernel_rfl) (by kernel_rfl) (by kernel_rfl) (fun _ _ _ h => h) (yieldsIf_move' (by kernel_rfl) (.tmp 7) (by kernel_rfl) (by kernel_rfl)) hS ?_
        try simp only [Act.put, List.setIfInBounds_toArray, List.set_cons_zero, List.set_cons_succ]
        refine wpAnyH_ready (rs := [1]) (by kernel_rfl) (by simp) (AllReadyH.cons rfl (fun K hK => ?_) AllReadyH.nil)
        go_simp
        refine (C24.out _ hS).mono ?_
        rintro _ x1 ⟨ib, ub, m, v, rfl, hB1, hb1x⟩
        refine hK.out _ _ (hS.trans (hb1x.mono hS.size)) (fun hS1 => ?_)
        clear hK K
        refine wpAnyH_ready (rs := [2]) (by kernel_rfl) (by simp) (AllReadyH.cons rfl (fun K hK => ?_) AllReadyH.nil)
        go_simp
        refine (C23.out ib ub m v _ _ 1048576 hB1 (Below.refl _ _)).mono ?_
        rintro _ x2 ⟨v1, rfl, o1, hb2x⟩
        refine hK.out _ _ (hS1.trans (hb2x.mono hS1.size)) (fun hS2 => ?_)
        clear hK K
        have hx1 := hS1.size
        have hx2 := hS2.size
        rw [HTK.out] at o1
        refine wpAnyH_ready (rs := [4]) (by kernel_rfl) (by simp) (AllReadyH.cons rfl (fun K hK => ?_) AllReadyH.nil)
        go_simp
        refine (C22.out _ _ _ (o1.slIn pairL_length) ((HO.out.below hS2).slIn pairL_length)).mono ?_
        rintro _ x3 ⟨rfl, hb3x⟩
        refine hK.out _ _ (hS2.trans (hb3x.mono hS2.size)) (fun hS3 => ?_)
        clear hK K
        rw [decide_eq_true rfl]
        clear hB1 o1 C22
        try simp only [Act.put, List.setIfInBounds_toArray, List.set_cons_zero, List.set_cons_succ]
        refine wpAnyH_take (i := 5) (oi := { dst := some 59, op := Op.move (Operand.tmp 58), type := 4, pos := _, after := _, guard := none }) (v := (.bool true)) rfl (by kernel_rfl) (by kernel_rfl) (by kernel_rfl) (fun _ _ _ h => h) (yieldsIf_move' (by kernel_rfl) (.tmp 58) (by kernel_rfl) (by kernel_rfl)) hS3 ?_
        try simp only [Act.put, List.setIfInBounds_toArray, List.set_cons_zero, List.set_cons_succ]
        refine wpAnyH_take (i := 6) (oi := { dst := some 60, op := Op.move (Operand.tmp 0), type := 22, pos := _, after := _, guard := some (5, true) }) (v := (.slice oa xs.length cap)) rfl (by kernel_rfl) (by kernel_rfl) (by kernel_rfl) (fun _ _ _ h => h) (yieldsIf_move' (by kernel_rfl) (.tmp 0) (by kernel_rfl) (by kernel_rfl)) hS3 ?_
        try simp only [Act.put, List.setIfInBounds_toArray, List.set_cons_zero, List.set_cons_succ]
        refine wpAnyH_take (i := 10) (oi := { dst := some 64, op := Op.move (Operand.tmp 7), type := 51, pos := _, after := _, guard := some (5, true) }) (v := (.slice oa7 (blkPairs xs).length cp7)) rfl (by kernel_rfl) (by kernel_rfl) (by kernel_rfl) (fun _ _ _ h => h) (yieldsIf_move' (by kernel_rfl) (.tmp 7) (by kernel_rfl) (by kernel_rfl)) hS3 ?_
        try simp only [Act.put, List.setIfInBounds_toArray, List.set_cons_zero, List.set_cons_succ]
        refine wpAnyH_take (i := 11) (oi := { dst := some 65, op := Op.call { callee := Callee.builtin Builtin.len, args := #[Operand.tmp 64], argTypes := #[51] }, type := 3, pos := _, after := _, guard := some (5, true) }) (v := (.int .i64 ((blkPairs xs).length : Int))) rfl (by kernel_rfl) (by kernel_rfl) (by kernel_rfl) (fun _ _ _ h => h) (.inl ⟨by kernel_rfl, fun W _ => by go_simp⟩) hS3 ?_
        try simp only [Act.put, List.setIfInBounds_toArray, List.set_cons_zero, List.set_cons_succ]
        refine wpAnyH_take (i := 12) (oi := { dst := some 66, op := Op.call { callee := Callee.builtin Builtin.min, args := #[Operand.const (Value.int IntKind.i64 1), Operand.tmp 65], argTypes := #[3, 3] }, type := 3, pos := _, after := _, guard := some (5, true) }) (v := (.int .i64 (if ((blkPairs xs).length : Int) < 1 then ((blkPairs xs).length : Int) else 1))) rfl (by kernel_rfl) (by kernel_rfl) (by kernel_rfl) (fun _ _ _ h => h) (.inl ⟨by kernel_rfl, fun W _ => by go_simp⟩) hS3 ?_
        try simp only [Act.put, List.setIfInBounds_toArray, List.set_cons_zero, List.set_cons_succ]
        refine wpAnyH_ready (rs := [7]) (by kernel_rfl) (by simp) (AllReadyH.cons rfl (fun K hK => ?_) AllReadyH.nil)
        go_simp
        refine (C24.out _ hS3).mono ?_
        rintro _ x4 ⟨ib2, ub2, m2, v2, rfl, hB2, hb4x⟩
        refine hK.out _ _ (hS3.trans (hb4x.mono hS3.size)) (fun hS4 => ?_)
        clear hK K
        refine wpAnyH_ready (rs := [8]) (by kernel_rfl) (by simp) (AllReadyH.cons rfl (fun K hK => ?_) AllReadyH.nil)
        go_simp
        refine (C23.out ib2 ub2 m2 v2 _ _ 1 hB2 (Below.refl _ _)).mono ?_
        rintro _ x5 ⟨v3, rfl, o2, hb5x⟩
        refine hK.out _ _ (hS4.trans (hb5x.mono hS4.size)) (fun hS5 => ?_)
        clear hK K
        obtain ⟨oa8, cp8, rfl⟩ : ∃ oa cp, v3 = .slice oa ((blkPairs xs).take 1).length cp := by
          obtain ⟨oa, cp, e, _⟩ := o2.slIn pairL_length
          exact ⟨oa, cp, e⟩
        clear o2 hB2 C24 C23
        try simp only [Act.put, List.setIfInBounds_toArray, List.set_cons_zero, List.set_cons_succ]
        refine wpAnyH_take (i := 9) (oi := { dst := some 63, op := Op.call { callee := Callee.builtin Builtin.len, args := #[Operand.tmp 62], argTypes := #[51] }, type := 3, pos := _, after := _, guard := some (5, true) }) (v := (.int .i64 (((blkPairs xs).take 1).length : Int))) rfl (by kernel_rfl) (by kernel_rfl) (by kernel_rfl) (fun _ _ _ h => h) (.inl ⟨by kernel_rfl, fun W _ => by go_simp⟩) hS5 ?_
        try simp only [Act.put, List.setIfInBounds_toArray, List.set_cons_zero, List.set_cons_succ]
        have hmin : (((((blkPairs xs).take 1).length : Nat) : Int) == if ((blkPairs xs).length : Int) < 1 then ((blkPairs xs).length : Int) else 1) = true := by rw [List.length_take, beq_iff_eq]; split <;> omega
        generalize ((((blkPairs xs).take 1).length : Nat) : Int) = n1 at *
        generalize (if ((blkPairs xs).length : Int) < 1 then ((blkPairs xs).length : Int) else 1) = n2 at *
        refine wpAnyH_take (i := 13) (oi := { dst := some 67, op := Op.binOp BinOp.eql 3 (Operand.tmp 63) (Operand.tmp 66) 3, type := 4, pos := _, after := _, guard := some (5, true) }) (v := (.bool true)) rfl (by kernel_rfl) (by kernel_rfl) (by kernel_rfl) (fun _ _ _ h => h) (.inl ⟨by kernel_rfl, fun W _ => by go_simp⟩) hS5 ?_
        try simp only [Act.put, List.setIfInBounds_toArray, List.set_cons_zero, List.set_cons_succ]
        refine wpAnyH_take (i := 14) (oi := { dst := some 68, op := Op.pick (Operand.tmp 59) (Operand.tmp 67) (Operand.const (Value.bool false)), type := 4, pos := _, after := _, guard := none }) (v := (.bool true)) rfl (by kernel_rfl) (by kernel_rfl) (by kernel_rfl) (fun _ _ _ h => h) (.inl ⟨by kernel_rfl, fun W _ => by go_simp⟩) hS5 ?_
        try simp only [Act.put, List.setIfInBounds_toArray, List.set_cons_zero, List.set_cons_succ]
        refine wpAnyH_take (i := 15) (oi := { dst := some 69, op := Op.move (Operand.tmp 68), type := 4, pos := _, after := _, guard := none }) (v := (.bool true)) rfl (by kernel_rfl) (by kernel_rfl) (by kernel_rfl) (fun _ _ _ h => h) (yieldsIf_move' (by kernel_rfl) (.tmp 68) (by kernel_rfl) (by kernel_rfl)) hS5 ?_
        try simp only [Act.put, List.setIfInBounds_toArray, List.set_cons_zero, List.set_cons_succ]
        refine wpAnyH_take (i := 16) (oi := { dst := some 70, op := Op.move (Operand.tmp 0), type := 22, pos := _, after := _, guard := some (15, true) }) (v := (.slice oa xs.length cap)) rfl (by kernel_rfl) (by kernel_rfl) (by kernel_rfl) (fun _ _ _ h => h) (yieldsIf_move' (by kernel_rfl) (.tmp 0) (by kernel_rfl) (by kernel_rfl)) hS5 ?_
        try simp only [Act.put, List.setIfInBounds_toArray, List.set_cons_zero, List.set_cons_succ]
        refine wpAnyH_take (i := 17) (oi := { dst := some 71, op := Op.load 45 (Operand.tmp 4), type := 45, pos := _, after := _, guard := some (15, true) }) (v := (.agg (idL a).toArray)) rfl (by kernel_rfl) (by kernel_rfl) (by kernel_rfl) (fun _ _ _ h => h) (yieldsIf_agg (by kernel_rfl) 45 (.tmp 4) (by kernel_rfl) w.heap.size 0 (by kernel_rfl) y0) hS5 ?_
        try simp only [Act.put, List.setIfInBounds_toArray, List.set_cons_zero, List.set_cons_succ]
        refine wpAnyH_take (i := 18) (oi := { dst := some 72, op := Op.load 45 (Operand.tmp 5), type := 45, pos := _, after := _, guard := some (15, true) }) (v := (.agg (idL b).toArray)) rfl (by kernel_rfl) (by kernel_rfl) (by kernel_rfl) (fun _ _ _ h => h) (yieldsIf_agg (by kernel_rfl) 45 (.tmp 5) (by kernel_rfl) (w.heap.size + 1) 0 (by kernel_rfl) y1) hS5 ?_
        try simp only [Act.put, List.setIfInBounds_toArray, List.set_cons_zero, List.set_cons_succ]
        refine wpAnyH_take (i := 20) (oi := { dst := some 74, op := Op.move (Operand.tmp 0), type := 22, pos := _, after := _, guard := some (15, true) }) (v := (.slice oa xs.length cap)) rfl (by kernel_rfl) (by kernel_rfl) (by kernel_rfl) (fun _ _ _ h => h) (yieldsIf_move' (by kernel_rfl) (.tmp 0) (by kernel_rfl) (by kernel_rfl)) hS5 ?_
        try simp only [Act.put, List.setIfInBounds_toArray, List.set_cons_zero, List.set_cons_succ]
        refine wpAnyH_take (i := 21) (oi := { dst := some 75, op := Op.load 45 (Operand.tmp 4), type := 45, pos := _, after := _, guard := some (15, true) }) (v := (.agg (idL a).toArray)) rfl (by kernel_rfl) (by kernel_rfl) (by kernel_rfl) (fun _ _ _ h => h) (yieldsIf_agg (by kernel_rfl) 45 (.tmp 4) (by kernel_rfl) w.heap.size 0 (by kernel_rfl) y0) hS5 ?_
        try simp only [Act.put, List.setIfInBounds_toArray, List.set_cons_zero, List.set_cons_succ]
        refine wpAnyH_take (i := 22) (oi := { dst := some 76, op := Op.load 45 (Operand.tmp 5), type := 45, pos := _, after := _, guard := some (15, true) }) (v := (.agg (idL b).toArray)) rfl (by kernel_rfl) (by kernel_rfl) (by kernel_rfl) (fun _ _ _ h => h) (yieldsIf_agg (by kernel_rfl) 45 (.tmp 5) (by kernel_rfl) (w.heap.size + 1) 0 (by kernel_rfl) y1) hS5 ?_
        try simp only [Act.put, List.setIfInBounds_toArray, List.set_cons_zero, List.set_cons_succ]
        refine wpAnyH_ready (rs := [19]) (by kernel_rfl) (by simp) (AllReadyH.cons rfl (fun K hK => ?_) AllReadyH.nil)
        go_simp
        refine (C17.out _ hS5).mono ?_
        rintro _ x6 ⟨rfl, hb6x⟩
        refine hK.out _ _ (hS5.trans (hb6x.mono hS5.size)) (fun hS6 => ?_)
        clear hK K
        refine wpAnyH_ready (rs := [23]) (by kernel_rfl) (by simp) (AllReadyH.cons rfl (fun K hK => ?_) AllReadyH.nil)
        go_simp
        refine (C25.out _ hS6).mono ?_
        rintro _ x7 ⟨rfl, hb7x⟩
        refine hK.out _ _ (hS6.trans (hb7x.mono hS6.size)) (fun hS7 => ?_)
        clear hK K
        clear C17 C25
        generalize underM xs a b = r1 at *
        try simp only [Act.put, List.setIfInBounds_toArray, List.set_cons_zero, List.set_cons_succ]
        refine wpAnyH_take (i := 24) (oi := { dst := some 78, op := Op.binOp BinOp.eql 4 (Operand.tmp 73) (Operand.tmp 77) 4, type := 4, pos := _, after := _, guard := some (15, true) }) (v := (.bool true)) rfl (by kernel_rfl) (by kernel_rfl) (by kernel_rfl) (fun _ _ _ h => h) (.inl ⟨by kernel_rfl, fun W _ => by go_simp⟩) hS7 ?_
        try simp only [Act.put, List.setIfInBounds_toArray, List.set_cons_zero, List.set_cons_succ]
        refine wpAnyH_take (i := 25) (oi := { dst := some 79, op := Op.pick (Operand.tmp 69) (Operand.tmp 78) (Operand.const (Value.bool false)), type := 4, pos := _, after := _, guard := none }) (v := (.bool true)) rfl (by kernel_rfl) (by kernel_rfl) (by kernel_rfl) (fun _ _ _ h => h) (.inl ⟨by kernel_rfl, fun W _ => by go_simp⟩) hS7 ?_
        try simp only [Act.put, List.setIfInBounds_toArray, List.set_cons_zero, List.set_cons_succ]
        refine wpAnyH_take (i := 26) (oi := { dst := some 80, op := Op.move (Operand.tmp 79), type := 4, pos := _, after := _, guard := none }) (v := (.bool true)) rfl (by kernel_rfl) (by kernel_rfl) (by kernel_rfl) (fun _ _ _ h => h) (yieldsIf_move' (by kernel_rfl) (.tmp 79) (by kernel_rfl) (by kernel_rfl)) hS7 ?_
        try simp only [Act.put, List.setIfInBounds_toArray, List.set_cons_zero, List.set_cons_succ]
        refine wpAnyH_take (i := 27) (oi := { dst := some 81, op := Op.move (Operand.tmp 0), type := 22, pos := _, after := _, guard := some (26, true) }) (v := (.slice oa xs.length cap)) rfl (by kernel_rfl) (by kernel_rfl) (by kernel_rfl) (fun _ _ _ h => h) (yieldsIf_move' (by kernel_rfl) (.tmp 0) (by kernel_rfl) (by kernel_rfl)) hS7 ?_
        try simp only [Act.put, List.setIfInBounds_toArray, List.set_cons_zero, List.set_cons_succ]
        refine wpAnyH_take (i := 28) (oi := { dst := some 82, op := Op.load 45 (Operand.tmp 4), type := 45, pos := _, after := _, guard := some (26, true) }) (v := (.agg (idL a).toArray)) rfl (by kernel_rfl) (by kernel_rfl) (by kernel_rfl) (fun _ _ _ h => h) (yieldsIf_agg (by kernel_rfl) 45 (.tmp 4) (by kernel_rfl) w.heap.size 0 (by kernel_rfl) y0) hS7 ?_
        try simp only [Act.put, List.setIfInBounds_toArray, List.set_cons_zero, List.set_cons_succ]
        refine wpAnyH_take (i := 29) (oi := { dst := some 83, op := Op.load 45 (Operand.tmp 5), type := 45, pos := _, after := _, guard := some (26, true) }) (v := (.agg (idL b).toArray)) rfl (by kernel_rfl) (by kernel_rfl) (by kernel_rfl) (fun _ _ _ h => h) (yieldsIf_agg (by kernel_rfl) 45 (.tmp 5) (by kernel_rfl) (w.heap.size + 1) 0 (by kernel_rfl) y1) hS7 ?_
        try simp only [Act.put, List.setIfInBounds_toArray, List.set_cons_zero, List.set_cons_succ]
        refine wpAnyH_take (i := 31) (oi := { dst := some 85, op := Op.move (Operand.tmp 0), type := 22, pos := _, after := _, guard := some (26, true) }) (v := (.slice oa xs.length cap)) rfl (by kernel_rfl) (by kernel_rfl) (by kernel_rfl) (fun _ _ _ h => h) (yieldsIf_move' (by kernel_rfl) (.tmp 0) (by kernel_rfl) (by kernel_rfl)) hS7 ?_
        try simp only [Act.put, List.setIfInBounds_toArray, List.set_cons_zero, List.set_cons_succ]
        refine wpAnyH_take (i := 32) (oi := { dst := some 86, op := Op.load 45 (Operand.tmp 4), type := 45, pos := _, after := _, guard := some (26, true) }) (v := (.agg (idL a).toArray)) rfl (by kernel_rfl) (by kernel_rfl) (by kernel_rfl) (fun _ _ _ h => h) (yieldsIf_agg (by kernel_rfl) 45 (.tmp 4) (by kernel_rfl) w.heap.size 0 (by kernel_rfl) y0) hS7 ?_
        try simp only [Act.put, List.setIfInBounds_toArray, List.set_cons_zero, List.set_cons_succ]
        refine wpAnyH_take (i := 33) (oi := { dst := some 87, op := Op.load 45 (Operand.tmp 5), type := 45, pos := _, after := _, guard := some (26, true) }) (v := (.agg (idL b).toArray)) rfl (by kernel_rfl) (by kernel_rfl) (by kernel_rfl) (fun _ _ _ h => h) (yieldsIf_agg (by kernel_rfl) 45 (.tmp 5) (by kernel_rfl) (w.heap.size + 1) 0 (by kernel_rfl) y1) hS7 ?_
        try simp only [Act.put, List.setIfInBounds_toArray, List.set_cons_zero, List.set_cons_succ]
        refine wpAnyH_ready (rs := [30]) (by kernel_rfl) (by simp) (AllReadyH.cons rfl (fun K hK => ?_) AllReadyH.nil)
        go_simp
        refine (C18.out _ hS7).mono ?_
        rintro _ x8 ⟨rfl, hb8x⟩
        refine hK.out _ _ (hS7.trans (hb8x.mono hS7.size)) (fun hS8 => ?_)
        clear hK K
        refine wpAnyH_ready (rs := [34]) (by kernel_rfl) (by simp) (AllReadyH.cons rfl (fun K hK => ?_) AllReadyH.nil)
        go_simp
        refine (C26.out _ hS8).mono ?_
        rintro _ x9 ⟨rfl, hb9x⟩
        refine hK.out _ _ (hS8.trans (hb9x.mono hS8.size)) (fun hS9 => ?_)
        clear hK K
        clear C18 C26
        generalize conflictR xs a b = r2 at *
        try simp only [Act.put, List.setIfInBounds_toArray, List.set_cons_zero, List.set_cons_succ]
        refine wpAnyH_take (i := 35) (oi := { dst := some 89, op := Op.binOp BinOp.eql 4 (Operand.tmp 84) (Operand.tmp 88) 4, type := 4, pos := _, after := _, guard := some (26, true) }) (v := (.bool true)) rfl (by kernel_rfl) (by kernel_rfl) (by kernel_rfl) (fun _ _ _ h => h) (.inl ⟨by kernel_rfl, fun W _ => by go_simp⟩) hS9 ?_
        try simp only [Act.put, List.setIfInBounds_toArray, List.set_cons_zero, List.set_cons_succ]
        refine wpAnyH_take (i := 36) (oi := { dst := some 90, op := Op.pick (Operand.tmp 80) (Operand.tmp 89) (Operand.const (Value.bool false)), type := 4, pos := _, after := _, guard := none }) (v := (.bool true)) rfl (by kernel_rfl) (by kernel_rfl) (by kernel_rfl) (fun _ _ _ h => h) (.inl ⟨by kernel_rfl, fun W _ => by go_simp⟩) hS9 ?_
        try simp only [Act.put, List.setIfInBounds_toArray, List.set_cons_zero, List.set_cons_succ]
        refine wpAnyH_take (i := 37) (oi := { dst := some 6, op := Op.assign (Operand.tmp 90), type := 4, pos := _, after := _, guard := none }) (v := (.bool true)) rfl (by kernel_rfl) (by kernel_rfl) (by kernel_rfl) (fun _ _ _ h => h) (.inl ⟨by kernel_rfl, fun W _ => by go_simp⟩) hS9 ?_
        try simp only [Act.put, List.setIfInBounds_toArray, List.set_cons_zero, List.set_cons_succ]
        refine wpAnyH_done (by kernel_rfl) ?_ _
        go_wp2
        go_ret
        exact ⟨rfl, hbw.trans (hS9.mono hzw)⟩
end Go.Proofs.Ytmenfbfekfljbaa
