import Derived.Test.YtmenfbfekfljbaaWindow
namespace Go.Proofs.Ytmenfbfekfljbaa
open Go.RowKit Go.Shelf

def PlanD.beta (p : PlanD) : Int := p.cfg[3]'(by rw [p.hcfg]; decide)
theorem planL_3 (p : PlanD) : (planL p)[3]? = some (.int .i64 p.beta) := by
  unfold planL PlanD.beta
  rw [List.getElem?_append_left (by simp [p.hcfg])]
  simp [p.hcfg]
/-- a window, told -/
structure WinM where
  node : Int
  id : ID
  move : Int
  vs : List (List Int)
def WinX.m (z : WinX) : WinM := ⟨z.w.node, z.w.id, z.w.move, z.vq.map (·.2)⟩
def wsel (xs : List FactD) (i : Nat) : Bool := match xs[i]? with | some x => x.kind == 8 && reignB x.node (xs.take i) | none => false
def winOf (xs : List FactD) (beta : Int) (i : Nat) : WinM := match xs[i]? with | some x => ⟨x.node, x.id, x.move, windowF xs beta (reignL x.node (xs.take i)) x⟩ | none => ⟨0, ID.zero, 0, []⟩
def winsK (xs : List FactD) (beta : Int) (k : Nat) : List WinM := ((List.range k).filter (wsel xs)).map (winOf xs beta)
theorem winsK_yes {xs : List FactD} {beta : Int} {k : Nat} (h : k < xs.length) (h1 : xs[k].kind = 8) (h2 : reignB xs[k].node (xs.take k) = true) : winsK xs beta (k + 1) = winsK xs beta k ++ [⟨xs[k].node, xs[k].id, xs[k].move, windowF xs beta (reignL xs[k].node (xs.take k)) xs[k]⟩] := by
  unfold winsK
  rw [List.range_succ, List.filter_append, List.map_append]
  have e : wsel xs k = true := by simp [wsel, h, h1, h2]
  simp [e, winOf, h]
theorem winsK_no {xs : List FactD} {beta : Int} {k : Nat} (h : k < xs.length) (h1 : ¬ xs[k].kind = 8 ∨ reignB xs[k].node (xs.take k) = false) : winsK xs beta (k + 1) = winsK xs beta k := by
  unfold winsK
  rw [List.range_succ, List.filter_append, List.map_append]
  have e : wsel xs k = false := by
    rcases h1 with h1 | h1
    · simp [wsel, h, h1]
    · simp [wsel, h, h1]
  simp [e]
theorem winsK_len (xs : List FactD) (beta : Int) (k : Nat) : (winsK xs beta k).length ≤ k := by
  unfold winsK
  rw [List.length_map]
  exact Nat.le_trans (List.length_filter_le _ _) (by simp)
theorem reignL_len (nd : Int) (xs : List FactD) : (reignL nd xs).length ≤ xs.length := by
  unfold reignL
  split
  · simp
  · simp
theorem push70 {ops : Array Oper} {rest : List Oper} {o : Oper} {a : Act} {w : World} {Q : Exit → Act → World → Prop} (hgd : o.guard = none) (s x : Operand) (ho : o.op = .call { callee := .builtin .append, args := #[s, x], argTypes := #[70, 70] })
    (base : Nat) (v : Value) (xs : List WinX) (y : WinX) (hs : a.eval s = v) (hown : OwnS w base 74 35 wxL v xs) (g : Nat) (hx : a.eval x = .slice (some ⟨g, 0, none⟩) 1 1) (hg : obj w g = some (.cells (wxL y).toArray 74 (0, 0)))
    (hlen : xs.length ≤ 1048576) (hbase : base ≤ w.heap.size)
    (h : ∀ v' w', OwnS w' base 74 35 wxL v' (xs ++ [y]) → Below base w w' → (∀ k, k < w.heap.size → v.ownBlock ≠ some k → obj w' k = obj w k) → wpList Try.prog ops Q rest (a.put o.dst v') w') : wpList Try.prog ops Q (o :: rest) a w := by
  obtain ⟨i0, hi, hz0, hz1, hz2⟩ := info_parts info74
  exact wpList_push Try.underlying70 hi hz0 hz1 hz2 (by simp [Value.cells]) (by decide) wxL wxL_length wxL_one hgd s x ho base v xs y hs hown g hx hg hlen (by decide) hbase h
def WinsIn (W : World) (base : Nat) (v : Value) (zs : List WinX) : Prop := OwnS W base 74 35 wxL v zs ∧ ∀ z ∈ zs, VqIn W base (slV z.w.vo) z.vq
theorem WinsIn.below {w W : World} {base : Nat} {v : Value} {zs : List WinX} (h : WinsIn w base v zs) (hb : Below w.heap.size w W) : WinsIn W base v zs := ⟨h.1.below hb, fun q hq => (h.2 q hq).below hb⟩
theorem WinsIn.lower {w : World} {base base' : Nat} {v : Value} {zs : List WinX} (h : WinsIn w base v zs) (hb : base' ≤ base) : WinsIn w base' v zs := ⟨h.1.lower hb, fun q hq => (h.2 q hq).lower hb⟩
theorem VqIn.past {w W : World} {base : Nat} {v v' : Value} {vq : List (SlD × List Int)} {zs : List WinX} (h : VqIn w base v vq) (h' : OwnS w base 74 35 wxL v' zs) (hk : ∀ k, k < w.heap.size → v'.ownBlock ≠ some k → obj W k = obj w k) : VqIn W base v vq :=
  ⟨h.1.past h' (by decide) hk, fun q hq => (h.2 q hq).past h' (by decide) hk⟩
theorem VqIn.alloc {w : World} {base : Nat} {v : Value} {vq : List (SlD × List Int)} (h : VqIn w base v vq) (o : Obj) : VqIn (w.alloc o) base v vq := ⟨h.1.alloc o, fun q hq => (h.2 q hq).alloc o⟩
set_option maxRecDepth 100000 in
set_option maxHeartbeats 8000000 in
/-- judge.Windows -/
theorem windows_any (w : World) (p : PlanD) (v : Value) (xs : List FactD) (h : SlIn w v 72 factL xs) (hlen : xs.length ≤ 1000) :
    Calls Try.prog 36 #[.agg (planL p).toArray, v] w fun e w' => ∃ v' zs, e = .returned v' ∧ WinsIn w' w.heap.size v' zs ∧ zs.map WinX.m = winsK xs p.beta xs.length ∧ Below w.heap.size w w' := by
  have HSL := Lib.hid h
  have HLN := Lib.hid hlen
  have HY : Hid (∀ k (h : k < xs.length), xs[k].kind = 8 → reignB xs[k].node (xs.take k) = true → winsK xs p.beta (k + 1) = winsK xs p.beta k ++ [⟨xs[k].node, xs[k].id, xs[k].move, windowF xs p.beta (reignL xs[k].node (xs.take k)) xs[k]⟩]) := Lib.hid fun k h h1 h2 => winsK_yes h h1 h2
  have HN : Hid (∀ k (h : k < xs.length), (¬ xs[k].kind = 8 ∨ reignB xs[k].node (xs.take k) = false) → winsK xs p.beta (k + 1) = winsK xs p.beta k) := Lib.hid fun k h h1 => winsK_no h h1
  have HLL := Lib.hid fun k => winsK_len xs p.beta k
  have B0 := Lib.hid ((Below.refl _ w).alloc (Nat.le_refl _) (.cells (planL p).toArray 41))
  have P0 : Hid (obj (w.alloc (.cells (planL p).toArray 41)) w.heap.size = some (.cells (planL p).toArray 41 (0, 0))) := Lib.hid (obj_alloc_at _ _ _ rfl)
  have HRL := fun W (hb : Below w.heap.size w W) => Lib.hid (related_any W v xs (h.below hb) hlen)
  obtain ⟨oa, cap, rfl, h1, h2, h3⟩ := h
  unfold maxLen at h2
  have H3 := Lib.hid h3
  clear h3
  have HR0 := Lib.hid (HRL _ B0.out).out
  clear HRL
  go_enter Try.func36, Try.ntmps36
  go_wp2_with fail
  generalize w.alloc (.cells (planL p).toArray 41) = w0 at *
  refine HR0.out.mono ?_
  rintro e w1 ⟨ub, m, rfl, hrel, b1, hub, hm⟩
  have B1 := Lib.hid (B0.out.trans (b1.mono B0.out.size))
  have P1 := Lib.hid ((obj_below b1 (lt_of_obj P0.out)).trans P0.out)
  have hw0 : w.heap.size < w1.heap.size := lt_of_obj P1.out
  have B2 := Lib.hid (B1.out.alloc (by omega) (.cells #[.map (some m), .func (.func 63) #[] #[.pointer (some ⟨ub, 0, none⟩)]] 85))
  have P2 := Lib.hid ((obj_alloc_past w1 (.cells #[.map (some m), .func (.func 63) #[] #[.pointer (some ⟨ub, 0, none⟩)]] 85) _ hw0).trans P1.out)
  have R2 : Hid (obj (w1.alloc (.cells #[.map (some m), .func (.func 63) #[] #[.pointer (some ⟨ub, 0, none⟩)]] 85)) w1.heap.size = some (.cells #[.map (some m), .func (.func 63) #[] #[.pointer (some ⟨ub, 0, none⟩)]] 85 (0, 0))) := Lib.hid (obj_alloc_at _ _ _ rfl)
  have REL2 := Lib.hid (hrel.below ((Below.refl w1.heap.size w1).alloc (Nat.le_refl _) (.cells #[.map (some m), .func (.func 63) #[] #[.pointer (some ⟨ub, 0, none⟩)]] 85)))
  have hz2 : (w1.alloc (.cells #[.map (some m), .func (.func 63) #[] #[.pointer (some ⟨ub, 0, none⟩)]] 85)).heap.size = w1.heap.size + 1 := by simp
  clear hrel b1 hub hm B0 P0 B1 P1 HR0
  go_wp2
  generalize w1.alloc (.cells #[.map (some m), .func (.func 63) #[] #[.pointer (some ⟨ub, 0, none⟩)]] 85) = w2 at *
  generalize w1.heap.size = rb at *
  generalize hC : w2.heap.size = C at *
  generalize hB : w.heap.size = B at *
  go_loopw [6, 15] (fun v6 v15 wr => ∃ (k : Nat) (zs : List WinX), k ≤ xs.length ∧ v15 = .int .i64 k ∧ Hid (WinsIn wr C v6 zs) ∧ Hid (zs.map WinX.m = winsK xs p.beta k) ∧ Hid (Below C w2 wr)) (fun _ i _ => xs.length - (intOf i).toNat)
  case atStart => exact ⟨0, [], Nat.zero_le _, rfl, Lib.hid ⟨OwnS.nil _ _ _ _ _, by simp⟩, Lib.hid rfl, Lib.hid (Below.refl _ _)⟩
  case round =>
    obtain ⟨k, zs, hk, rfl, HO, HM, HQ⟩ := hrel
    have hzq := HQ.out.size
    have HQW := Lib.hid (B2.out.trans (HQ.out.mono (by omega)))
    have hzl : zs.length ≤ k := by
      have := congrArg List.length HM.out
      rw [List.length_map] at this
      have := HLL.out k
      omega
    by_cases hlt : k < xs.length
    · obtain ⟨b, off, hoa, hbb, hrow⟩ := H3.out (by omega)
      subst hoa
      have hsub : subOf (obj wr b) (off + k * 72) 72 = some (factL xs[k]).toArray := by have := hrow k hlt; rw [← obj_below HQW.out (by omega)] at this; exact this
      have hbr : b < wr.heap.size := by omega
      have NY := Lib.hid (HY.out k hlt)
      have NN := Lib.hid (HN.out k hlt)
      have o2 : obj (wr.alloc (.cells (factL xs[k]).toArray 54)) wr.heap.size = some (.cells (factL xs[k]).toArray 54 (0, 0)) := obj_alloc_at _ _ _ rfl
      have HQA := Lib.hid (HQ.out.alloc (by omega) (.cells (factL xs[k]).toArray 54))
      have HOA : Hid (WinsIn (wr.alloc (.cells (factL xs[k]).toArray 54)) C _ zs) := Lib.hid (HO.out.below ((Below.refl wr.heap.size wr).alloc (Nat.le_refl _) (.cells (factL xs[k]).toArray 54)))
      have hzx : (wr.alloc (.cells (factL xs[k]).toArray 54)).heap.size = wr.heap.size + 1 := by simp
      generalize xs[k] = y at *
      obtain ⟨⟨_, f1, f2, _⟩, _, _⟩ := fact_parts (x := y) (W := wr.alloc (.cells (factL y).toArray 54)) (b := wr.heap.size) (o := 0) (by rw [o2, subOf_cells (by simp), subA_all (by simp)])
      rw [Nat.zero_add] at f1 f2
      have PC := Lib.hid o2
      have hck : k ≤ cap := by omega
      clear hrow o2
      cases e8 : y.kind == 8
      · have e8' : (y.kind != 8) = true := by simp [bne, e8]
        have hc := Lib.hid (NN.out (.inl (by simpa using e8)))
        clear NY NN
        go_wp2
        go_roundw
        case rel => exact ⟨k + 1, zs, by omega, by go_num, HOA, by rw [hc.out]; exact HM, HQA⟩
        case measure => simp [intOf]; omega
      · have e8' : (y.kind != 8) = false := by simp [bne, e8]
        have h8 : y.kind = 8 := by simpa using e8
        go_wp2
        generalize hwf : wr.alloc (.cells (factL y).toArray 54) = wf at *
        generalize hbx : wr.heap.size = bx at *
        have HSL2 : Hid (∀ W', Below wf.heap.size wf W' → SlIn W' (.slice (some ⟨b, off, none⟩) k cap) 72 factL (xs.take k)) := Lib.hid (fun W' hW' => ((HSL.out.below (by rw [hB]; exact B2.out.trans ((HQA.out.trans (hW'.mono (by omega))).mono (by omega)))).take (by omega)))
        have HRE : Hid (∀ W', Below wf.heap.size wf W' → Calls Try.prog 56 #[.slice (some ⟨b, off, none⟩) k cap, .int .i64 y.node] W' (RetReign W' (reignL y.node (xs.take k)) (reignB y.node (xs.take k)))) := Lib.hid (fun W' hW' => reign_any W' _ _ _ (HSL2.out W' hW'))
        have hmine : (reignL y.node (xs.take k)).length ≤ 1000 := by have := reignL_len y.node (xs.take k); rw [List.length_take] at this; have := HLN.out; omega
        generalize reignL y.node (xs.take k) = mine at *
        generalize reignB y.node (xs.take k) = tb at *
        clear hsub HSL2
        refine wp_region_held_drew (S := fun W' => Below wf.heap.size wf W') (by kernel_rfl) (Below.refl _ wf).drew (fun hS => ?_)
        refine wpAnyH_take (i := 0) (oi := { dst := some 24, op := Op.move (Operand.tmp 1), type := 22, pos := _, after := _, guard := none }) (v := (.slice (some ⟨b, off, none⟩) xs.length cap)) rfl (by kernel_rfl) (by kernel_rfl) (by kernel_rfl) (fun _ _ _ h => h) (.inl ⟨by kernel_rfl, fun W' hW => by go_simp⟩) hS ?_
        try simp only [Act.put, List.setIfInBounds_toArray, List.set_cons_zero, List.set_cons_succ]
        refine wpAnyH_take (i := 1) (oi := { dst := some 25, op := Op.move (Operand.tmp 7), type := 3, pos := _, after := _, guard := none }) (v := (.int .i64 (k : Int))) rfl (by kernel_rfl) (by kernel_rfl) (by kernel_rfl) (fun _ _ _ h => h) (.inl ⟨by kernel_rfl, fun W' hW => by go_simp⟩) hS ?_
        try simp only [Act.put, List.setIfInBounds_toArray, List.set_cons_zero, List.set_cons_succ]
        refine wpAnyH_take (i := 2) (oi := { dst := some 26, op := Op.slice 22 (Operand.tmp 24) none (some (Operand.tmp 25)) none, type := 22, pos := _, after := _, guard := none }) (v := (.slice (some ⟨b, off, none⟩) k cap)) rfl (by kernel_rfl) (by kernel_rfl) (by kernel_rfl) (fun _ _ _ h => h) (.inl ⟨by kernel_rfl, fun W' hW => by go_simp⟩) hS ?_
        try simp only [Act.put, List.setIfInBounds_toArray, List.set_cons_zero, List.set_cons_succ]
        refine wpAnyH_take (i := 3) (oi := { dst := some 27, op := Op.fieldAddr 54 (Operand.tmp 8) 2, type := 0, pos := _, after := _, guard := none }) (v := (.pointer (some ⟨bx, 2, none⟩))) rfl (by kernel_rfl) (by kernel_rfl) (by kernel_rfl) (fun _ _ _ h => h) (.inl ⟨by kernel_rfl, fun W' hW => by go_simp⟩) hS ?_
        try simp only [Act.put, List.setIfInBounds_toArray, List.set_cons_zero, List.set_cons_succ]
        refine wpAnyH_take (i := 4) (oi := { dst := some 28, op := Op.load 3 (Operand.tmp 27), type := 3, pos := _, after := _, guard := none }) (v := (.int .i64 y.node)) rfl (by kernel_rfl) (by kernel_rfl) (by kernel_rfl) (fun _ _ _ h => h) (.inl ⟨by kernel_rfl, fun W' hW => by have c := (hW.cell (show bx < wf.heap.size by omega)).trans f2; have z := Nat.lt_of_lt_of_le (show bx < wf.heap.size by omega) hW.size; go_simp⟩) hS ?_
        try simp only [Act.put, List.setIfInBounds_toArray, List.set_cons_zero, List.set_cons_succ]
        refine wpAnyH_ready (rs := [5]) (by kernel_rfl) (by simp) (AllReadyH.cons rfl (fun K hK => ?_) AllReadyH.nil)
        go_simp
        refine (HRE.out _ hS).mono ?_
        rintro _ x1 ⟨v1, rfl, hs1, hb1⟩
        refine hK.out _ _ (hS.trans (hb1.mono hS.size)) (fun hS1 => ?_)
        clear hK K hb1
        try simp only [Act.put, List.setIfInBounds_toArray, List.set_cons_zero, List.set_cons_succ]
        refine wpAnyH_take (i := 6) (oi := { dst := some 23, op := Op.move (Operand.tmp 29), type := 100, pos := _, after := _, guard := none }) (v := (.tuple #[v1, .bool tb])) rfl (by kernel_rfl) (by kernel_rfl) (by kernel_rfl) (fun _ _ _ h => h) (.inl ⟨by kernel_rfl, fun W' hW => by go_simp⟩) hS1 ?_
        try simp only [Act.put, List.setIfInBounds_toArray, List.set_cons_zero, List.set_cons_succ]
        refine wpAnyH_take (i := 7) (oi := { dst := some 30, op := Op.extract (Operand.tmp 23) 0, type := 22, pos := _, after := _, guard := none }) (v := v1) rfl (by kernel_rfl) (by kernel_rfl) (by kernel_rfl) (fun _ _ _ h => h) (.inl ⟨by kernel_rfl, fun W' hW => by go_simp⟩) hS1 ?_
        try simp only [Act.put, List.setIfInBounds_toArray, List.set_cons_zero, List.set_cons_succ]
        refine wpAnyH_take (i := 8) (oi := { dst := some 31, op := Op.extract (Operand.tmp 23) 1, type := 4, pos := _, after := _, guard := none }) (v := (.bool tb)) rfl (by kernel_rfl) (by kernel_rfl) (by kernel_rfl) (fun _ _ _ h => h) (.inl ⟨by kernel_rfl, fun W' hW => by go_simp⟩) hS1 ?_
        try simp only [Act.put, List.setIfInBounds_toArray, List.set_cons_zero, List.set_cons_succ]
        refine wpAnyH_take (i := 9) (oi := { dst := some 9, op := Op.assign (Operand.tmp 30), type := 22, pos := _, after := _, guard := none }) (v := v1) rfl (by kernel_rfl) (by kernel_rfl) (by kernel_rfl) (fun _ _ _ h => h) (.inl ⟨by kernel_rfl, fun W' hW => by go_simp⟩) hS1 ?_
        try simp only [Act.put, List.setIfInBounds_toArray, List.set_cons_zero, List.set_cons_succ]
        refine wpAnyH_take (i := 10) (oi := { dst := some 10, op := Op.assign (Operand.tmp 31), type := 4, pos := _, after := _, guard := none }) (v := (.bool tb)) rfl (by kernel_rfl) (by kernel_rfl) (by kernel_rfl) (fun _ _ _ h => h) (.inl ⟨by kernel_rfl, fun W' hW => by go_simp⟩) hS1 ?_
        try simp only [Act.put, List.setIfInBounds_toArray, List.set_cons_zero, List.set_cons_succ]
        refine wpAnyH_done (by kernel_rfl) ?_ _
        have HS1 := Lib.hid hs1
        have HQ1 := Lib.hid (HQA.out.trans (hS1.mono (by omega)))
        have HO1 := Lib.hid (HOA.out.below hS1)
        have PC1 := Lib.hid ((obj_below hS1 (show bx < wf.heap.size by omega)).trans PC.out)
        have hz1 := hS1.size
        clear hs1 hS hS1 f1 f2 HRE HOA
        cases tb with
        | false =>
          have hc := Lib.hid (NN.out (.inr rfl))
          clear NY NN
          go_wp2
          go_roundw
          case rel => exact ⟨k + 1, zs, by omega, by go_num, HO1, by rw [hc.out]; exact HM, HQ1⟩
          case measure => simp [intOf]; omega
        | true =>
          have hc := Lib.hid (NY.out h8 rfl)
          clear NY NN
          have hx1 : C ≤ x1.heap.size := Nat.le_trans (by omega) hz1
          have R1 := (obj_below HQ1.out (show rb < C by omega)).trans R2.out
          have sr : subOf (obj x1 rb) 0 2 = some #[.map (some m), .func (.func 63) #[] #[.pointer (some ⟨ub, 0, none⟩)]] := by rw [R1, subOf_cells (by simp), subA_all (by simp)]
          have Q1 := (obj_below HQ1.out (show B < C by omega)).trans P2.out
          have cb : x1.cell? ⟨B, 3, none⟩ = some (.int .i64 p.beta) := (cell_at Q1 3).trans (by rw [List.getElem?_toArray]; exact planL_3 p)
          have sf : subOf (obj x1 bx) 0 72 = some (factL y).toArray := by rw [PC1.out, subOf_cells (by simp), subA_all (by simp)]
          have l1 := lt_of_obj R1
          have l2 := lt_of_obj Q1
          have l3 := lt_of_obj PC1.out
          have HWI := Lib.hid (window_any x1 ub m xs p.beta v1 mine y (REL2.out.below (by rw [hC]; exact HQ1.out)) HS1.out hmine)
          clear R1 Q1
          go_wp2_with fail
          refine HWI.out.mono ?_
          rintro e x2 ⟨s, vq, rfl, hvq, hmv, b2⟩
          have HV2 := Lib.hid (hvq.lower hx1)
          have HO2 := Lib.hid (HO1.out.below b2)
          have HQ2 := Lib.hid (HQ1.out.trans (b2.mono hx1))
          have HMV := Lib.hid hmv
          have hz2 := b2.size
          clear hvq hmv b2 HWI sr cb sf
          go_wp2_with (at_builtin; refine push70 rfl _ _ rfl C _ zs ⟨⟨y.node, y.id, y.move, s⟩, vq⟩ rfl (HO2.out.1.alloc _) x2.heap.size rfl (obj_alloc_at _ _ _ rfl) (by have := HLN.out; omega) (by simp; omega) ?_; intro v7 w7 hown7 hb7 hk7)
          have HQ7 := Lib.hid ((HQ2.out.alloc (by omega) (.cells (winL ⟨y.node, y.id, y.move, s⟩).toArray 74)).trans hb7)
          have HO7 : Hid (WinsIn w7 C v7 (zs ++ [⟨⟨y.node, y.id, y.move, s⟩, vq⟩])) := Lib.hid ⟨hown7, fun z hz => by
            rcases List.mem_append.1 hz with hz | hz
            · exact ((HO2.out.2 z hz).alloc _).past (HO2.out.1.alloc _) hk7
            · simp only [List.mem_singleton] at hz
              subst hz
              exact (HV2.out.alloc _).past (HO2.out.1.alloc _) hk7⟩
          have HM7 : Hid ((zs ++ [(⟨⟨y.node, y.id, y.move, s⟩, vq⟩ : WinX)]).map WinX.m = winsK xs p.beta (k + 1)) := Lib.hid (by rw [hc.out, List.map_append, HM.out, ← HMV.out]; rfl)
          clear hown7 hb7 hk7
          go_roundw
          case rel => exact ⟨k + 1, _, by omega, by go_num, HO7, HM7, HQ7⟩
          case measure => simp [intOf]; omega
    · obtain rfl : k = xs.length := by omega
      clear HY HN
      go_wp2
      go_ret
      exact ⟨_, zs, rfl, by rw [hB]; exact HO.out.lower (by omega), HM.out, by rw [hB]; exact HQW.out⟩
end Go.Proofs.Ytmenfbfekfljbaa
