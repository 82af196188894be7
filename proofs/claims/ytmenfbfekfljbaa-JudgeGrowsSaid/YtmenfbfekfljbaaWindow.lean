import Derived.Test.YtmenfbfekfljbaaWin
import Derived.Deep.RegionHeld3
namespace Go.Proofs.Ytmenfbfekfljbaa
open Go.RowKit Go.Shelf

def nI (d : List Nat) : List Int := d.map fun (i : Nat) => (i : Int)
theorem step_push72 {ops : Array Oper} {o : Oper} {a : Act} {w : World} {Q : Exit → Act → World → Prop} {K : Act → World → Prop} {Z : Prop} (hgd : o.guard = none) (s x : Operand) (ho : o.op = .call { callee := .builtin .append, args := #[s, x], argTypes := #[72, 72] })
    (base : Nat) (v : Value) (xs : List (SlD × List Int)) (y : SlD × List Int) (hs : a.eval s = v) (hown : OwnS w base 38 1 qL v xs) (g : Nat) (hx : a.eval x = .slice (some ⟨g, 0, none⟩) 1 1) (hg : obj w g = some (.cells (qL y).toArray 38 (0, 0)))
    (hlen : xs.length ≤ 1048576) (hbase : base ≤ w.heap.size)
    (h : ∀ v' w', OwnS w' base 38 1 qL v' (xs ++ [y]) → Below base w w' → (∀ k, k < w.heap.size → v.ownBlock ≠ some k → obj w' k = obj w k) → K (a.put o.dst v') w') : if Region.wanted o (yielded ops a.tmps) = true then Oper.wp Try.prog o a w K Q else Z := by
  obtain ⟨i0, hi, hz0, hz1, hz2⟩ := info_parts info38
  exact step_pushAll Try.underlying72 hi hz0 hz1 hz2 (by simp [Value.cells]) (by decide) qL_length qL_one hgd s x ho base v xs [y] hs hown _ hx (SlIn.one (E := 38) (fr := (0, 0)) qL_length y hg) (by simp; omega) (by decide) hbase h
theorem nI_get (d : List Nat) (j : Nat) (h : j < d.length) : (nI d)[j]'(by simpa [nI] using h) = (d[j] : Int) := by simp [nI]
theorem winL_set2 (x : WinD) (a : Option Addr) (n c : Nat) : (winL x).toArray.setIfInBounds 34 (.slice a n c) = (winL { x with vo := ⟨a, n, c⟩ }).toArray := winL_set x ⟨a, n, c⟩
theorem below_put0 {n : Nat} (w : World) {b : Nat} (o : Obj) (h : n ≤ b) : Below n w (putObj w b o) := ⟨rfl, rfl, rfl, by rw [size_putObj]; exact Nat.le_refl _, fun k hk => obj_putObj_ne _ _ _ _ (by omega)⟩
theorem VqIn.put {W : World} {base b : Nat} {v : Value} {vq : List (SlD × List Int)} {cs : Array Value} (h : VqIn W base v vq) (ho : obj W b = some (.cells cs 74 (0, 0))) (o : Obj) : VqIn (putObj W b o) base v vq :=
  ⟨h.1.keeps fun g hg => obj_putObj_ne _ _ _ _ (fun e => h.1.ne ho (fun cur e => by simp at e) (by rw [hg, e])), fun q hq => (h.2 q hq).keeps fun g hg => obj_putObj_ne _ _ _ _ (fun e => (h.2 q hq).ne ho (fun cur e => by simp at e) (by rw [hg, e]))⟩
theorem win_put {W : World} {b : Nat} {old : WinD} (z : WinD) (h : obj W b = some (.cells (winL old).toArray 74 (0, 0))) : putOf (obj W b) 0 35 (winL z).toArray = some (.cells (winL z).toArray 74 (0, 0)) := by
  rw [h, putOf_cells (by simp) (by simp) (winL_one z), spliceA_all (by simp)]
theorem win_ret {W : World} {b : Nat} {z : WinD} (h : obj W b = some (.cells (winL z).toArray 74 (0, 0))) : (loadVar 74 ⟨b, 0, none⟩).run Try.prog W = .ok (.agg (winL z).toArray) W := by
  rw [hide_load74, run_load74, h, subOf_cells (by simp), subA_all (by simp)]
  rfl
set_option maxRecDepth 100000 in
set_option maxHeartbeats 8000000 in
/-- judge.relation.window -/
theorem window_any (w : World) (ub m : Nat) (xs : List FactD) (beta : Int) (v : Value) (l : List FactD) (x : FactD) (hr : RelAt w ub m xs) (h : SlIn w v 72 factL l) (hlen : l.length ≤ 1000) :
    Calls Try.prog 57 #[.agg #[.map (some m), .func (.func 63) #[] #[.pointer (some ⟨ub, 0, none⟩)]], .int .i64 beta, v, .agg (factL x).toArray] w fun e w' => ∃ s vq, e = .returned (.agg (winL ⟨x.node, x.id, x.move, s⟩).toArray) ∧ VqIn w' w.heap.size (slV s) vq ∧ vq.map (·.2) = windowF xs beta l x ∧ Below w.heap.size w w' := by
  have HRel := Lib.hid hr
  have HSL := Lib.hid h
  have HLN := Lib.hid hlen
  have HY : Hid (∀ k (hk : k < l.length), donB x.node l[k] = true → donK x.node l (k + 1) = donK x.node l k ++ [k]) := Lib.hid fun k hk hb => donK_yes hk hb
  have HN : Hid (∀ k (hk : k < l.length), donB x.node l[k] = false → donK x.node l (k + 1) = donK x.node l k) := Lib.hid fun k hk hb => donK_no hk hb
  have HB : Hid (∀ y, donB x.node y = (y.kind == 7 && y.node == x.node)) := Lib.hid fun _ => rfl
  have HLL := Lib.hid fun k => donK_len x.node l k
  have B0 := Lib.hid (((((Below.refl _ w).alloc (Nat.le_refl _) (.cells #[.map (some m), .func (.func 63) #[] #[.pointer (some ⟨ub, 0, none⟩)]] 85)).alloc (by simp) (.cells (factL x).toArray 54)).alloc (by simp; omega) (.cells (winL WinD.zero).toArray 74)).alloc (by simp; omega) (.cells (winL ⟨x.node, x.id, x.move, nilS⟩).toArray 74))
  have O0 : Hid (obj ((((w.alloc (.cells #[.map (some m), .func (.func 63) #[] #[.pointer (some ⟨ub, 0, none⟩)]] 85)).alloc (.cells (factL x).toArray 54)).alloc (.cells (winL WinD.zero).toArray 74)).alloc (.cells (winL ⟨x.node, x.id, x.move, nilS⟩).toArray 74)) w.heap.size = some (.cells #[.map (some m), .func (.func 63) #[] #[.pointer (some ⟨ub, 0, none⟩)]] 85 (0, 0))) := Lib.hid (by simp [go_sem])
  have O1 : Hid (obj ((((w.alloc (.cells #[.map (some m), .func (.func 63) #[] #[.pointer (some ⟨ub, 0, none⟩)]] 85)).alloc (.cells (factL x).toArray 54)).alloc (.cells (winL WinD.zero).toArray 74)).alloc (.cells (winL ⟨x.node, x.id, x.move, nilS⟩).toArray 74)) (w.heap.size + 1) = some (.cells (factL x).toArray 54 (0, 0))) := Lib.hid (by simp [go_sem])
  have O2 : Hid (obj ((((w.alloc (.cells #[.map (some m), .func (.func 63) #[] #[.pointer (some ⟨ub, 0, none⟩)]] 85)).alloc (.cells (factL x).toArray 54)).alloc (.cells (winL WinD.zero).toArray 74)).alloc (.cells (winL ⟨x.node, x.id, x.move, nilS⟩).toArray 74)) (w.heap.size + 2) = some (.cells (winL WinD.zero).toArray 74 (0, 0))) := Lib.hid (by simp [go_sem])
  have O3 : Hid (obj ((((w.alloc (.cells #[.map (some m), .func (.func 63) #[] #[.pointer (some ⟨ub, 0, none⟩)]] 85)).alloc (.cells (factL x).toArray 54)).alloc (.cells (winL WinD.zero).toArray 74)).alloc (.cells (winL ⟨x.node, x.id, x.move, nilS⟩).toArray 74)) (w.heap.size + 3) = some (.cells (winL ⟨x.node, x.id, x.move, nilS⟩).toArray 74 (0, 0))) := Lib.hid (by simp [go_sem])
  have hz0 : ((((w.alloc (.cells #[.map (some m), .func (.func 63) #[] #[.pointer (some ⟨ub, 0, none⟩)]] 85)).alloc (.cells (factL x).toArray 54)).alloc (.cells (winL WinD.zero).toArray 74)).alloc (.cells (winL ⟨x.node, x.id, x.move, nilS⟩).toArray 74)).heap.size = w.heap.size + 4 := by simp
  obtain ⟨oa, cap, rfl, h1, h2, h3⟩ := h
  unfold maxLen at h2
  have H3 := Lib.hid h3
  clear h3 hr
  go_enter Try.func57, Try.ntmps57
  go_wp2
  --MARK0
  generalize ((((w.alloc (.cells #[.map (some m), .func (.func 63) #[] #[.pointer (some ⟨ub, 0, none⟩)]] 85)).alloc (.cells (factL x).toArray 54)).alloc (.cells (winL WinD.zero).toArray 74)).alloc (.cells (winL ⟨x.node, x.id, x.move, nilS⟩).toArray 74)) = w0 at *
  generalize hB : w.heap.size = B at *
  go_loopw [10, 24] (fun v10 v24 wr => ∃ (k : Nat), k ≤ l.length ∧ v24 = .int .i64 k ∧ Hid (OwnS wr (B + 4) 3 1 iL v10 (nI (donK x.node l k))) ∧ Hid (Below (B + 4) w0 wr)) (fun _ i _ => l.length - (intOf i).toNat)
  case atStart => exact ⟨0, Nat.zero_le _, rfl, Lib.hid (OwnS.nil _ _ _ _ _), Lib.hid (Below.refl _ _)⟩
  case round =>
    obtain ⟨k, hk, rfl, HO, HQ⟩ := hrel
    have hzq := HQ.out.size
    have HQW := Lib.hid (B0.out.trans (HQ.out.mono (by omega)))
    have hll := HLL.out k
    by_cases hlt : k < l.length
    · obtain ⟨b, off, hoa, hbb, hrow⟩ := H3.out (by omega)
      subst hoa
      have hsub : subOf (obj wr b) (off + k * 72) 72 = some (factL l[k]).toArray := by have := hrow k hlt; rw [← obj_below HQW.out (by omega)] at this; exact this
      have hbr : b < wr.heap.size := by omega
      have NY := Lib.hid (HY.out k hlt)
      have NN := Lib.hid (HN.out k hlt)
      have o2 : obj (wr.alloc (.cells (factL l[k]).toArray 54)) wr.heap.size = some (.cells (factL l[k]).toArray 54 (0, 0)) := obj_alloc_at _ _ _ rfl
      have HQA := Lib.hid (HQ.out.alloc (by omega) (.cells (factL l[k]).toArray 54))
      have HOA := Lib.hid (HO.out.alloc (.cells (factL l[k]).toArray 54))
      have hzx : (wr.alloc (.cells (factL l[k]).toArray 54)).heap.size = wr.heap.size + 1 := by simp
      generalize l[k] = y at *
      have BD := Lib.hid (HB.out y)
      obtain ⟨⟨_, f1, f2, _⟩, _, _⟩ := fact_parts (x := y) (W := wr.alloc (.cells (factL y).toArray 54)) (b := wr.heap.size) (o := 0) (by rw [o2, subOf_cells (by simp), subA_all (by simp)])
      rw [Nat.zero_add] at f1 f2
      have R1 := (obj_below HQA.out (by omega)).trans O1.out
      have ri : (wr.alloc (.cells (factL y).toArray 54)).cell? ⟨B + 1, 2, none⟩ = some (.int .i64 x.node) := cell_at R1 2
      have hBl1 := lt_of_obj R1
      clear hrow o2 R1
      cases e7 : y.kind == 7
      · have hc := Lib.hid (NN.out (by rw [BD.out, e7]; rfl))
        clear BD NY NN
        go_wp2
        go_roundw
        case rel => exact ⟨k + 1, by omega, by go_num, by rw [hc.out]; exact HOA, HQA⟩
        case measure => simp [intOf]; omega
      · cases en : y.node == x.node
        · have hc := Lib.hid (NN.out (by rw [BD.out, e7, en]; rfl))
          clear BD NY NN
          go_wp2
          go_roundw
          case rel => exact ⟨k + 1, by omega, by go_num, by rw [hc.out]; exact HOA, HQA⟩
          case measure => simp [intOf]; omega
        · have hc := Lib.hid (NY.out (by rw [BD.out, e7, en]; rfl))
          clear BD NY NN
          go_wp2_with (at_builtin; refine push38 rfl _ _ rfl (B + 4) _ (nI (donK x.node l k)) (k : Int) rfl (HOA.out.alloc _) (wr.heap.size + 1) rfl (obj_alloc_at _ _ _ (by simp)) (by simp [nI]; omega) (by simp; omega) ?_; intro v7 w7 hown7 hb7 hk7)
          have HQ7 := Lib.hid ((HQA.out.alloc (by omega) _).trans hb7)
          have HO7 : Hid (OwnS w7 (B + 4) 3 1 iL v7 (nI (donK x.node l (k + 1)))) := Lib.hid (by rw [hc.out]; simpa [nI] using hown7)
          clear hown7 hb7 hk7
          go_roundw
          case rel => exact ⟨k + 1, by omega, by go_num, HO7, HQ7⟩
          case measure => simp [intOf]; omega
    · obtain rfl : k = l.length := by omega
      clear HY HN HB
      rcases HO.out.1.2 with ⟨hnil, hd0⟩ | ⟨g, cp, cur, hv, hgB, hgo, c1, c2, c3, c4⟩
      · subst hnil
        have hd : donK x.node l l.length = [] := by simpa [nI] using hd0
        have HQ9 := Lib.hid (HQ.out.mono (show B + 3 ≤ B + 4 by omega))
        have P3 := Lib.hid ((obj_below HQ.out (show B + 3 < B + 4 by omega)).trans O3.out)
        have PV : Hid (VqIn wr (B + 4) (slV nilS) []) := Lib.hid ⟨OwnS.nil _ _ _ _ _, by simp⟩
        have hm0 : Hid (([] : List (SlD × List Int)).map (·.2) = windowF xs beta l x) := Lib.hid (by unfold windowF; rw [hd]; simp [lastN])
        have P2 := Lib.hid ((obj_below HQ9.out (show B + 2 < B + 3 by omega)).trans O2.out)
        have sp : subOf (obj wr (B + 1 + 1 + 1)) 0 35 = some (winL ⟨x.node, x.id, x.move, nilS⟩).toArray := by rw [show obj wr (B + 1 + 1 + 1) = _ from P3.out, subOf_cells (by simp), subA_all (by simp)]
        have hl3 := lt_of_obj P3.out
        have hl2 := lt_of_obj P2.out
        have f2 : putOf (obj wr (B + 1 + 1)) 0 35 (winL ⟨x.node, x.id, x.move, nilS⟩).toArray = _ := win_put ⟨x.node, x.id, x.move, nilS⟩ P2.out
        have o9 : obj (putObj wr (B + 1 + 1) (.cells (winL ⟨x.node, x.id, x.move, nilS⟩).toArray 74 (0, 0))) (B + 1 + 1) = some (.cells (winL ⟨x.node, x.id, x.move, nilS⟩).toArray 74 (0, 0)) := obj_putObj_eq _ _ _ hl2
        have V9 := Lib.hid (VqIn.put PV.out (b := B + 1 + 1) P2.out (.cells (winL ⟨x.node, x.id, x.move, nilS⟩).toArray 74 (0, 0)))
        have B9 := Lib.hid (B0.out.trans ((HQ9.out.mono (show B ≤ B + 3 by omega)).trans (below_put0 wr (b := B + 1 + 1) (.cells (winL ⟨x.node, x.id, x.move, nilS⟩).toArray 74 (0, 0)) (show B ≤ B + 1 + 1 by omega))))
        have O9 := Lib.hid o9
        clear o9
        go_wp2
        refine wp_loop_rounds 1 ?_
        rw [rounds_succ]
        go_wp2
        exact bodyPost_ret (results_cell1 Try.results57 _ rfl (win_ret O9.out)) rfl ⟨_, _, rfl, by rw [hB]; exact V9.out.lower (by omega), hm0.out, by rw [hB]; exact B9.out⟩
      · rw [show (nI (donK x.node l l.length)).length = (donK x.node l l.length).length by simp [nI]] at hv
        subst hv
        unfold maxLen at c2
        have hlt2 : Hid (∀ i, i ∈ donK x.node l l.length → i < l.length) := Lib.hid fun i hi => (donK_lt hi).1
        have hw0 : Hid (windowF xs beta l x = (lastN beta (donK x.node l l.length)).map (wv xs l x)) := Lib.hid rfl
        generalize donK x.node l l.length = dl at *
        have hdl : (nI dl).length = dl.length := by simp [nI]
        rw [hdl] at c1
        have HOD := HO
        obtain ⟨lo, hlo, hlo2, hlo3⟩ : ∃ lo : Nat, ((dl.length : Int) - min (max beta 0) (dl.length : Int)) = (lo : Int) ∧ lo ≤ dl.length ∧ lo = dl.length - min (max beta 0).toNat dl.length := ⟨_, by omega, by omega, rfl⟩
        have hw1 : Hid (windowF xs beta l x = (dl.drop lo).map (wv xs l x)) := Lib.hid (by rw [hw0.out, hlo3]; rfl)
        have hwl : IntKind.i64.wrap (lo : Int) = (lo : Int) := by simp [IntKind.wrap, IntKind.signed, IntKind.bits]; omega
        have hlc : lo ≤ cp := by omega
        have hdll : Hid (dl.length ≤ l.length) := Lib.hid hll
        clear c4 hlo3 hw0 HO hll HLL
        by_cases hcp : cp = lo
        · have HQ9 := Lib.hid (HQ.out.mono (show B + 3 ≤ B + 4 by omega))
          have P3 := Lib.hid ((obj_below HQ.out (show B + 3 < B + 4 by omega)).trans O3.out)
          have PV : Hid (VqIn wr (B + 4) (slV nilS) []) := Lib.hid ⟨OwnS.nil _ _ _ _ _, by simp⟩
          have hlo5 : dl.length - lo = 0 := by omega
          have hm0 : Hid (([] : List (SlD × List Int)).map (·.2) = windowF xs beta l x) := Lib.hid (by rw [hw1.out, List.drop_eq_nil_of_le (by omega)]; rfl)
          have P2 := Lib.hid ((obj_below HQ9.out (show B + 2 < B + 3 by omega)).trans O2.out)
          have sp : subOf (obj wr (B + 1 + 1 + 1)) 0 35 = some (winL ⟨x.node, x.id, x.move, nilS⟩).toArray := by rw [show obj wr (B + 1 + 1 + 1) = _ from P3.out, subOf_cells (by simp), subA_all (by simp)]
          have hl3 := lt_of_obj P3.out
          have hl2 := lt_of_obj P2.out
          have f2 : putOf (obj wr (B + 1 + 1)) 0 35 (winL ⟨x.node, x.id, x.move, nilS⟩).toArray = _ := win_put ⟨x.node, x.id, x.move, nilS⟩ P2.out
          have o9 : obj (putObj wr (B + 1 + 1) (.cells (winL ⟨x.node, x.id, x.move, nilS⟩).toArray 74 (0, 0))) (B + 1 + 1) = some (.cells (winL ⟨x.node, x.id, x.move, nilS⟩).toArray 74 (0, 0)) := obj_putObj_eq _ _ _ hl2
          have V9 := Lib.hid (VqIn.put PV.out (b := B + 1 + 1) P2.out (.cells (winL ⟨x.node, x.id, x.move, nilS⟩).toArray 74 (0, 0)))
          have B9 := Lib.hid (B0.out.trans ((HQ9.out.mono (show B ≤ B + 3 by omega)).trans (below_put0 wr (b := B + 1 + 1) (.cells (winL ⟨x.node, x.id, x.move, nilS⟩).toArray 74 (0, 0)) (show B ≤ B + 1 + 1 by omega))))
          have O9 := Lib.hid o9
          clear o9
          go_wp2
          refine wp_loop_rounds 1 ?_
          rw [rounds_succ]
          go_wp2
          exact bodyPost_ret (results_cell1 Try.results57 _ rfl (win_ret O9.out)) rfl ⟨_, _, rfl, by rw [hB]; exact V9.out.lower (by omega), hm0.out, by rw [hB]; exact B9.out⟩
        · have HDT : Hid ((dl.drop lo).length = dl.length - lo) := Lib.hid (by simp)
          have HSD : Hid (∀ W, OwnS W (B + 4) 3 1 iL (.slice (some ⟨g, 0, none⟩) dl.length cp) (nI dl) → ∀ j (hj : j < (dl.drop lo).length), W.cell? ⟨g, lo + j, none⟩ = some (.int .i64 ((dl.drop lo)[j] : Int))) := Lib.hid (fun W hW j hj => by
            obtain ⟨_, _, e, _, _, hr⟩ := hW.slIn iL_length
            simp only [Value.slice.injEq] at e
            obtain ⟨he, _, _⟩ := e
            have hj2 : j < dl.length - lo := by rw [← HDT.out]; exact hj
            obtain ⟨b, off, e2, _, hrow⟩ := hr (by omega)
            rw [← he] at e2
            simp only [Option.some.injEq, Addr.mk.injEq, and_true] at e2
            obtain ⟨rfl, rfl⟩ := e2
            have := int_cell hrow rfl (show lo + j < (nI dl).length by omega)
            rw [Nat.zero_add] at this
            rw [this, nI_get dl (lo + j) (by omega)]
            simp)
          have HTL : Hid (∀ j (hj : j < (dl.drop lo).length), (dl.drop lo)[j] < l.length) := Lib.hid fun j hj => hlt2.out _ (List.mem_of_mem_drop (List.getElem_mem hj))
          have HTN := HDT.out
          go_wp2
          have HTN : (dl.drop lo).length = dl.length - lo := HDT.out
          generalize dl.drop lo = t at *
          have P3 := Lib.hid ((obj_below HQ.out (show B + 3 < B + 4 by omega)).trans O3.out)
          have PV : Hid (VqIn wr (B + 4) (slV nilS) []) := Lib.hid ⟨OwnS.nil _ _ _ _ _, by simp⟩
          have HQ9 := Lib.hid (HQ.out.mono (show B + 3 ≤ B + 4 by omega))
          clear HQ HQW O3 hgo c3 hlt2 HDT
          go_loopw [55] (fun v55 wr => ∃ (j : Nat) (s : SlD) (vq : List (SlD × List Int)), j ≤ t.length ∧ v55 = .int .i64 j ∧ Hid (obj wr (B + 3) = some (.cells (winL ⟨x.node, x.id, x.move, s⟩).toArray 74 (0, 0))) ∧ Hid (VqIn wr (B + 4) (slV s) vq) ∧ Hid (vq.map (·.2) = (t.take j).map (wv xs l x)) ∧ Hid (OwnS wr (B + 4) 3 1 iL (.slice (some ⟨g, 0, none⟩) dl.length cp) (nI dl)) ∧ Hid (Below (B + 3) w0 wr)) (fun i _ => t.length - (intOf i).toNat)
          case atStart => exact ⟨0, _, _, Nat.zero_le _, rfl, P3, PV, Lib.hid rfl, HOD, HQ9⟩
          case round =>
            clear P3 PV HOD HQ9
            obtain ⟨j, s, vq, hj, rfl, P3_0, PV_0, HM, PD_0, HQ⟩ := hrel
            have hzq := HQ.out.size
            by_cases hjt : j < t.length
            · have cx := HSD.out _ PD_0.out j hjt
              have hgl := (PD_0.out.1.lt g rfl).2
              have hil := HTL.out j hjt
              have HMN0 : Hid (∀ nv, nv = wv xs l x t[j] → ∀ q : SlD × List Int, q.2 = nv → (vq ++ [q]).map (·.2) = (t.take (j + 1)).map (wv xs l x)) := Lib.hid (fun nv hnv q hq => by rw [List.take_succ_eq_append_getElem hjt, List.map_append, List.map_append, HM.out]; simp [hq, hnv])
              have hvl : vq.length ≤ 1000 := by
                have := congrArg List.length HM.out
                simp at this
                have h2 := hdll.out
                have := HLN.out
                omega
              generalize t[j] = i at *
              have HQW := Lib.hid (B0.out.trans (HQ.out.mono (show B ≤ B + 3 by omega)))
              obtain ⟨bb, off, hoa, hbb, hrow⟩ := H3.out (by omega)
              subst hoa
              have hbbr : bb < wr.heap.size := by omega
              have hicap : i ≤ cap := by omega
              have hsub : subOf (obj wr bb) (off + i * 72) 72 = some (factL l[i]).toArray := by have := hrow i hil; rw [← obj_below HQW.out hbb] at this; exact this
              obtain ⟨_, _, ⟨_, g69, _, _⟩⟩ := fact_parts hsub
              have hwv : Hid (wv xs l x i = votersF xs x.node l[i].poll x.id (l.take i)) := Lib.hid (by unfold wv; rw [List.getElem?_eq_getElem hil]; rfl)
              have HPO : Hid (∀ W', Below (B + 3) wr W' → W'.cell? ⟨bb, off + i * 72 + 69, none⟩ = some (.int .i64 l[i].poll)) := Lib.hid (fun W' hW' => (World.cell?_of_block (a := ⟨bb, off + i * 72 + 69, none⟩) (obj_below hW' (show bb < B + 3 by omega))).trans g69)
              have HSL2 : Hid (∀ W', Below (B + 3) wr W' → SlIn W' (.slice (some ⟨bb, off, none⟩) i cap) 72 factL (l.take i)) := Lib.hid (fun W' hW' => ((HSL.out.below (by rw [hB]; exact HQW.out.trans (hW'.mono (show B ≤ B + 3 by omega))))).take (by omega))
              generalize l[i] = y at *
              have HVOT : Hid (∀ W', Below (B + 3) wr W' → Calls Try.prog 67 #[.agg #[.map (some m), .func (.func 63) #[] #[.pointer (some ⟨ub, 0, none⟩)]], .slice (some ⟨bb, off, none⟩) i cap, .int .i64 x.node, .int .i64 y.poll, .agg (idL x.id).toArray] W' fun e w' => ∃ v', e = .returned v' ∧ OwnS w' W'.heap.size 3 1 iL v' (votersF xs x.node y.poll x.id (l.take i)) ∧ Below W'.heap.size W' w') := Lib.hid (fun W' hW' => voters_any W' ub m xs _ (l.take i) x.node y.poll x.id (HRel.out.below (by rw [hB]; exact HQW.out.trans (hW'.mono (show B ≤ B + 3 by omega)))) (HSL2.out W' hW') (by rw [List.length_take]; have := HLN.out; omega))
              have HMN1 := Lib.hid (HMN0.out _ hwv.out.symm)
              generalize votersF xs x.node y.poll x.id (l.take i) = nv at *
              have R0 := (obj_below HQ.out (show B < B + 3 by omega)).trans O0.out
              have R1 := (obj_below HQ.out (show B + 1 < B + 3 by omega)).trans O1.out
              have y45 : ∀ W', Below (B + 3) wr W' → (loadAgg 45 ⟨B + 1, 4, none⟩).run Try.prog W' = .ok (.agg (idL x.id).toArray) W' := fun W' hW' => by
                rw [run_loadAgg Try.isAgg45 Try.sizeOf45, (obj_below hW' (show B + 1 < B + 3 by omega)).trans R1, subOf_cells (by simp), factL_id]
                rfl
              have y85 : ∀ W', Below (B + 3) wr W' → (loadAgg 85 ⟨B, 0, none⟩).run Try.prog W' = .ok (.agg #[.map (some m), .func (.func 63) #[] #[.pointer (some ⟨ub, 0, none⟩)]]) W' := fun W' hW' => by
                rw [run_load85, (obj_below hW' (show B < B + 3 by omega)).trans R0, subOf_cells (by simp), subA_all (by simp)]
                rfl
              have HR := Lib.hid (And.intro R0 R1)
              clear hrow hsub g69 HMN0 HSL2 hwv R0 R1
              go_wp2
              obtain ⟨R0, R1⟩ := HR.out
              refine wp_region_held_drew (S := fun W' => Below (B + 3) wr W') (by kernel_rfl) (Below.refl (B + 3) wr).drew (fun hS => ?_)
              have P3_D : Hid (obj wr.drew (B + 3) = some (.cells (winL ⟨x.node, x.id, x.move, s⟩).toArray 74 (0, 0))) := P3_0
              have PV_D : Hid (VqIn wr.drew (B + 4) (slV s) vq) := Lib.hid ⟨PV_0.out.1.drew, fun q hq => (PV_0.out.2 q hq).drew⟩
              have PD_D : Hid (OwnS wr.drew (B + 4) 3 1 iL (.slice (some ⟨g, 0, none⟩) dl.length cp) (nI dl)) := Lib.hid PD_0.out.drew
              clear P3_0 PV_0 PD_0
              have P3_0 := P3_D
              have PV_0 := PV_D
              have PD_0 := PD_D
              clear P3_D PV_D PD_D
              generalize wr.drew = wd at *
              refine wpAnyH_take (i := 0) (oi := { dst := some 59, op := Op.fieldAddr 74 (Operand.tmp 9) 3, type := 0, pos := _, after := _, guard := none }) (v := (.pointer (some ⟨B + 3, 34, none⟩))) rfl (by kernel_rfl) (by kernel_rfl) (by kernel_rfl) (fun _ _ _ h => h) (.inl ⟨by kernel_rfl, fun W' hW => by go_simp⟩) hS ?_
              try simp only [Act.put, List.setIfInBounds_toArray, List.set_cons_zero, List.set_cons_succ]
              refine wpAnyH_take (i := 2) (oi := { dst := some 61, op := Op.load 85 (Operand.tmp 4), type := 85, pos := _, after := _, guard := none }) (v := (.agg #[.map (some m), .func (.func 63) #[] #[.pointer (some ⟨ub, 0, none⟩)]])) rfl (by kernel_rfl) (by kernel_rfl) (by kernel_rfl) (fun _ _ _ h => h) (yieldsIf_agg (by kernel_rfl) 85 (.tmp 4) (by kernel_rfl) B 0 (by kernel_rfl) y85) hS ?_
              try simp only [Act.put, List.setIfInBounds_toArray, List.set_cons_zero, List.set_cons_succ]
              refine wpAnyH_take (i := 3) (oi := { dst := some 62, op := Op.move (Operand.tmp 2), type := 22, pos := _, after := _, guard := none }) (v := (.slice (some ⟨bb, off, none⟩) l.length cap)) rfl (by kernel_rfl) (by kernel_rfl) (by kernel_rfl) (fun _ _ _ h => h) (.inl ⟨by kernel_rfl, fun W' hW => by go_simp⟩) hS ?_
              try simp only [Act.put, List.setIfInBounds_toArray, List.set_cons_zero, List.set_cons_succ]
              refine wpAnyH_take (i := 4) (oi := { dst := some 63, op := Op.move (Operand.tmp 14), type := 3, pos := _, after := _, guard := none }) (v := (.int .i64 (i : Int))) rfl (by kernel_rfl) (by kernel_rfl) (by kernel_rfl) (fun _ _ _ h => h) (.inl ⟨by kernel_rfl, fun W' hW => by go_simp⟩) hS ?_
              try simp only [Act.put, List.setIfInBounds_toArray, List.set_cons_zero, List.set_cons_succ]
              refine wpAnyH_take (i := 5) (oi := { dst := some 64, op := Op.slice 22 (Operand.tmp 62) none (some (Operand.tmp 63)) none, type := 22, pos := _, after := _, guard := none }) (v := (.slice (some ⟨bb, off, none⟩) i cap)) rfl (by kernel_rfl) (by kernel_rfl) (by kernel_rfl) (fun _ _ _ h => h) (.inl ⟨by kernel_rfl, fun W' hW => by go_simp⟩) hS ?_
              try simp only [Act.put, List.setIfInBounds_toArray, List.set_cons_zero, List.set_cons_succ]
              refine wpAnyH_take (i := 6) (oi := { dst := some 65, op := Op.fieldAddr 54 (Operand.tmp 7) 2, type := 0, pos := _, after := _, guard := none }) (v := (.pointer (some ⟨B + 1, 2, none⟩))) rfl (by kernel_rfl) (by kernel_rfl) (by kernel_rfl) (fun _ _ _ h => h) (.inl ⟨by kernel_rfl, fun W' hW => by go_simp⟩) hS ?_
              try simp only [Act.put, List.setIfInBounds_toArray, List.set_cons_zero, List.set_cons_succ]
              refine wpAnyH_take (i := 7) (oi := { dst := some 66, op := Op.load 3 (Operand.tmp 65), type := 3, pos := _, after := _, guard := none }) (v := (.int .i64 x.node)) rfl (by kernel_rfl) (by kernel_rfl) (by kernel_rfl) (fun _ _ _ h => h) (.inl ⟨by kernel_rfl, fun W' hW => by have ob := (obj_below hW (show B + 1 < B + 3 by omega)).trans R1; have c := cell_at ob 2; have z := lt_of_obj ob; (try simp only [List.getElem?_toArray] at c); go_simp⟩) hS ?_
              try simp only [Act.put, List.setIfInBounds_toArray, List.set_cons_zero, List.set_cons_succ]
              refine wpAnyH_take (i := 8) (oi := { dst := some 67, op := Op.move (Operand.tmp 2), type := 22, pos := _, after := _, guard := none }) (v := (.slice (some ⟨bb, off, none⟩) l.length cap)) rfl (by kernel_rfl) (by kernel_rfl) (by kernel_rfl) (fun _ _ _ h => h) (.inl ⟨by kernel_rfl, fun W' hW => by go_simp⟩) hS ?_
              try simp only [Act.put, List.setIfInBounds_toArray, List.set_cons_zero, List.set_cons_succ]
              refine wpAnyH_take (i := 9) (oi := { dst := some 68, op := Op.move (Operand.tmp 14), type := 3, pos := _, after := _, guard := none }) (v := (.int .i64 (i : Int))) rfl (by kernel_rfl) (by kernel_rfl) (by kernel_rfl) (fun _ _ _ h => h) (.inl ⟨by kernel_rfl, fun W' hW => by go_simp⟩) hS ?_
              try simp only [Act.put, List.setIfInBounds_toArray, List.set_cons_zero, List.set_cons_succ]
              refine wpAnyH_take (i := 10) (oi := { dst := some 69, op := Op.indexAddr 22 (Operand.tmp 67) (Operand.tmp 68), type := 0, pos := _, after := _, guard := none }) (v := (.pointer (some ⟨bb, off + i * 72, none⟩))) rfl (by kernel_rfl) (by kernel_rfl) (by kernel_rfl) (fun _ _ _ h => h) (.inl ⟨by kernel_rfl, fun W' hW => by go_simp⟩) hS ?_
              try simp only [Act.put, List.setIfInBounds_toArray, List.set_cons_zero, List.set_cons_succ]
              refine wpAnyH_take (i := 11) (oi := { dst := some 70, op := Op.fieldAddr 54 (Operand.tmp 69) 7, type := 0, pos := _, after := _, guard := none }) (v := (.pointer (some ⟨bb, off + i * 72 + 69, none⟩))) rfl (by kernel_rfl) (by kernel_rfl) (by kernel_rfl) (fun _ _ _ h => h) (.inl ⟨by kernel_rfl, fun W' hW => by go_simp⟩) hS ?_
              try simp only [Act.put, List.setIfInBounds_toArray, List.set_cons_zero, List.set_cons_succ]
              refine wpAnyH_take (i := 12) (oi := { dst := some 71, op := Op.load 2 (Operand.tmp 70), type := 2, pos := _, after := _, guard := none }) (v := (.int .i64 y.poll)) rfl (by kernel_rfl) (by kernel_rfl) (by kernel_rfl) (fun _ _ _ h => h) (.inl ⟨by kernel_rfl, fun W' hW => by have c := HPO.out _ hW; have z := Nat.lt_of_lt_of_le hbbr hW.size; go_simp⟩) hS ?_
              try simp only [Act.put, List.setIfInBounds_toArray, List.set_cons_zero, List.set_cons_succ]
              refine wpAnyH_take (i := 13) (oi := { dst := some 72, op := Op.fieldAddr 54 (Operand.tmp 7) 4, type := 0, pos := _, after := _, guard := none }) (v := (.pointer (some ⟨B + 1, 4, none⟩))) rfl (by kernel_rfl) (by kernel_rfl) (by kernel_rfl) (fun _ _ _ h => h) (.inl ⟨by kernel_rfl, fun W' hW => by go_simp⟩) hS ?_
              try simp only [Act.put, List.setIfInBounds_toArray, List.set_cons_zero, List.set_cons_succ]
              refine wpAnyH_take (i := 14) (oi := { dst := some 73, op := Op.load 45 (Operand.tmp 72), type := 45, pos := _, after := _, guard := none }) (v := (.agg (idL x.id).toArray)) rfl (by kernel_rfl) (by kernel_rfl) (by kernel_rfl) (fun _ _ _ h => h) (yieldsIf_agg (by kernel_rfl) 45 (.tmp 72) (by kernel_rfl) (B + 1) 4 (by kernel_rfl) y45) hS ?_
              try simp only [Act.put, List.setIfInBounds_toArray, List.set_cons_zero, List.set_cons_succ]
              refine wpAnyH_ready (rs := [1, 15]) (by kernel_rfl) (by simp) (AllReadyH.cons rfl (fun K hK => ?_) (AllReadyH.cons rfl (fun K hK => ?_) AllReadyH.nil))
              · skip
                have c1 := cell_at P3_0.out 34
                simp only [List.getElem?_toArray, winL_34] at c1
                have z1 := lt_of_obj P3_0.out
                go_simp
                refine hK.out _ _ hS (fun hS1 => ?_)
                clear hK K c1 z1
                try simp only [Act.put, List.setIfInBounds_toArray, List.set_cons_zero, List.set_cons_succ]
                have P3_1 := P3_0
                have PV_1 := PV_0
                have PD_1 := PD_0
                refine wpAnyH_ready (rs := [15]) (by kernel_rfl) (by simp) (AllReadyH.cons rfl (fun K hK => ?_) AllReadyH.nil)
                go_simp
                refine (HVOT.out _ hS1).mono ?_
                rintro _ x2 ⟨v2, rfl, own2, hb2⟩
                obtain ⟨s1a, s1c, rfl, -, -, -⟩ := own2.slIn iL_length
                refine hK.out _ _ (hS1.trans (hb2.mono (Nat.le_trans (by omega) hS1.size))) (fun hS2 => ?_)
                clear hK K
                try simp only [Act.put, List.setIfInBounds_toArray, List.set_cons_zero, List.set_cons_succ]
                have PN_2 := Lib.hid (OwnS.lower own2 (show B + 4 ≤ _ from Nat.le_trans (by omega) hS1.size))
                have P3_2 := Lib.hid ((obj_below hb2 (lt_of_obj P3_1.out)).trans P3_1.out)
                have PV_2 := Lib.hid (PV_1.out.below hb2)
                have PD_2 := Lib.hid (PD_1.out.below hb2)
                clear own2 hb2
                refine wpAnyH_ready (rs := [16]) (by kernel_rfl) (by simp) (AllReadyH.cons rfl (fun K hK => ?_) AllReadyH.nil)
                go_simp
                refine hK.out _ _ (hS2.alloc (Nat.le_trans (by omega) hS2.size) _) (fun hS3 => ?_)
                clear hK K
                try simp only [Act.put, List.setIfInBounds_toArray, List.set_cons_zero, List.set_cons_succ]
                have P3_3 := Lib.hid ((obj_alloc_past _ (.cells #[.slice s1a nv.length s1c] 38) _ (lt_of_obj P3_2.out)).trans P3_2.out)
                have PV_3 : Hid (VqIn _ (B + 4) (slV s) vq) := Lib.hid ⟨PV_2.out.1.alloc (.cells #[.slice s1a nv.length s1c] 38), fun q hq => (PV_2.out.2 q hq).alloc (.cells #[.slice s1a nv.length s1c] 38)⟩
                have PD_3 := Lib.hid (PD_2.out.alloc (.cells #[.slice s1a nv.length s1c] 38))
                have PN_3 := Lib.hid (PN_2.out.alloc (.cells #[.slice s1a nv.length s1c] 38))
                have PB_3 : Hid (obj (x2.alloc (.cells #[.slice s1a nv.length s1c] 38)) x2.heap.size = some (.cells #[.slice s1a nv.length s1c] 38 (0, 0))) := Lib.hid (obj_alloc_at _ _ _ rfl)
                refine wpAnyH_ready (rs := [17]) (by kernel_rfl) (by simp) (AllReadyH.cons rfl (fun K hK => ?_) AllReadyH.nil)
                refine step_push72 rfl _ _ rfl (B + 4) _ vq (⟨s1a, nv.length, s1c⟩, nv) rfl PV_3.out.1 _ rfl PB_3.out (by omega) (Nat.le_trans (by omega) hS3.size) ?_
                intro v4 w4 own4 hb4 hk4
                refine hK.out _ _ (hS3.trans (hb4.mono (by omega))) (fun hS4 => ?_)
                clear hK K
                try simp only [Act.put, List.setIfInBounds_toArray, List.set_cons_zero, List.set_cons_succ]
                have P3_4 := Lib.hid ((obj_below hb4 (show B + 3 < B + 4 by omega)).trans P3_3.out)
                have PD_4 := Lib.hid (PD_3.out.past PV_3.out.1 (by decide) hk4)
                have PV_4 : Hid (VqIn w4 (B + 4) v4 (vq ++ [(⟨s1a, nv.length, s1c⟩, nv)])) := Lib.hid ⟨own4, fun q hq => by
                  rcases List.mem_append.1 hq with hq | hq
                  · exact (PV_3.out.2 q hq).past PV_3.out.1 (by decide) hk4
                  · simp only [List.mem_singleton] at hq
                    subst hq
                    exact PN_3.out.past PV_3.out.1 (by decide) hk4⟩
                obtain ⟨s2a, s2c, rfl, -, -, -⟩ := own4.slIn qL_length
                clear own4 hb4 hk4
                generalize (vq ++ [((⟨s1a, nv.length, s1c⟩ : SlD), nv)]).length = ln at *
                refine wpAnyH_take (i := 18) (oi := { dst := some 77, op := Op.fieldAddr 74 (Operand.tmp 9) 3, type := 0, pos := _, after := _, guard := none }) (v := (.pointer (some ⟨B + 3, 34, none⟩))) rfl (by kernel_rfl) (by kernel_rfl) (by kernel_rfl) (fun _ _ _ h => h) (.inl ⟨by kernel_rfl, fun W' hW => by go_simp⟩) hS4 ?_
                try simp only [Act.put, List.setIfInBounds_toArray, List.set_cons_zero, List.set_cons_succ]
                refine wpAnyH_ready (rs := [19]) (by kernel_rfl) (by simp) (AllReadyH.cons rfl (fun K hK => ?_) AllReadyH.nil)
                have c1 := cell_at P3_4.out 34
                simp only [List.getElem?_toArray, winL_34] at c1
                have z1 := lt_of_obj P3_4.out
                have f1 := frozen_at P3_4.out 34
                go_simp
                refine hK.out _ _ (hS4.setCell (p := ⟨B + 3, 34, none⟩) (show B + 3 ≤ B + 3 from Nat.le_refl _) _) (fun hS5 => ?_)
                clear hK K c1 z1 f1
                try simp only [Act.put, List.setIfInBounds_toArray, List.set_cons_zero, List.set_cons_succ]
                have P3_5 := Lib.hid (obj_setCell_at (b := B + 3) (i := 34) (.slice s2a ln s2c) P3_4.out)
                have PD_5 := Lib.hid (PD_4.out.setCell (a := ⟨B + 3, 34, none⟩) P3_4.out (fun cur e => by simp at e) (.slice s2a ln s2c))
                have PV_5 : Hid (VqIn _ (B + 4) (slV ⟨s2a, ln, s2c⟩) (vq ++ [(⟨s1a, nv.length, s1c⟩, nv)])) := Lib.hid ⟨PV_4.out.1.setCell (a := ⟨B + 3, 34, none⟩) P3_4.out (fun cur e => by simp at e) (.slice s2a ln s2c), fun q hq => (PV_4.out.2 q hq).setCell (a := ⟨B + 3, 34, none⟩) P3_4.out (fun cur e => by simp at e) (.slice s2a ln s2c)⟩
                refine wpAnyH_done (by kernel_rfl) ?_ _
                have HMN := Lib.hid (HMN1.out (⟨s1a, nv.length, s1c⟩, nv) rfl)
                rw [winL_set2] at P3_5
                have HQ9 := Lib.hid (HQ.out.trans hS5)
                go_wp2
                go_roundw
                case rel => exact ⟨j + 1, _, _, by omega, by go_num, P3_5, PV_5, HMN, PD_5, HQ9⟩
                case measure => simp [intOf]; omega
              · skip
                go_simp
                refine (HVOT.out _ hS).mono ?_
                rintro _ x1 ⟨v1, rfl, own1, hb1⟩
                obtain ⟨s1a, s1c, rfl, -, -, -⟩ := own1.slIn iL_length
                refine hK.out _ _ (hS.trans (hb1.mono (Nat.le_trans (by omega) hS.size))) (fun hS1 => ?_)
                clear hK K
                try simp only [Act.put, List.setIfInBounds_toArray, List.set_cons_zero, List.set_cons_succ]
                have PN_1 := Lib.hid (OwnS.lower own1 (show B + 4 ≤ _ from Nat.le_trans (by omega) hS.size))
                have P3_1 := Lib.hid ((obj_below hb1 (lt_of_obj P3_0.out)).trans P3_0.out)
                have PV_1 := Lib.hid (PV_0.out.below hb1)
                have PD_1 := Lib.hid (PD_0.out.below hb1)
                clear own1 hb1
                refine wpAnyH_ready (rs := [1, 16]) (by kernel_rfl) (by simp) (AllReadyH.cons rfl (fun K hK => ?_) (AllReadyH.cons rfl (fun K hK => ?_) AllReadyH.nil))
                · skip
                  have c1 := cell_at P3_1.out 34
                  simp only [List.getElem?_toArray, winL_34] at c1
                  have z1 := lt_of_obj P3_1.out
                  go_simp
                  refine hK.out _ _ hS1 (fun hS2 => ?_)
                  clear hK K c1 z1
                  try simp only [Act.put, List.setIfInBounds_toArray, List.set_cons_zero, List.set_cons_succ]
                  have P3_2 := P3_1
                  have PV_2 := PV_1
                  have PD_2 := PD_1
                  have PN_2 := PN_1
                  refine wpAnyH_ready (rs := [16]) (by kernel_rfl) (by simp) (AllReadyH.cons rfl (fun K hK => ?_) AllReadyH.nil)
                  go_simp
                  refine hK.out _ _ (hS2.alloc (Nat.le_trans (by omega) hS2.size) _) (fun hS3 => ?_)
                  clear hK K
                  try simp only [Act.put, List.setIfInBounds_toArray, List.set_cons_zero, List.set_cons_succ]
                  have P3_3 := Lib.hid ((obj_alloc_past _ (.cells #[.slice s1a nv.length s1c] 38) _ (lt_of_obj P3_2.out)).trans P3_2.out)
                  have PV_3 : Hid (VqIn _ (B + 4) (slV s) vq) := Lib.hid ⟨PV_2.out.1.alloc (.cells #[.slice s1a nv.length s1c] 38), fun q hq => (PV_2.out.2 q hq).alloc (.cells #[.slice s1a nv.length s1c] 38)⟩
                  have PD_3 := Lib.hid (PD_2.out.alloc (.cells #[.slice s1a nv.length s1c] 38))
                  have PN_3 := Lib.hid (PN_2.out.alloc (.cells #[.slice s1a nv.length s1c] 38))
                  have PB_3 : Hid (obj (x1.alloc (.cells #[.slice s1a nv.length s1c] 38)) x1.heap.size = some (.cells #[.slice s1a nv.length s1c] 38 (0, 0))) := Lib.hid (obj_alloc_at _ _ _ rfl)
                  refine wpAnyH_ready (rs := [17]) (by kernel_rfl) (by simp) (AllReadyH.cons rfl (fun K hK => ?_) AllReadyH.nil)
                  refine step_push72 rfl _ _ rfl (B + 4) _ vq (⟨s1a, nv.length, s1c⟩, nv) rfl PV_3.out.1 _ rfl PB_3.out (by omega) (Nat.le_trans (by omega) hS3.size) ?_
                  intro v4 w4 own4 hb4 hk4
                  refine hK.out _ _ (hS3.trans (hb4.mono (by omega))) (fun hS4 => ?_)
                  clear hK K
                  try simp only [Act.put, List.setIfInBounds_toArray, List.set_cons_zero, List.set_cons_succ]
                  have P3_4 := Lib.hid ((obj_below hb4 (show B + 3 < B + 4 by omega)).trans P3_3.out)
                  have PD_4 := Lib.hid (PD_3.out.past PV_3.out.1 (by decide) hk4)
                  have PV_4 : Hid (VqIn w4 (B + 4) v4 (vq ++ [(⟨s1a, nv.length, s1c⟩, nv)])) := Lib.hid ⟨own4, fun q hq => by
                    rcases List.mem_append.1 hq with hq | hq
                    · exact (PV_3.out.2 q hq).past PV_3.out.1 (by decide) hk4
                    · simp only [List.mem_singleton] at hq
                      subst hq
                      exact PN_3.out.past PV_3.out.1 (by decide) hk4⟩
                  obtain ⟨s2a, s2c, rfl, -, -, -⟩ := own4.slIn qL_length
                  clear own4 hb4 hk4
                  generalize (vq ++ [((⟨s1a, nv.length, s1c⟩ : SlD), nv)]).length = ln at *
                  refine wpAnyH_take (i := 18) (oi := { dst := some 77, op := Op.fieldAddr 74 (Operand.tmp 9) 3, type := 0, pos := _, after := _, guard := none }) (v := (.pointer (some ⟨B + 3, 34, none⟩))) rfl (by kernel_rfl) (by kernel_rfl) (by kernel_rfl) (fun _ _ _ h => h) (.inl ⟨by kernel_rfl, fun W' hW => by go_simp⟩) hS4 ?_
                  try simp only [Act.put, List.setIfInBounds_toArray, List.set_cons_zero, List.set_cons_succ]
                  refine wpAnyH_ready (rs := [19]) (by kernel_rfl) (by simp) (AllReadyH.cons rfl (fun K hK => ?_) AllReadyH.nil)
                  have c1 := cell_at P3_4.out 34
                  simp only [List.getElem?_toArray, winL_34] at c1
                  have z1 := lt_of_obj P3_4.out
                  have f1 := frozen_at P3_4.out 34
                  go_simp
                  refine hK.out _ _ (hS4.setCell (p := ⟨B + 3, 34, none⟩) (show B + 3 ≤ B + 3 from Nat.le_refl _) _) (fun hS5 => ?_)
                  clear hK K c1 z1 f1
                  try simp only [Act.put, List.setIfInBounds_toArray, List.set_cons_zero, List.set_cons_succ]
                  have P3_5 := Lib.hid (obj_setCell_at (b := B + 3) (i := 34) (.slice s2a ln s2c) P3_4.out)
                  have PD_5 := Lib.hid (PD_4.out.setCell (a := ⟨B + 3, 34, none⟩) P3_4.out (fun cur e => by simp at e) (.slice s2a ln s2c))
                  have PV_5 : Hid (VqIn _ (B + 4) (slV ⟨s2a, ln, s2c⟩) (vq ++ [(⟨s1a, nv.length, s1c⟩, nv)])) := Lib.hid ⟨PV_4.out.1.setCell (a := ⟨B + 3, 34, none⟩) P3_4.out (fun cur e => by simp at e) (.slice s2a ln s2c), fun q hq => (PV_4.out.2 q hq).setCell (a := ⟨B + 3, 34, none⟩) P3_4.out (fun cur e => by simp at e) (.slice s2a ln s2c)⟩
                  refine wpAnyH_done (by kernel_rfl) ?_ _
                  have HMN := Lib.hid (HMN1.out (⟨s1a, nv.length, s1c⟩, nv) rfl)
                  rw [winL_set2] at P3_5
                  have HQ9 := Lib.hid (HQ.out.trans hS5)
                  go_wp2
                  go_roundw
                  case rel => exact ⟨j + 1, _, _, by omega, by go_num, P3_5, PV_5, HMN, PD_5, HQ9⟩
                  case measure => simp [intOf]; omega
                · skip
                  go_simp
                  refine hK.out _ _ (hS1.alloc (Nat.le_trans (by omega) hS1.size) _) (fun hS2 => ?_)
                  clear hK K
                  try simp only [Act.put, List.setIfInBounds_toArray, List.set_cons_zero, List.set_cons_succ]
                  have P3_2 := Lib.hid ((obj_alloc_past _ (.cells #[.slice s1a nv.length s1c] 38) _ (lt_of_obj P3_1.out)).trans P3_1.out)
                  have PV_2 : Hid (VqIn _ (B + 4) (slV s) vq) := Lib.hid ⟨PV_1.out.1.alloc (.cells #[.slice s1a nv.length s1c] 38), fun q hq => (PV_1.out.2 q hq).alloc (.cells #[.slice s1a nv.length s1c] 38)⟩
                  have PD_2 := Lib.hid (PD_1.out.alloc (.cells #[.slice s1a nv.length s1c] 38))
                  have PN_2 := Lib.hid (PN_1.out.alloc (.cells #[.slice s1a nv.length s1c] 38))
                  have PB_2 : Hid (obj (x1.alloc (.cells #[.slice s1a nv.length s1c] 38)) x1.heap.size = some (.cells #[.slice s1a nv.length s1c] 38 (0, 0))) := Lib.hid (obj_alloc_at _ _ _ rfl)
                  refine wpAnyH_ready (rs := [1]) (by kernel_rfl) (by simp) (AllReadyH.cons rfl (fun K hK => ?_) AllReadyH.nil)
                  have c1 := cell_at P3_2.out 34
                  simp only [List.getElem?_toArray, winL_34] at c1
                  have z1 := lt_of_obj P3_2.out
                  go_simp
                  refine hK.out _ _ hS2 (fun hS3 => ?_)
                  clear hK K c1 z1
                  try simp only [Act.put, List.setIfInBounds_toArray, List.set_cons_zero, List.set_cons_succ]
                  have P3_3 := P3_2
                  have PV_3 := PV_2
                  have PD_3 := PD_2
                  have PN_3 := PN_2
                  have PB_3 := PB_2
                  refine wpAnyH_ready (rs := [17]) (by kernel_rfl) (by simp) (AllReadyH.cons rfl (fun K hK => ?_) AllReadyH.nil)
                  refine step_push72 rfl _ _ rfl (B + 4) _ vq (⟨s1a, nv.length, s1c⟩, nv) rfl PV_3.out.1 _ rfl PB_3.out (by omega) (Nat.le_trans (by omega) hS3.size) ?_
                  intro v4 w4 own4 hb4 hk4
                  refine hK.out _ _ (hS3.trans (hb4.mono (by omega))) (fun hS4 => ?_)
                  clear hK K
                  try simp only [Act.put, List.setIfInBounds_toArray, List.set_cons_zero, List.set_cons_succ]
                  have P3_4 := Lib.hid ((obj_below hb4 (show B + 3 < B + 4 by omega)).trans P3_3.out)
                  have PD_4 := Lib.hid (PD_3.out.past PV_3.out.1 (by decide) hk4)
                  have PV_4 : Hid (VqIn w4 (B + 4) v4 (vq ++ [(⟨s1a, nv.length, s1c⟩, nv)])) := Lib.hid ⟨own4, fun q hq => by
                    rcases List.mem_append.1 hq with hq | hq
                    · exact (PV_3.out.2 q hq).past PV_3.out.1 (by decide) hk4
                    · simp only [List.mem_singleton] at hq
                      subst hq
                      exact PN_3.out.past PV_3.out.1 (by decide) hk4⟩
                  obtain ⟨s2a, s2c, rfl, -, -, -⟩ := own4.slIn qL_length
                  clear own4 hb4 hk4
                  generalize (vq ++ [((⟨s1a, nv.length, s1c⟩ : SlD), nv)]).length = ln at *
                  refine wpAnyH_take (i := 18) (oi := { dst := some 77, op := Op.fieldAddr 74 (Operand.tmp 9) 3, type := 0, pos := _, after := _, guard := none }) (v := (.pointer (some ⟨B + 3, 34, none⟩))) rfl (by kernel_rfl) (by kernel_rfl) (by kernel_rfl) (fun _ _ _ h => h) (.inl ⟨by kernel_rfl, fun W' hW => by go_simp⟩) hS4 ?_
                  try simp only [Act.put, List.setIfInBounds_toArray, List.set_cons_zero, List.set_cons_succ]
                  refine wpAnyH_ready (rs := [19]) (by kernel_rfl) (by simp) (AllReadyH.cons rfl (fun K hK => ?_) AllReadyH.nil)
                  have c1 := cell_at P3_4.out 34
                  simp only [List.getElem?_toArray, winL_34] at c1
                  have z1 := lt_of_obj P3_4.out
                  have f1 := frozen_at P3_4.out 34
                  go_simp
                  refine hK.out _ _ (hS4.setCell (p := ⟨B + 3, 34, none⟩) (show B + 3 ≤ B + 3 from Nat.le_refl _) _) (fun hS5 => ?_)
                  clear hK K c1 z1 f1
                  try simp only [Act.put, List.setIfInBounds_toArray, List.set_cons_zero, List.set_cons_succ]
                  have P3_5 := Lib.hid (obj_setCell_at (b := B + 3) (i := 34) (.slice s2a ln s2c) P3_4.out)
                  have PD_5 := Lib.hid (PD_4.out.setCell (a := ⟨B + 3, 34, none⟩) P3_4.out (fun cur e => by simp at e) (.slice s2a ln s2c))
                  have PV_5 : Hid (VqIn _ (B + 4) (slV ⟨s2a, ln, s2c⟩) (vq ++ [(⟨s1a, nv.length, s1c⟩, nv)])) := Lib.hid ⟨PV_4.out.1.setCell (a := ⟨B + 3, 34, none⟩) P3_4.out (fun cur e => by simp at e) (.slice s2a ln s2c), fun q hq => (PV_4.out.2 q hq).setCell (a := ⟨B + 3, 34, none⟩) P3_4.out (fun cur e => by simp at e) (.slice s2a ln s2c)⟩
                  refine wpAnyH_done (by kernel_rfl) ?_ _
                  have HMN := Lib.hid (HMN1.out (⟨s1a, nv.length, s1c⟩, nv) rfl)
                  rw [winL_set2] at P3_5
                  have HQ9 := Lib.hid (HQ.out.trans hS5)
                  go_wp2
                  go_roundw
                  case rel => exact ⟨j + 1, _, _, by omega, by go_num, P3_5, PV_5, HMN, PD_5, HQ9⟩
                  case measure => simp [intOf]; omega
            · obtain rfl : j = t.length := by omega
              rw [List.take_length, ← hw1.out] at HM
              have P2 := Lib.hid ((obj_below HQ.out (show B + 2 < B + 3 by omega)).trans O2.out)
              have sp : subOf (obj wr (B + 1 + 1 + 1)) 0 35 = some (winL ⟨x.node, x.id, x.move, s⟩).toArray := by rw [show obj wr (B + 1 + 1 + 1) = _ from P3_0.out, subOf_cells (by simp), subA_all (by simp)]
              have hl3 := lt_of_obj P3_0.out
              have hl2 := lt_of_obj P2.out
              have f2 : putOf (obj wr (B + 1 + 1)) 0 35 (winL ⟨x.node, x.id, x.move, s⟩).toArray = _ := win_put ⟨x.node, x.id, x.move, s⟩ P2.out
              have o9 : obj (putObj wr (B + 1 + 1) (.cells (winL ⟨x.node, x.id, x.move, s⟩).toArray 74 (0, 0))) (B + 1 + 1) = some (.cells (winL ⟨x.node, x.id, x.move, s⟩).toArray 74 (0, 0)) := obj_putObj_eq _ _ _ hl2
              have V9 := Lib.hid (VqIn.put PV_0.out (b := B + 1 + 1) P2.out (.cells (winL ⟨x.node, x.id, x.move, s⟩).toArray 74 (0, 0)))
              have B9 := Lib.hid (B0.out.trans ((HQ.out.mono (show B ≤ B + 3 by omega)).trans (below_put0 wr (b := B + 1 + 1) (.cells (winL ⟨x.node, x.id, x.move, s⟩).toArray 74 (0, 0)) (show B ≤ B + 1 + 1 by omega))))
              have O9 := Lib.hid o9
              clear o9
              go_wp2
              exact bodyPost_ret (results_cell1 Try.results57 _ rfl (win_ret O9.out)) rfl ⟨_, _, rfl, by rw [hB]; exact V9.out.lower (by omega), HM.out, by rw [hB]; exact B9.out⟩
end Go.Proofs.Ytmenfbfekfljbaa
