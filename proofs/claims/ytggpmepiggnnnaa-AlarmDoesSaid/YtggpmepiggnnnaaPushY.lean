import Derived.Test.YtggpmepiggnnnaaPushW
namespace Go.Proofs.Ytggpmepiggnnnaa
open Go.RowKit

theorem run_row29 (a b : Int) (w : World) : (Instr.buildSlice 29 1 #[(0, .agg #[.int .i64 a, .int .i64 b])]).run Try.prog w = .ok (.slice (some ⟨w.heap.size, 0, none⟩) 1 1) (w.alloc (.cells #[.int .i64 a, .int .i64 b] 32)) := by kernel_rfl
set_option maxRecDepth 100000 in
set_option maxHeartbeats 2000000 in
/-- Push where it says yes -/
theorem push_yes (w : World) (F : Nat → Prop) (hb m : Nat) (sv : Value) (L : List Al) (M : List (Int × Int)) (t k : Int) (h : RawAt w F hb m sv L M) (hs : Spec L M) (hn : pushE L t k = 0) :
    Calls Try.prog 11 #[.pointer (some ⟨hb, 0, none⟩), .int .i64 t, .int .i64 k] w fun e w' => e = .returned (.int .i64 0) ∧
      (∃ F' sv' M', RawAt w' F' hb m sv' (rise (L ++ [(t, k)]) L.length) M' ∧ Spec (rise (L ++ [(t, k)]) L.length) M' ∧ ∀ n, F' n → F n ∨ w.heap.size ≤ n) ∧ Keeps F w w' := by
  have hE : mayB t = true ∧ hasK L k = false ∧ L.length < 4096 := by
    unfold pushE at hn
    split at hn
    · cases hn
    · split at hn
      · cases hn
      · split at hn
        · cases hn
        · rename_i h1 h2 h3
          exact ⟨by simpa using h1, by simpa using h2, by omega⟩
  obtain ⟨e1, e2, e3⟩ := hE
  have HNO := Lib.hid h.none
  have hmay := may_any w t
  rw [e1] at hmay
  have HM := Lib.hid hmay
  have hk := hs.has k
  rw [e2] at hk
  have hgn : aGet k M = none := by cases hg : aGet k M with
    | none => rfl
    | some _ => rw [hg] at hk; cases hk
  have hl := run_lookup_int (P := Try.prog) (w := w) (m := m) (enc := intV) Try.underlying66 Try.underlying2 zero3' h.map k
  rw [hgn] at hl
  simp only at hl
  have HSP := Lib.hid (hs.push (t, k) hgn)
  obtain ⟨oa, cap, rfl, q1, q2, q3⟩ := row_sub h.row
  unfold maxLen at q2
  have hbox := h.box
  have hbz := lt_of_obj hbox
  have c0 : w.cell? ⟨hb, 0, none⟩ = some (.slice oa L.length cap) := cell_at hbox 0
  have c1 : w.cell? ⟨hb, 1, none⟩ = some (.map (some m)) := cell_at hbox 1
  have hgl : ¬ (4096 : Int) ≤ (L.length : Int) := by omega
  have nb : ∀ g, (Value.slice oa L.length cap).ownBlock = some g → g ≠ hb ∧ g ≠ m := fun g hg => by
    rcases h.row.2 with ⟨e, _⟩ | ⟨g', cap', cur', e, _, ho, _⟩
    · rw [e] at hg; cases hg
    · rw [e] at hg
      simp only [Value.ownBlock, Option.some.injEq] at hg
      subst hg
      have ho' : obj w g' = some (.cells cur' 32 (0, 0)) := ho
      obtain ⟨es, clk, hmm, _⟩ := h.map
      exact ⟨fun e => (by subst e; rw [hbox] at ho'; cases ho'), fun e => (by subst e; rw [hmm] at ho'; cases ho')⟩
  have hrow29 := run_row29
  have HH := Lib.hid h
  have NB := Lib.hid nb
  have HBX := Lib.hid hbox
  clear h hs q3 hmay hk hgn nb hn hbox
  go_enter Try.func11, Try.ntmps11
  go_wp2_with fail
  refine HNO.out.mono ?_
  rintro e w1 ⟨rfl, rfl⟩
  go_wp2_with fail
  refine HM.out.mono ?_
  rintro e w2 ⟨rfl, rfl⟩
  go_wp2_with (at_builtin; refine push29 rfl _ _ rfl _ L (0, 0) rfl (HH.out.row.alloc _) w2.heap.size rfl (obj_alloc_at _ _ _ rfl) (by omega) ?_; intro v' w3 h3 hg3 hob; obtain ⟨oa', cap', rfl, p1, p2, p3⟩ := row_sub h3; have o3 : obj w3 hb = some (.cells #[.slice oa L.length cap, .map (some m), .bool true] 68 (0, 0)) := (hg3.block hb (by simp; omega) (fun e => (NB.out hb e.symm).1 rfl)).trans ((obj_alloc_past _ _ _ hbz).trans HBX.out); have c3 := cell_at o3 0; have f3 := frozen_at o3; have z3 := lt_of_obj o3; have H3 := Lib.hid h3; have G3 := Lib.hid hg3; have O3 := Lib.hid hob; clear h3 hg3 hob p3)
  have hl1 : (L ++ [((0 : Int), (0 : Int))]).length = L.length + 1 := by simp
  have R4 : RawAt (w3.setCell ⟨hb, 0, none⟩ (.slice oa' (L.length + 1) cap')) (fun n => F n ∨ (Value.slice oa' (L.length + 1) cap').ownBlock = some n) hb m (.slice oa' (L.length + 1) cap') (L ++ [(0, 0)]) M := by
    have r3 := H3.out
    rw [hl1] at r3
    have hne : ∀ g, (Value.slice oa' (L.length + 1) cap').ownBlock = some g → g ≠ hb := fun g hg e => by
      rcases r3.2 with ⟨e', _⟩ | ⟨g', cap'', cur', e', _, ho, _⟩
      · rw [e'] at hg; cases hg
      · rw [e'] at hg
        simp only [Value.ownBlock, Option.some.injEq] at hg
        subst hg
        have ho' : obj w3 g' = some (.cells cur' 32 (0, 0)) := ho
        rw [e, o3] at ho'
        cases ho'
    have hsz3 := G3.out.size
    refine ⟨by rw [obj_setCell_at _ o3]; rfl, ⟨by rw [flatMap_len alL_length], ?_⟩, ?_, .inl HH.out.fb, .inl HH.out.fm, fun g hg => .inr hg, fun n hn => ?_⟩
    · rcases r3.2 with ⟨e', h0⟩ | ⟨g', cap'', cur', e', hge, ho, h4⟩
      · omega
      · refine .inr ⟨g', cap'', cur', by rw [hl1]; exact e', hge, (obj_setCell_ne _ ⟨hb, 0, none⟩ _ _ (hne g' (by rw [e']; rfl))).trans ho, by rw [hl1]; exact h4⟩
    · obtain ⟨es, clk, hmm, hr⟩ := HH.out.map
      have hmb : m ≠ hb := fun e => by
        have := HBX.out
        rw [← e, hmm] at this
        cases this
      refine ⟨es, clk, (obj_setCell_ne _ ⟨hb, 0, none⟩ _ _ hmb).trans ((G3.out.block m (by have := lt_of_obj hmm; simp; omega) (fun e => (NB.out m e.symm).2 rfl)).trans ((obj_alloc_past _ _ _ (lt_of_obj hmm)).trans hmm)), hr⟩
    · have hz : (w3.setCell ⟨hb, 0, none⟩ (.slice oa' (L.length + 1) cap')).heap.size = w3.heap.size := by simp
      rw [hz]
      rcases hn with hn | hn
      · have := HH.out.old n hn
        simp at hsz3
        omega
      · exact (r3.lt n hn).2
  have K4 : Keeps F w2 (w3.setCell ⟨hb, 0, none⟩ (.slice oa' (L.length + 1) cap')) := by
    have g3 := G3.out
    have k3 : Keeps F w2 w3 := ⟨g3.os, g3.tape, g3.output, Nat.le_trans (by simp) g3.size, fun n hn hf => (g3.block n (by simp; omega) (fun e => hf (HH.out.fr n e.symm))).trans (obj_alloc_past _ _ _ hn)⟩
    exact k3.setCell (a := ⟨hb, 0, none⟩) (.inl HH.out.fb) _
  have c4 : (w3.setCell ⟨hb, 0, none⟩ (.slice oa' (L.length + 1) cap')).cell? ⟨hb, 0, none⟩ = some (.slice oa' (L.length + 1) cap') := cell_at R4.box 0
  have O3' : (Value.slice oa' (L.length + 1) cap').ownBlock = (Value.slice oa L.length cap).ownBlock ∨ (Value.slice oa' (L.length + 1) cap').ownBlock = some (w2.heap.size + 1) := by
    have e := O3.out
    rw [hl1] at e
    rcases e with e | e
    · exact .inl e
    · exact .inr (e.trans (by simp))
  have HF' : Hid (∀ n, (F n ∨ (Value.slice oa' (L.length + 1) cap').ownBlock = some n) → F n ∨ w2.heap.size ≤ n) := Lib.hid (fun n hn => by
    rcases hn with hn | hn
    · exact .inl hn
    · rcases O3' with e | e
      · exact .inl (HH.out.fr n (by rw [← e]; exact hn))
      · rw [e] at hn
        simp at hn
        exact .inr (by omega))
  obtain ⟨F', R4, HF'⟩ : ∃ F' : Nat → Prop, RawAt (w3.setCell ⟨hb, 0, none⟩ (.slice oa' (L.length + 1) cap')) F' hb m (.slice oa' (L.length + 1) cap') (L ++ [(0, 0)]) M ∧ Hid (∀ n, F' n → F n ∨ w2.heap.size ≤ n) := ⟨_, R4, HF'⟩
  have hset : (L ++ [((0 : Int), (0 : Int))]).set L.length (t, k) = L ++ [(t, k)] := by simp
  have HLY := Lib.hid (lay_any _ F' hb m _ _ M L.length (t, k) R4 (by rw [hl1]; omega))
  rw [hset] at HLY
  have K4' := Lib.hid K4
  clear R4 K4 hset
  generalize w3.setCell ⟨hb, 0, none⟩ (.slice oa' (L.length + 1) cap') = w4 at *
  refine HLY.out.mono ?_
  rintro e w5 ⟨⟨v5, rfl⟩, r5, k5⟩
  have c5 : w5.cell? ⟨hb, 0, none⟩ = some (.slice oa' (L.length + 1) cap') := cell_at r5.box 0
  have HRS := Lib.hid (rise_any w5 F' hb m _ _ _ L.length r5 HSP.out (by simp) (by simp; omega))
  have K5 := Lib.hid k5
  have z5 := r5.lt.1
  clear r5 k5 c4
  go_wp2_with fail
  refine HRS.out.mono ?_
  rintro e w6 ⟨⟨v6, rfl⟩, ⟨M6, r6, s6⟩, k6⟩
  have HF6 := Lib.hid (And.intro r6 (And.intro s6 (K5.out.trans k6)))
  clear r6 s6 k6
  go_wp2
  go_ret
  have kk := HF6.out.2.2
  have k4 := K4'.out
  exact ⟨rfl, ⟨F', _, M6, HF6.out.1, HF6.out.2.1, HF'.out⟩, ⟨kk.os.trans k4.os, kk.tape.trans k4.tape, kk.output.trans k4.output, Nat.le_trans k4.size kk.size, fun n hn hf =>
    (kk.block n (Nat.lt_of_lt_of_le hn k4.size) (fun h => by rcases HF'.out n h with h | h; exact hf h; omega)).trans (k4.block n hn hf)⟩⟩
end Go.Proofs.Ytggpmepiggnnnaa
