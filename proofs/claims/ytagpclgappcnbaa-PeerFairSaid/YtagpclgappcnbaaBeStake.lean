import Derived.Test.YtagpclgappcnbaaBeStk
import Derived.BigRegionIn
import Derived.RangeFuncBox
namespace Go.Proofs.Ytagpclgappcnbaa.Be
open Go.RowKit Go.Shelf
attribute [local go_sem] Oper.semAt_some

theorem valAt_of {w : World} {base lb : Nat} {sv : Value} {xs : List Int} (h1 : obj w lb = some (.cells #[sv] 36 (0, 0))) (h2 : base ≤ lb) (h3 : OwnS w base 3 1 iL sv xs) : ValAt 36 1 iL (fun k => base ≤ k ∧ k < w.heap.size) w lb sv xs := by
  refine ⟨h1, h3.slIn iL_length, ⟨h2, lt_of_obj h1⟩, fun a l c e => ?_⟩
  rcases h3.1.2 with ⟨e', _⟩ | ⟨g, cap, cur, e', hb, hg, _⟩
  · rw [e] at e'; cases e'
  · rw [e] at e'; cases e'; exact ⟨hb, lt_of_obj hg⟩
def stkFrame (v1 v2 : Value) (now : Int) (bx nb n : Nat) (x : Int) (sq : Value) : Act :=
  { tmps := #[v1, v2, .int .i64 now, .pointer (some ⟨bx, 0, none⟩), undef, undef, .int .i64 0, .pointer (some ⟨nb, 0, none⟩), .int .i64 x, v1, .int .i64 0, .bool false, .bool false, v2, .int .i64 n, v1, .int .i64 n, .bool false, .bool false, v2, .int .i64 now, sq, .int .i64 x, undef, undef, undef, undef, undef, undef, undef, undef], defers := [] }
set_option maxRecDepth 100000 in
set_option maxHeartbeats 2000000 in
theorem stake_any (w : World) (v1 v2 : Value) (l : List Vd) (s : List St) (now : Int) (h : SlIn w v1 2 vdL l) (h2 : SlIn w v2 3 stL s) (hlen : s.length ≤ 4096) :
    Calls Try.prog 77 #[v1, v2, .int .i64 now] w fun e w' => e = .returned (.int .i64 (stkI l s now)) ∧ Below w.heap.size w w' := by
  have HS := Lib.hid h
  have HS2 := Lib.hid h2
  obtain ⟨oa, cap, rfl, g1, g2, g3⟩ := h
  unfold maxLen at g2
  have b1 : Below w.heap.size w (w.alloc (.cells #[.slice oa l.length cap] 28)) := (Below.refl _ w).alloc (Nat.le_refl _) _
  have o1 : obj (w.alloc (.cells #[.slice oa l.length cap] 28)) w.heap.size = some (.cells #[.slice oa l.length cap] 28 (0, 0)) := obj_alloc_at _ _ _ rfl
  have HK := Lib.hid (checkA _ _ l (HS.out.below b1))
  obtain ⟨oa2, cap2, rfl, k1, k2, k3⟩ := h2
  unfold maxLen at k2
  have H3 := Lib.hid g3
  clear g3 k3
  refine (callsIn_wide (n := 5)).1 ?_
  refine callsIn_of_wp_marks Try.func77 rfl trivial ?_ rfl
  simp only [Try.ntmps77, List.size_toArray, List.length_cons, List.length_nil, Nat.reduceAdd, Nat.reduceSub, Array.replicate_succ, Array.replicate_zero, List.push_toArray, List.append_toArray, List.nil_append, List.cons_append]
  gi_wp2
  refine ⟨trivial, (callsIn_wide.2 HK.out).mono ?_⟩
  generalize w.alloc (.cells #[.slice oa l.length cap] 28) = w1 at *
  rintro e w2 ⟨rfl, b2⟩
  have o2 := (obj_below b2 (lt_of_obj o1)).trans o1
  have B2 := Lib.hid (b1.trans (b2.mono b1.size))
  have z2 := lt_of_obj o2
  clear b2 o1 b1 HK
  rcases chk_cases l with hc | hc
  · by_cases hl : s.length = l.length
    · have HV := Lib.hid (show stkI l s now = stkF l (blL s now) from if_pos ⟨hc, hl⟩)
      obtain ⟨_, hl32, _, hw⟩ := chk_32 hc
      obtain ⟨s0, s1, s2⟩ := wtsF_sum _ _ hw (by decide)
      have HP := Lib.hid s2
      have HT := Lib.hid s1
      have HL := Lib.hid hl
      rw [hc]
      have cl : w2.cell? ⟨w.heap.size, 0, none⟩ = some (.slice oa l.length cap) := cell_at o2 0
      have hl' : (s.length : Int) = (l.length : Int) := by omega
      have o3 : obj (w2.alloc (.cells #[.int .i64 0] 2)) w.heap.size = some (.cells #[.slice oa l.length cap] 28 (0, 0)) := (obj_alloc_past _ _ _ z2).trans o2
      have n3 : obj (w2.alloc (.cells #[.int .i64 0] 2)) w2.heap.size = some (.cells #[.int .i64 0] 2 (0, 0)) := obj_alloc_at _ _ _ rfl
      have B3 := Lib.hid (B2.out.alloc B2.out.size (.cells #[.int .i64 0] 2))
      have HA := Lib.hid (all_any _ _ s now (HS2.out.below B3.out) hlen)
      clear hc hl hw s0 s1 s2
      gi_wp2
      refine ⟨trivial, (callsIn_wide.2 HA.out).mono ?_⟩
      generalize w2.heap.size = nb at *
      generalize w2.alloc (.cells #[.int .i64 0] 2) = w3 at *
      rintro e w4 ⟨lb, sv, rfl, q1, q2, q3, q4⟩
      have hV := valAt_of q1 q2 q3
      have HQ := Lib.hid (values_seq 4 (by decide) (fun k hk => hk.2) hV)
      have o4 := (obj_below q4 (lt_of_obj o3)).trans o3
      have n4 := (obj_below q4 (lt_of_obj n3)).trans n3
      have B4 := Lib.hid (B3.out.trans (q4.mono B3.out.size))
      have hz3 := lt_of_obj o3
      have hz3n := lt_of_obj n3
      have hz4 := q4.size
      clear hV q1 q2 q3 q4 HA
      gi_wp2
      refine wpIn_range_own rfl (by decide) (gf := 98) (lb := #[.pointer (some ⟨lb, 0, none⟩)]) rfl trivial eg49 (fun k hk => hk.2) HQ.out (Agree.refl _ _) (fun _ => rfl)
        (fun pre G W => (G = fun k => k = nb) ∧ obj W w.heap.size = some (.cells #[.slice oa l.length cap] 28 (0, 0)) ∧ obj W nb = some (.cells #[.int .i64 (stkF l pre)] 2 (0, 0)) ∧ Below w.heap.size w W)
        (fun c pre G W => False) ?hIo ?hI ?hIx (fun k => k = nb) ⟨rfl, o4, n4, B4.out⟩
        (fun x a' W => a' = stkFrame (.slice oa l.length cap) (.slice oa2 s.length cap2) now w.heap.size nb l.length x (.func (.func 98) #[] #[.pointer (some ⟨lb, 0, none⟩)]))
        ?hAx ?assign ?body ?done ?stop
      case hIo =>
        rintro pre G W ⟨rfl, _, h, _⟩ k rfl
        exact ⟨fun hd => by omega, lt_of_obj h⟩
      case hI =>
        rintro pre G W W' ⟨rfl, h1, h2, h3⟩ hk
        have hz := B4.out.size
        exact ⟨rfl, (hk.block _ (lt_of_obj h1) (fun hh => by omega)).trans h1, (hk.block _ (lt_of_obj h2) (fun hh => hh.2 rfl)).trans h2, h3.trans (hk.below (fun k hh => by omega) h3.size)⟩
      case hIx =>
        rintro c pre G W W' h _
        exact h
      case hAx =>
        rintro x a' W r o o' h _ _
        exact h
      case assign =>
        rintro l' pre G x W' K _ hK
        have HK := Lib.hid hK
        clear hK
        gi_wp2
        exact HK.out _ _ (Below.refl _ _) rfl
      case body =>
        rintro l' pre G x a' W hl hlw hnl ⟨rfl, i1, i2, i3⟩ rfl hpre
        obtain ⟨k, rfl, _, hk⟩ := blF_mem now s 0 x (hpre.subset (by simp))
        have hk2 : k < l.length := by have := HL.out; omega
        obtain ⟨b, off, hoa, hbb, hrow⟩ := H3.out (by omega)
        subst hoa
        have hs1 := hrow k hk2
        rw [← obj_below i3 hbb] at hs1
        have hw0 : wtA l (k : Int) = l[k].wt := by unfold wtA; simp [List.getD, hk2]
        have hle := stkF_le HP.out HL.out hpre
        have hp0 := stkF_pos HP.out pre
        have hp1 := HP.out _ (List.getElem_mem hk2)
        have ht := HT.out
        rw [stkF_app] at hle
        have hone : stkF l [(k : Int)] = l[k].wt := by simp [stkF, hw0]
        rw [hone] at hle
        have hfin : stkF l (pre ++ [(k : Int)]) = stkF l pre + l[k].wt := by rw [stkF_app, hone]
        generalize l[k] = y at *
        obtain ⟨yn, yw⟩ := y
        simp only at hp1 hle hfin hone
        have c1 : W.cell? ⟨b, off + k * 2 + 1, none⟩ = some (.int .i64 yw) := by have := subOf_cell hs1 (j := 1) (by decide); simpa using this
        have cn : W.cell? ⟨nb, 0, none⟩ = some (.int .i64 (stkF l pre)) := cell_at i2 0
        have cx : W.cell? ⟨w.heap.size, 0, none⟩ = some (.slice (some ⟨b, off, none⟩) l.length cap) := cell_at i1 0
        have fn : ∀ i, W.frozen? ⟨nb, i, none⟩ = false := frozen_at i2
        have HF : Hid (stkF l (pre ++ [(k : Int)]) = stkF l pre + yw) := Lib.hid hfin
        have I1 := Lib.hid i1
        have I2 := Lib.hid i2
        have I3 := Lib.hid i3
        have hnb := lt_of_obj i2
        generalize hn : stkF l pre = n at *
        have mixed : Try.prog.follows .mixedOrders = true := by kernel_rfl
        have hny : n + yw ≤ 4611686018427387903 := by omega
        have hwr : IntKind.i64.wrap (n + yw) = n + yw := by simp [IntKind.wrap, IntKind.signed, IntKind.bits]; omega
        have fin : Hid (bodyG (fun pre G W => (G = fun k => k = nb) ∧ obj W w.heap.size = some (.cells #[.slice (some ⟨b, off, none⟩) l.length cap] 28 (0, 0)) ∧ obj W nb = some (.cells #[.int .i64 (stkF l pre)] 2 (0, 0)) ∧ Below w.heap.size w W) (fun c pre G W => False) (pre ++ [(k : Int)]) (fun k => k = nb) W .normal { tmps := #[], defers := [] } (W.setCell ⟨nb, 0, none⟩ (.int .i64 (n + yw))).drew) := Lib.hid (by
          refine ⟨fun k => k = nb, ⟨rfl, ?_, ?_, ?_⟩, ?_, GrowsG.refl _ _⟩
          · rw [obj_drew]; exact (obj_setCell_ne _ ⟨nb, 0, none⟩ _ _ (Nat.ne_of_lt z2)).trans I1.out
          · rw [obj_drew, HF.out]; exact obj_setCell_at _ I2.out
          · exact (I3.out.setCell (Nat.le_of_lt z2) _).drew
          · exact ((Keeps.refl (fun k => k = nb) W).setCell (a := ⟨nb, 0, none⟩) (.inl rfl) _).drew)
        clear hn hfin hone hw0 hrow hs1 i1 i2 i3 hle HS ht
        simp only [stkFrame]
        gi_wp2
        gi_region
        all_goals exact fin.out
      case done =>
        rintro d G W hD _ ⟨rfl, i1, i2, i3⟩ hk _ hKD
        have hb := lt_of_obj i2
        have cb : W.cell? ⟨nb, 0, none⟩ = some (.int .i64 (stkF l (blL s now))) := cell_at i2 0
        have HK := Lib.hid hk
        have hz := B4.out.size
        clear hk
        gi_wp2
        refine ⟨by simp, .inl ⟨_, _, rfl, run_takeDeferred hKD, ?_⟩⟩
        have hgr := grownBy_putObj' W d (.deferred none)
        have hrr : ∀ r, some d = some r → w.heap.size ≤ r ∧ ∃ o : Obj, W.heap[r]? = some o ∧ o.isCells = false := fun r e => by cases e; exact ⟨by omega, _, hKD, rfl⟩
        exact ⟨_, results_tmp rfl _ _ _, by rw [HV.out]; rfl, below_grown i3 (Nat.le_refl _) (Nat.le_refl _) hgr hrr⟩
      case stop =>
        rintro d c pre G W _ _ _ h
        exact h.elim
    · have HV := Lib.hid (show stkI l s now = 0 from if_neg (fun h => hl h.2))
      rw [hc]
      have cl : w2.cell? ⟨w.heap.size, 0, none⟩ = some (.slice oa l.length cap) := cell_at o2 0
      have hl' : ¬ (s.length : Int) = (l.length : Int) := by omega
      clear hc hl
      gi_wp2
      exact ⟨_, results_tmp rfl _ _ _, by rw [HV.out]; rfl, B2.out⟩
  · have HV := Lib.hid (show stkI l s now = 0 from if_neg (fun h => by rw [h.1] at hc; cases hc))
    have cl : w2.cell? ⟨w.heap.size, 0, none⟩ = some (.slice oa l.length cap) := cell_at o2 0
    generalize chk l = c at *
    gi_wp2
    exact ⟨_, results_tmp rfl _ _ _, by rw [HV.out]; rfl, B2.out⟩
end Go.Proofs.Ytagpclgappcnbaa.Be
