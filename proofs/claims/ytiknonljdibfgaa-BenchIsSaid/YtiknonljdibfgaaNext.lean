import Derived.Test.YtiknonljdibfgaaStake
import Derived.Test.YtiknonljdibfgaaEqs
import Derived.BigRegionIn
namespace Go.Proofs.Ytiknonljdibfgaa
open Go.RowKit Go.Shelf
attribute [local go_sem] Oper.semAt_some

/-! ### when the next one is free -/
def untA (s : List St) (v : Int) : Int := (s.getD v.toNat ⟨0, 0, 0⟩).u
def nxS (s : List St) (n v : Int) : Int := if n = 0 ∨ untA s v < n then untA s v else n
def nxF (s : List St) (l : List Int) : Int := l.foldl (nxS s) 0
theorem nxF_snoc (s : List St) (l : List Int) (v : Int) : nxF s (l ++ [v]) = nxS s (nxF s l) v := by unfold nxF; rw [List.foldl_append]; rfl
def nxFrame (v1 : Value) (now : Int) (bx nb : Nat) (x : Int) (sq : Value) : Act :=
  { tmps := #[v1, .int .i64 now, .pointer (some ⟨bx, 0, none⟩), undef, .int .i64 0, .pointer (some ⟨nb, 0, none⟩), .int .i64 x, v1, .int .i64 now, sq, .int .i64 x, undef, undef, undef, undef, undef, undef, undef, undef, undef, undef, undef, undef, undef, undef, undef, undef, undef], defers := [] }
set_option maxRecDepth 100000 in
set_option maxHeartbeats 2000000 in
theorem next_any (w : World) (v2 : Value) (s : List St) (now : Int) (h2 : SlIn w v2 3 stL s) (hlen : s.length ≤ 4096) :
    Calls Try.prog 27 #[v2, .int .i64 now] w fun e w' => e = .returned (.int .i64 (nxF s (blL s now))) ∧ Below w.heap.size w w' := by
  have HS2 := Lib.hid h2
  obtain ⟨oa2, cap2, rfl, k1, k2, k3⟩ := h2
  unfold maxLen at k2
  have H3 := Lib.hid k3
  clear k3
  have b1 : Below w.heap.size w (w.alloc (.cells #[.slice oa2 s.length cap2] 31)) := (Below.refl _ w).alloc (Nat.le_refl _) _
  have o1 : obj (w.alloc (.cells #[.slice oa2 s.length cap2] 31)) w.heap.size = some (.cells #[.slice oa2 s.length cap2] 31 (0, 0)) := obj_alloc_at _ _ _ rfl
  have o2 : obj ((w.alloc (.cells #[.slice oa2 s.length cap2] 31)).alloc (.cells #[.int .i64 0] 2)) w.heap.size = some (.cells #[.slice oa2 s.length cap2] 31 (0, 0)) := (obj_alloc_past _ _ _ (by simp)).trans o1
  have n2 : obj ((w.alloc (.cells #[.slice oa2 s.length cap2] 31)).alloc (.cells #[.int .i64 0] 2)) (w.heap.size + 1) = some (.cells #[.int .i64 0] 2 (0, 0)) := obj_alloc_at _ _ _ (by simp)
  have b2 : Below w.heap.size w ((w.alloc (.cells #[.slice oa2 s.length cap2] 31)).alloc (.cells #[.int .i64 0] 2)) := b1.alloc (by simp) _
  have HA := Lib.hid (all_any _ _ s now (HS2.out.below b2) hlen)
  refine (callsIn_wide (n := 5)).1 ?_
  refine callsIn_of_wp_marks Try.func27 rfl trivial ?_ rfl
  simp only [Try.ntmps27, List.size_toArray, List.length_cons, List.length_nil, Nat.reduceAdd, Nat.reduceSub, Array.replicate_succ, Array.replicate_zero, List.push_toArray, List.append_toArray, List.nil_append, List.cons_append]
  gi_wp2
  refine ⟨trivial, (callsIn_wide.2 HA.out).mono ?_⟩
  have hz2 : ((w.alloc (.cells #[.slice oa2 s.length cap2] 31)).alloc (.cells #[.int .i64 0] 2)).heap.size = w.heap.size + 2 := by simp
  generalize (w.alloc (.cells #[.slice oa2 s.length cap2] 31)).alloc (.cells #[.int .i64 0] 2) = w3 at *
  rintro e w4 ⟨lb, sv, rfl, q1, q2, q3, q4⟩
  have hV := valAt_of q1 q2 q3
  have HQ := Lib.hid (values_seq 4 (by decide) (fun k hk => hk.2) hV)
  have o4 := (obj_below q4 (lt_of_obj o2)).trans o2
  have n4 := (obj_below q4 (lt_of_obj n2)).trans n2
  have B4 := Lib.hid (b2.trans (q4.mono b2.size))
  have hz4 := q4.size
  clear hV q1 q2 q3 q4 HA o1 b1 o2 n2 b2
  gi_wp2
  refine wpIn_range_own rfl (by decide) (gf := 49) (lb := #[.pointer (some ⟨lb, 0, none⟩)]) rfl trivial eg49 (fun k hk => hk.2) HQ.out (Agree.refl _ _) (fun _ => rfl)
    (fun pre G W => (G = fun k => k = w.heap.size + 1) ∧ obj W w.heap.size = some (.cells #[.slice oa2 s.length cap2] 31 (0, 0)) ∧ obj W (w.heap.size + 1) = some (.cells #[.int .i64 (nxF s pre)] 2 (0, 0)) ∧ Below w.heap.size w W)
    (fun c pre G W => False) ?hIo ?hI ?hIx (fun k => k = w.heap.size + 1) ⟨rfl, o4, n4, B4.out⟩
    (fun x a' W => a' = nxFrame (.slice oa2 s.length cap2) now w.heap.size (w.heap.size + 1) x (.func (.func 49) #[] #[.pointer (some ⟨lb, 0, none⟩)]))
    ?hAx ?assign ?body ?done ?stop
  case hIo =>
    rintro pre G W ⟨rfl, _, h, _⟩ k rfl
    exact ⟨fun hd => by omega, lt_of_obj h⟩
  case hI =>
    rintro pre G W W' ⟨rfl, h1, h2, h3⟩ hk
    have hz := B4.out.size
    exact ⟨rfl, (hk.block _ (lt_of_obj h1) (fun hh => by omega)).trans h1, (hk.block _ (lt_of_obj h2) (fun hh => hh.2 rfl)).trans h2, h3.trans (hk.below (fun k hh => by omega) h3.size)⟩
  case hIx =>
    rintro c pre G W W' h _
    exact h
  case hAx =>
    rintro x a' W r o o' h _ _
    exact h
  case assign =>
    rintro l' pre G x W' K _ hK
    have HK := Lib.hid hK
    clear hK
    gi_wp2
    exact HK.out _ _ (Below.refl _ _) rfl
  case body =>
    rintro l' pre G x a' W hl hlw hnl ⟨rfl, i1, i2, i3⟩ rfl hpre
    obtain ⟨k, rfl, _, hk⟩ := blF_mem now s 0 x (hpre.subset (by simp))
    have hk2 : k < s.length := by omega
    obtain ⟨b, off, hoa, hbb, hrow⟩ := H3.out (by omega)
    subst hoa
    have hs1 := hrow k hk2
    rw [← obj_below i3 hbb] at hs1
    have hu : untA s (k : Int) = s[k].u := by unfold untA; simp [List.getD, hk2]
    have hfin := nxF_snoc s pre (k : Int)
    unfold nxS at hfin
    rw [hu] at hfin
    generalize s[k] = y at *
    obtain ⟨yf, ys, yu⟩ := y
    simp only at hfin hu
    have c1 : W.cell? ⟨b, off + k * 3 + 2, none⟩ = some (.int .i64 yu) := by have := subOf_cell hs1 (j := 2) (by decide); simpa using this
    have cn : W.cell? ⟨w.heap.size + 1, 0, none⟩ = some (.int .i64 (nxF s pre)) := cell_at i2 0
    have cx : W.cell? ⟨w.heap.size, 0, none⟩ = some (.slice (some ⟨b, off, none⟩) s.length cap2) := cell_at i1 0
    have fn : ∀ i, W.frozen? ⟨w.heap.size + 1, i, none⟩ = false := frozen_at i2
    have hbl : b < W.heap.size := Nat.lt_of_lt_of_le hbb i3.size
    have I1 := Lib.hid i1
    have I2 := Lib.hid i2
    have I3 := Lib.hid i3
    have hnb := lt_of_obj i2
    have HF := Lib.hid hfin
    generalize hn : nxF s pre = n at *
    have mixed : Try.prog.follows .mixedOrders = true := by kernel_rfl
    have fin : ∀ m : Int, m = n ∨ m = yu → nxF s (pre ++ [(k : Int)]) = m → Hid (∀ j, bodyG (fun pre G W => (G = fun k => k = w.heap.size + 1) ∧ obj W w.heap.size = some (.cells #[.slice (some ⟨b, off, none⟩) s.length cap2] 31 (0, 0)) ∧ obj W (w.heap.size + 1) = some (.cells #[.int .i64 (nxF s pre)] 2 (0, 0)) ∧ Below w.heap.size w W) (fun c pre G W => False) (pre ++ [(k : Int)]) (fun k => k = w.heap.size + 1) W .normal { tmps := #[], defers := [] } ((W.drewN j).setCell ⟨w.heap.size + 1, 0, none⟩ (.int .i64 m))) := fun m _ hm => Lib.hid (by
      intro j
      refine ⟨fun k => k = w.heap.size + 1, ⟨rfl, ?_, ?_, ?_⟩, ?_, GrowsG.refl _ _⟩
      · exact (obj_setCell_ne (W.drewN j) ⟨w.heap.size + 1, 0, none⟩ _ _ (by simp)).trans I1.out
      · rw [hm]; exact obj_setCell_at (w := W.drewN j) _ I2.out
      · exact (below_drewN I3.out j).setCell (by simp) _
      · exact ((Keeps.refl (fun k => k = w.heap.size + 1) W).drewN j).setCell (a := ⟨w.heap.size + 1, 0, none⟩) (.inl rfl) _)
    have fin0 : nxF s (pre ++ [(k : Int)]) = n → Hid (∀ j, bodyG (fun pre G W => (G = fun k => k = w.heap.size + 1) ∧ obj W w.heap.size = some (.cells #[.slice (some ⟨b, off, none⟩) s.length cap2] 31 (0, 0)) ∧ obj W (w.heap.size + 1) = some (.cells #[.int .i64 (nxF s pre)] 2 (0, 0)) ∧ Below w.heap.size w W) (fun c pre G W => False) (pre ++ [(k : Int)]) (fun k => k = w.heap.size + 1) W .normal { tmps := #[], defers := [] } (W.drewN j)) := fun hm => Lib.hid (by
      intro j
      refine ⟨fun k => k = w.heap.size + 1, ⟨rfl, I1.out, ?_, below_drewN I3.out j⟩, (Keeps.refl _ W).drewN j, GrowsG.refl _ _⟩
      · rw [hm]; exact I2.out)
    clear hn hu hrow hs1 i1 i2 i3
    simp only [nxFrame]
    by_cases h0 : n = 0
    · have hv : nxF s (pre ++ [(k : Int)]) = yu := by rw [HF.out, if_pos (.inl h0)]
      have FN := fin yu (.inr rfl) hv
      clear hfin fin fin0 hv HF
      subst h0
      gi_wp2
      gi_region
      all_goals (gi_wp2; exact FN.out 1)
    · have e0 : (n == 0) = false := by simpa using h0
      by_cases hlt : yu < n
      · have hv : nxF s (pre ++ [(k : Int)]) = yu := by rw [HF.out, if_pos (.inr hlt)]
        have FN := fin yu (.inr rfl) hv
        have hlt' : decide (yu < n) = true := by simpa using hlt
        clear hfin fin fin0 hv HF
        gi_wp2
        gi_region
        all_goals (gi_wp2; exact FN.out 1)
      · have hv : nxF s (pre ++ [(k : Int)]) = n := by rw [HF.out, if_neg (by omega)]
        have FN := fin0 hv
        have hlt' : decide (yu < n) = false := by simpa using hlt
        clear hfin fin fin0 hv HF
        gi_wp2
        gi_region
        all_goals (gi_wp2; exact FN.out 1)
  case done =>
    rintro d G W hD _ ⟨rfl, i1, i2, i3⟩ hk _ hKD
    have hb := lt_of_obj i2
    have cb : W.cell? ⟨w.heap.size + 1, 0, none⟩ = some (.int .i64 (nxF s (blL s now))) := cell_at i2 0
    have HK := Lib.hid hk
    have hz := B4.out.size
    clear hk
    gi_wp2
    refine ⟨by simp, .inl ⟨_, _, rfl, run_takeDeferred hKD, ?_⟩⟩
    have hgr := grownBy_putObj' W d (.deferred none)
    have hrr : ∀ r, some d = some r → w.heap.size ≤ r ∧ ∃ o : Obj, W.heap[r]? = some o ∧ o.isCells = false := fun r e => by cases e; exact ⟨by omega, _, hKD, rfl⟩
    exact ⟨_, results_tmp rfl _ _ _, rfl, below_grown i3 (Nat.le_refl _) (Nat.le_refl _) hgr hrr⟩
  case stop =>
    rintro d c pre G W _ _ _ h
    exact h.elim
end Go.Proofs.Ytiknonljdibfgaa
