import Derived.Test.YtggpmepiggnnnaaTake
namespace Go.Proofs.Ytggpmepiggnnnaa
open Go.RowKit

set_option maxRecDepth 100000 in
set_option maxHeartbeats 2000000 in
theorem take_any (w : World) (F : Nat → Prop) (hb m : Nat) (sv : Value) (L : List Al) (M : List (Int × Int)) (i : Nat) (h : RawAt w F hb m sv L M) (hs : Spec L M) (hi : i < L.length) (hlen : L.length ≤ 100000) :
    Calls Try.prog 36 #[.pointer (some ⟨hb, 0, none⟩), .int .i64 i] w fun e w' => e = .returned (alV (at' L i)) ∧
      (∃ sv' M', RawAt w' F hb m sv' (takeOut L i) M' ∧ Spec (takeOut L i) M') ∧ Keeps F w w' := by
  obtain ⟨n, hn⟩ : ∃ n, L.length = n + 1 := ⟨L.length - 1, by omega⟩
  obtain ⟨oa, cap, rfl, q1, q2, q3⟩ := row_sub h.row
  obtain ⟨g, cur, rfl, hgo, _, hg, hcs, htk⟩ := q3 (by omega)
  unfold maxLen at q2
  have s1 := row_get htk hcs q1 hi
  rw [← hg] at s1
  have hgz := lt_of_obj hg
  have hbz := h.lt.1
  have c0 : w.cell? ⟨hb, 0, none⟩ = some (.slice (some ⟨g, 0, none⟩) L.length cap) := cell_at h.box 0
  have hw : IntKind.i64.wrap ((L.length : Int) - 1) = (n : Int) := by rw [pred_wrap (by omega) (by omega)]; omega
  have HA := Lib.hid (at'_eq hi)
  have HH := Lib.hid h
  have HSP := Lib.hid hs
  generalize hx : L[i] = x at *
  obtain ⟨x1, x2⟩ := x
  clear h hs q3 htk hg hcs
  go_enter Try.func36, Try.ntmps36
  go_wp2
  go_region
  have bw : Below w.heap.size w ((w.alloc (.cells #[.int .i64 0, .int .i64 0] 32)).alloc (.cells #[.int .i64 x1, .int .i64 x2] 32)).drew := (((Below.refl _ w).alloc (Nat.le_refl _) _).alloc (by simp) _).drew
  have o4 : obj ((w.alloc (.cells #[.int .i64 0, .int .i64 0] 32)).alloc (.cells #[.int .i64 x1, .int .i64 x2] 32)).drew w.heap.size = some (.cells #[.int .i64 0, .int .i64 0] 32 (0, 0)) := (obj_alloc_past _ _ _ (by simp)).trans (obj_alloc_at _ _ _ rfl)
  have o5 : obj ((w.alloc (.cells #[.int .i64 0, .int .i64 0] 32)).alloc (.cells #[.int .i64 x1, .int .i64 x2] 32)).drew (w.heap.size + 1) = some (.cells #[.int .i64 x1, .int .i64 x2] 32 (0, 0)) := obj_alloc_at _ _ _ (by simp)
  have f4 : ¬ F w.heap.size := fun hf => absurd (HH.out.old _ hf) (by omega)
  have f5 : ¬ F (w.heap.size + 1) := fun hf => absurd (HH.out.old _ hf) (by omega)
  generalize ((w.alloc (.cells #[.int .i64 0, .int .i64 0] 32)).alloc (.cells #[.int .i64 x1, .int .i64 x2] 32)).drew = w1 at *
  have R1 := Lib.hid (HH.out.below bw)
  have HSW := Lib.hid (swap_any w1 F hb m _ L M i n R1.out hi (by omega))
  go_wp2_with fail
  refine HSW.out.mono ?_
  rintro e w2 ⟨⟨v2, rfl⟩, r2, k2⟩
  have z4 := lt_of_obj o4
  have z5 := lt_of_obj o5
  have p4 := (k2.block _ z4 f4).trans o4
  have p5 := (k2.block _ z5 f5).trans o5
  have K2 := Lib.hid ((Keeps.of_below bw).trans k2)
  have c2 : w2.cell? ⟨hb, 0, none⟩ = some (.slice (some ⟨g, 0, none⟩) L.length cap) := cell_at r2.box 0
  have fz2 := frozen_at r2.box
  have hz2 := r2.lt.1
  have hl2 : (Value.slice (some ⟨g, 0, none⟩) L.length cap) = .slice (some ⟨g, 0, none⟩) (swapL L i n).length cap := by rw [swapL_length]
  rw [hl2] at r2
  have HC := Lib.hid (rawAt_cut r2 (n := n) (by rw [swapL_length]; exact hn))
  clear r2 hl2 k2 o4 o5 c0 s1 hw
  go_wp2
  have p5' : obj (w2.setCell ⟨hb, 0, none⟩ (.slice (some ⟨g, 0, none⟩) n cap)) (w.heap.size + 1) = some (.cells #[.int .i64 x1, .int .i64 x2] 32 (0, 0)) := (obj_setCell_ne _ ⟨hb, 0, none⟩ _ _ (by show _ ≠ hb; omega)).trans p5
  have p4' : obj (w2.setCell ⟨hb, 0, none⟩ (.slice (some ⟨g, 0, none⟩) n cap)) w.heap.size = some (.cells #[.int .i64 0, .int .i64 0] 32 (0, 0)) := (obj_setCell_ne _ ⟨hb, 0, none⟩ _ _ (by show _ ≠ hb; omega)).trans p4
  have K3 := Lib.hid (K2.out.setCell (a := ⟨hb, 0, none⟩) (.inl HH.out.fb) (.slice (some ⟨g, 0, none⟩) n cap))
  generalize w2.setCell ⟨hb, 0, none⟩ (.slice (some ⟨g, 0, none⟩) n cap) = w3 at *
  obtain ⟨es, clk, hm3, hr3⟩ := HC.out.map
  have c3 : w3.cell? ⟨hb, 1, none⟩ = some (.map (some m)) := cell_at HC.out.box 1
  have y3 := HC.out.lt.1
  have y5 := lt_of_obj p5'
  have d5 : w3.cell? ⟨w.heap.size + 1, 1, none⟩ = some (.int .i64 x2) := cell_at p5' 1
  obtain ⟨es', hdl, hr'⟩ := run_delete_int (enc := intV) (clk := clk) Try.underlying66 Try.underlying2 0 2 hr3 m x2
  have hdl3 := hdl w3.drew hm3
  have R4 := Lib.hid ((rawAt_map (w := w3) (clk := clk) HC.out hr').below (Below.refl _ _).drew)
  have K4 := Lib.hid ((K3.out.putObj HH.out.fm (.map es' clk)).drew)
  have n4 : w.heap.size ≠ m := fun e => f4 (e ▸ HH.out.fm)
  have n5 : w.heap.size + 1 ≠ m := fun e => f5 (e ▸ HH.out.fm)
  have x4 : obj (putObj w3 m (.map es' clk)).drew w.heap.size = some (.cells #[.int .i64 0, .int .i64 0] 32 (0, 0)) := (obj_putObj_ne _ _ _ _ n4).trans p4'
  have x5 : obj (putObj w3 m (.map es' clk)).drew (w.heap.size + 1) = some (.cells #[.int .i64 x1, .int .i64 x2] 32 (0, 0)) := (obj_putObj_ne _ _ _ _ n5).trans p5'
  have HX : Hid (x2 = (at' (swapL L i n) n).2) := Lib.hid (by
    rw [at'_swap hi (by omega)]
    by_cases e : n = i
    · rw [if_pos e, e, HA.out]
    · rw [if_neg e, if_pos rfl, HA.out])
  have HS1 := Lib.hid (HSP.out.swap (i := i) (k := n) hi (by omega))
  have HS2 := Lib.hid (HS1.out.cut (n := n) (by rw [swapL_length]; exact hn))
  rw [← HX.out] at HS2
  have hl3 : ((swapL L i n).take n).length = n := by simp; omega
  by_cases hin : i < n
  · have hini : (i : Int) < (n : Int) := by omega
    refine wp_region_quiet_tail 6 (by kernel_rfl) (by kernel_rfl) ?_
    simp only [List.take_succ_cons, List.take_zero, List.drop_succ_cons, List.drop_zero]
    repeat (go_big_quiet_step (fail))
    refine wpQuiet_nil ?_
    have HT : Hid (takeOut L i = settle ((swapL L i n).take n) i) := Lib.hid (by
      unfold takeOut
      rw [show L.length - 1 = n by omega]
      simp only [if_pos hin])
    have HST := Lib.hid (settle_any _ F hb m _ _ _ i R4.out HS2.out (by rw [hl3]; exact hin) (by rw [hl3]; omega))
    go_wp2_with fail
    refine HST.out.mono ?_
    rintro e w5 ⟨⟨v5, rfl⟩, ⟨M5, r5, s5⟩, k5⟩
    have z4' := lt_of_obj x4
    have z5' := lt_of_obj x5
    have t4 := (k5.block _ z4' f4).trans x4
    have t5 := (k5.block _ z5' f5).trans x5
    have q4 := lt_of_obj t4
    have q5 := lt_of_obj t5
    have HF := Lib.hid (And.intro r5 (And.intro s5 (K4.out.trans k5)))
    clear r5 s5 k5 x4 x5
    go_wp2
    have oo : obj (putObj w5 w.heap.size (.cells #[.int .i64 x1, .int .i64 x2] 32)) w.heap.size = some (.cells #[.int .i64 x1, .int .i64 x2] 32 (0, 0)) := obj_putObj_eq _ _ _ q4
    refine bodyPost_ret (results_cell rfl _ rfl (by rw [run_load32, oo]; rfl)) rfl ?_
    have hne : ∀ n, F n → n ≠ w.heap.size := fun n hf e => f4 (e ▸ hf)
    refine ⟨by rw [HA.out]; rfl, ⟨.slice (some ⟨g, 0, none⟩) n cap, M5, ?_, ?_⟩, ?_⟩
    · rw [HT.out]; exact HF.out.1.of_obj (by simp) (fun n _ hf => obj_putObj_ne _ _ _ _ (hne n hf))
    · rw [HT.out]; exact HF.out.2.1
    · have kk := HF.out.2.2
      exact ⟨kk.os, kk.tape, kk.output, by rw [size_putObj]; exact kk.size, fun n hn hf => (obj_putObj_ne _ _ _ _ (by omega)).trans (kk.block n hn hf)⟩
  · have HT : Hid (takeOut L i = (swapL L i n).take n) := Lib.hid (by
      unfold takeOut
      rw [show L.length - 1 = n by omega]
      simp only [if_neg hin])
    have hini : (n : Int) ≤ (i : Int) := by omega
    refine wp_region_quiet_tail 6 (by kernel_rfl) (by kernel_rfl) ?_
    simp only [List.take_succ_cons, List.take_zero, List.drop_succ_cons, List.drop_zero]
    repeat (go_big_quiet_step (fail))
    refine wpQuiet_nil ?_
    go_wp2
    have oo : obj (putObj (putObj w3 m (.map es' clk)) w.heap.size (.cells #[.int .i64 x1, .int .i64 x2] 32)).drew w.heap.size = some (.cells #[.int .i64 x1, .int .i64 x2] 32 (0, 0)) := obj_putObj_eq _ _ _ (lt_of_obj x4)
    refine bodyPost_ret (results_cell rfl _ rfl (by rw [run_load32, oo]; rfl)) rfl ?_
    have hne : ∀ n, F n → n ≠ w.heap.size := fun n hf e => f4 (e ▸ hf)
    refine ⟨by rw [HA.out]; rfl, ⟨.slice (some ⟨g, 0, none⟩) n cap, _, ?_, HT.out ▸ HS2.out⟩, ?_⟩
    · rw [HT.out]; exact R4.out.of_obj (by simp) (fun n _ hf => obj_putObj_ne _ _ _ _ (hne n hf))
    · have kk := K4.out
      exact ⟨kk.os, kk.tape, kk.output, by simpa using kk.size, fun n hn hf => (obj_putObj_ne _ _ _ _ (by omega)).trans (kk.block n hn hf)⟩
end Go.Proofs.Ytggpmepiggnnnaa
