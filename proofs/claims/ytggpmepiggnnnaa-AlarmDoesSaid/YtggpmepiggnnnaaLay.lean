import Derived.Test.YtggpmepiggnnnaaState
namespace Go.Proofs.Ytggpmepiggnnnaa
open Go.RowKit

set_option maxRecDepth 100000 in
theorem lay_any (w : World) (F : Nat → Prop) (hb m : Nat) (sv : Value) (L : List Al) (M : List (Int × Int)) (i : Nat) (a : Al) (h : RawAt w F hb m sv L M) (hi : i < L.length) :
    Calls Try.prog 33 #[.pointer (some ⟨hb, 0, none⟩), .int .i64 i, alV a] w fun e w' => (∃ v, e = .returned v) ∧ RawAt w' F hb m sv (L.set i a) (aPut a.2 i M) ∧ Keeps F w w' := by
  obtain ⟨oa, cap, rfl, q1, q2, q3⟩ := row_sub h.row
  obtain ⟨g, cur, rfl, hgo, _, hg, hcs, htk⟩ := q3 (by omega)
  unfold maxLen at q2
  obtain ⟨es, clk, hm, hr⟩ := h.map
  obtain ⟨es', clk', hu, hr'⟩ := run_mapUpdate_int (enc := intV) (clk := clk) Try.underlying66 Try.underlying2 hr m a.2 i
  simp only [intV] at hu
  have hs0 := row_set htk hcs q1 hi a
  have hgz := lt_of_obj hg
  have hmz := lt_of_obj hm
  have hbox := h.box
  have hbz := lt_of_obj hbox
  have n1 : hb ≠ g := fun e => by subst e; rw [hbox] at hg; cases hg
  have n2 : hb ≠ m := fun e => by subst e; rw [hbox] at hm; cases hm
  have n3 : g ≠ m := fun e => by subst e; rw [hg] at hm; cases hm
  have hpo : putOf (some (.cells cur 32 (0, 0))) (i * 2) 2 #[.int .i64 a.1, .int .i64 a.2] = some (.cells (spliceA cur (i * 2) #[.int .i64 a.1, .int .i64 a.2]) 32 (0, 0)) := putOf_cells (by omega) rfl rfl
  generalize spliceA cur (i * 2) #[.int .i64 a.1, .int .i64 a.2] = cur' at *
  have c0 : w.cell? ⟨hb, 0, none⟩ = some (.slice (some ⟨g, 0, none⟩) L.length cap) := cell_at hbox 0
  have c1 : w.cell? ⟨hb, 1, none⟩ = some (.map (some m)) := cell_at hbox 1
  obtain ⟨a1, a2⟩ := a
  go_enter Try.func33, Try.ntmps33
  go_wp2
  refine wp_region_quiet_tail 7 (by kernel_rfl) (by kernel_rfl) ?_
  simp only [List.take_succ_cons, List.take_zero, List.drop_succ_cons, List.drop_zero]
  repeat (go_big_quiet_step (fail))
  refine wpQuiet_nil ?_
  go_wp2
  refine wp_region_quiet_tail 7 (by kernel_rfl) (by kernel_rfl) ?_
  simp only [List.take_succ_cons, List.take_zero, List.drop_succ_cons, List.drop_zero]
  repeat (go_big_quiet_step (fail))
  refine wpQuiet_nil ?_
  have hm5 : obj ((putObj w g (.cells cur' 32)).alloc (.cells #[.int .i64 a1, .int .i64 a2] 32)).drew.drew m = some (.map es clk) := (obj_alloc_past _ _ _ (by rw [size_putObj]; exact hmz)).trans ((obj_putObj_ne _ _ _ _ n3.symm).trans hm)
  have hu5 := hu _ hm5
  go_wp2
  go_end0
  have fg := h.fr g hgo
  have hlen : (L.set i (a1, a2)).length = L.length := List.length_set
  refine ⟨⟨_, rfl⟩, ⟨?_, ⟨?_, .inr ⟨g, cap, cur', by rw [hlen], Nat.zero_le _, ?_, by rw [hlen]; exact q1, by unfold maxLen; exact q2, hs0.1, by rw [hlen]; exact hs0.2⟩⟩, ⟨es', clk', ?_, hr'⟩, h.fb, h.fm, h.fr, fun n hn => by have := h.old n hn; simp; omega⟩, ?_⟩
  · exact (obj_alloc_past _ _ _ (by simpa using hbz)).trans ((obj_putObj_ne _ _ _ _ n2).trans ((obj_putObj_ne _ _ _ _ n1).trans hbox))
  · rw [flatMap_len alL_length]
  · exact (obj_alloc_past _ _ _ (by simpa using hgz)).trans ((obj_putObj_ne _ _ _ _ n3).trans (obj_putObj_eq _ _ _ hgz))
  · exact (obj_alloc_past _ _ _ (by simpa using hmz)).trans (obj_putObj_eq _ _ _ (by simpa using hmz))
  · exact ((((Keeps.refl F w).putObj fg _).putObj h.fm _).alloc _).drew.drew
end Go.Proofs.Ytggpmepiggnnnaa
