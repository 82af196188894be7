import Derived.Test.YtnaknoebjbmboaaAsks2
namespace Go.Proofs.Ytnaknoebjbmboaa
open Go.RowKit

theorem new_ok (w : World) (room last : Int) (h1 : 1 ≤ room) (h2 : room ≤ 1024) (h3 : 0 ≤ last) (h4 : last ≤ 2147483647) :
    Calls Try.prog 8 #[.int .i64 room, .int .i64 last] w fun e w' => e = .returned (.tuple #[.pointer (some ⟨w.heap.size + 1, 0, none⟩), .int .i64 0]) ∧
      BookAt w' (w.heap.size + 1) w.heap.size ⟨room, last, [], 0, 0, 0⟩ ∧ Below w.heap.size w w' := by
  have hmm := @run_makeMap Try.prog
  go_enter Try.func8, Try.ntmps8
  go_wp2
  go_ret2
  refine ⟨rfl, ⟨?_, ?_⟩, ?_⟩
  · exact obj_alloc_at _ _ _ (by simp)
  · exact ⟨#[], 0, by rw [obj_alloc_past _ _ _ (by simp)]; exact obj_alloc_at _ _ _ rfl, trivial⟩
  · exact ((Below.refl _ _).alloc (Nat.le_refl _) _).alloc (by simp) _

theorem len_any (w : World) (b m : Nat) (S : BookD) (h : BookAt w b m S) :
    Calls Try.prog 11 #[.pointer (some ⟨b, 0, none⟩)] w fun e w' => e = .returned (.int .i64 S.L.length) ∧ w = w' := by
  have c2 : w.cell? ⟨b, 2, none⟩ = some (.map (some m)) := cell_at h.cells 2
  obtain ⟨es, clk, hm, hr⟩ := h.map
  have hl : ∀ W : World, obj W m = some (.map es clk) → (Builtin.len_ #[43] 3 #[.map (some m)]).run Try.prog W = .ok (.int .i64 S.L.length) W := by
    intro W hW
    exact run_len_int Try.underlying43 3 ⟨es, clk, hW, hr⟩
  go_enter Try.func11, Try.ntmps11
  go_wp2_with ((go_at_call 24; refine (none_made _ _ m (by go_simp)).mono ?_; rintro e w' ⟨rfl, rfl⟩))
  go_ret
  exact ⟨rfl, rfl⟩

theorem stat_any (w : World) (b m : Nat) (S : BookD) (h : BookAt w b m S) :
    Calls Try.prog 15 #[.pointer (some ⟨b, 0, none⟩)] w fun e w' => e = .returned (.agg #[.int .i64 S.asked, .int .i64 S.ans, .int .i64 S.exp]) ∧ Below w.heap.size w w' := by
  have c2 : w.cell? ⟨b, 2, none⟩ = some (.map (some m)) := cell_at h.cells 2
  have c3 : w.cell? ⟨b, 3, none⟩ = some (.int .i64 S.asked) := cell_at h.cells 3
  have c4 : w.cell? ⟨b, 4, none⟩ = some (.int .i64 S.ans) := cell_at h.cells 4
  have c5 : w.cell? ⟨b, 5, none⟩ = some (.int .i64 S.exp) := cell_at h.cells 5
  have hb := h.lt
  go_enter Try.func15, Try.ntmps15
  go_wp2_with ((go_at_call 24; refine (none_made _ _ m (by go_simp)).mono ?_; rintro e w' ⟨rfl, rfl⟩))
  refine bodyPost_ret (v := .agg #[.int .i64 S.asked, .int .i64 S.ans, .int .i64 S.exp]) (by simp [results, Try.results15, go_sem]) rfl ⟨rfl, ?_⟩
  exact ((Below.refl _ _).alloc (Nat.le_refl _) _)

set_option maxRecDepth 100000 in
set_option maxHeartbeats 400000 in
theorem expire_none (w : World) (b m : Nat) (S : BookD) (id : Int) (h : BookAt w b m S) (ha : aGet id S.L = none) :
    Calls Try.prog 16 #[.pointer (some ⟨b, 0, none⟩), .int .i64 id] w fun e w' => e = .returned (.tuple #[askV ⟨0, 0, 0⟩, .int .i64 4]) ∧ Below w.heap.size w w' := by
  have HA := Lib.hid ha
  clear ha
  go_enter Try.func16, Try.ntmps16
  go_wp2_with fail
  refine (get_none _ b m S id (h.alloc _) HA.out).mono ?_
  rintro e w1 ⟨rfl, hb1⟩
  have hk1 : Below w.heap.size w w1 := ((Below.refl _ w).alloc (Nat.le_refl _) _).trans (hb1.mono (by simp))
  have hz : w.heap.size < w1.heap.size := by have := hb1.size; simp at this; omega
  have ho : obj w1 w.heap.size = some (.cells #[.int .i64 0, .int .i64 0, .int .i64 0] 32 (0, 0)) := (obj_below hb1 (by simp)).trans (obj_alloc_at _ _ _ rfl)
  have r0 : w1.cell? ⟨w.heap.size, 0, none⟩ = some (.int .i64 0) := cell_at ho 0
  have r1 : w1.cell? ⟨w.heap.size, 1, none⟩ = some (.int .i64 0) := cell_at ho 1
  have r2 : w1.cell? ⟨w.heap.size, 2, none⟩ = some (.int .i64 0) := cell_at ho 2
  have rf : ∀ i, w1.frozen? ⟨w.heap.size, i, none⟩ = false := frozen_at ho
  unfold askV
  go_wp2_with fail
  refine bodyPost_ret (v := .tuple #[askV ⟨0, 0, 0⟩, .int .i64 4]) (by simp [results, Try.results16, go_sem, askV, hz, r0, r1, r2]) rfl ⟨rfl, ?_⟩
  (repeat (first | with_reducible exact hk1 | with_reducible refine Below.setCell ?_ (by simp) _ | with_reducible refine Below.alloc ?_ (by simp; omega) _))

set_option maxRecDepth 100000 in
set_option maxHeartbeats 400000 in
theorem expire_ok (w : World) (b m : Nat) (S : BookD) (id : Int) (a : AskD) (h : BookAt w b m S) (ha : aGet id S.L = some a)
    (hn : 0 ≤ S.exp) (hn' : S.exp < 4611686018427387904) :
    Calls Try.prog 16 #[.pointer (some ⟨b, 0, none⟩), .int .i64 id] w fun e w' => e = .returned (.tuple #[askV a, .int .i64 0]) ∧
      BookAt w' b m { S with L := aDel id S.L, exp := S.exp + 1 } ∧ Keeps (fun k => k = b ∨ k = m) w w' := by
  have HA := Lib.hid ha
  clear ha
  go_enter Try.func16, Try.ntmps16
  go_wp2_with fail
  refine (get_found _ b m S id a (h.alloc _) HA.out).mono ?_
  rintro e w1 ⟨rfl, hb1⟩
  have h1 := (h.alloc _).below hb1
  have hk1 : Keeps (fun k => k = b ∨ k = m) w w1 := ((Keeps.refl _ _).alloc _).trans (Keeps.of_below hb1)
  have c2 : w1.cell? ⟨b, 2, none⟩ = some (.map (some m)) := cell_at h1.cells 2
  have c5 : w1.cell? ⟨b, 5, none⟩ = some (.int .i64 S.exp) := cell_at h1.cells 5
  have f : ∀ i, w1.frozen? ⟨b, i, none⟩ = false := frozen_at h1.cells
  obtain ⟨es, clk, hm, hr⟩ := h1.map
  have hne := h.ne
  have hne' : m ≠ b := fun e => hne e.symm
  have hblt := h1.lt
  have hmlt := h1.mlt
  obtain ⟨es', hu, hr'⟩ := run_delete_int (enc := askV) (clk := clk) Try.underlying43 Try.underlying2 0 2 hr m id
  have hz : w.heap.size < w1.heap.size := by have := hb1.size; simp at this; omega
  have ho : obj w1 w.heap.size = some (.cells #[.int .i64 0, .int .i64 0, .int .i64 0] 32 (0, 0)) := (obj_below hb1 (by simp)).trans (obj_alloc_at _ _ _ rfl)
  have r0 : w1.cell? ⟨w.heap.size, 0, none⟩ = some (.int .i64 0) := cell_at ho 0
  have r1 : w1.cell? ⟨w.heap.size, 1, none⟩ = some (.int .i64 0) := cell_at ho 1
  have r2 : w1.cell? ⟨w.heap.size, 2, none⟩ = some (.int .i64 0) := cell_at ho 2
  have rf : ∀ i, w1.frozen? ⟨w.heap.size, i, none⟩ = false := frozen_at ho
  have hmw := h.mlt
  have hbw := h.lt
  have hne2 : ¬ w.heap.size = m := by omega
  have hne3 : ¬ w.heap.size = b := by omega
  have hne4 : ¬ b = w.heap.size := by omega
  unfold askV
  go_wp2_with fail
  refine bodyPost_ret (v := .tuple #[askV a, .int .i64 0]) (by simp [results, Try.results16, go_sem, askV, hz, hmw, hbw, hne2, hne3, hne4, r0, r1, r2]) rfl ⟨rfl, ⟨?_, ?_⟩, ?_⟩
  · simp [obj_setCell, obj_putObj, obj_alloc_past, hblt, hne, hne3, hne4, h1.cells, bookCells, setC]
  · exact ⟨es', clk, by simp [obj_setCell, obj_putObj, obj_alloc_past, hmlt, hne', hne2, Ne.symm hne2, hm], hr'⟩
  · (repeat (first | with_reducible exact hk1 | with_reducible refine Keeps.drew ?_ | with_reducible refine Keeps.drewN ?_ _ | with_reducible refine Keeps.setCell ?_ (by simp) _ | with_reducible refine Keeps.putObj ?_ (by simp) _ | with_reducible refine Keeps.alloc ?_ _))
end Go.Proofs.Ytnaknoebjbmboaa
