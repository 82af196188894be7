import Derived.Test.YtnaknoebjbmboaaAsks
namespace Go.Proofs.Ytnaknoebjbmboaa
open Go.RowKit

theorem MapI.keep {ν : Type} {enc : ν → Value} {F : Nat → Prop} {w W : World} {m : Nat} {L : List (Int × ν)} (h : MapI w m enc L) (hk : Keeps F w W) (hm : ¬ F m) : MapI W m enc L :=
  h.of_heap (hk.block m h.lt hm)
theorem BookAt.keep {F : Nat → Prop} {w W : World} {b m : Nat} {S : BookD} (h : BookAt w b m S) (hk : Keeps F w W) (hb : ¬ F b) (hm : ¬ F m) : BookAt W b m S :=
  ⟨(hk.block b h.lt hb).trans h.cells, h.map.keep hk hm⟩
theorem BookAt.alloc {w : World} {b m : Nat} {S : BookD} (h : BookAt w b m S) (o : Obj) : BookAt (w.alloc o) b m S :=
  h.keep (F := fun _ => False) ((Keeps.refl _ _).alloc o) (fun h => h) (fun h => h)
theorem BookAt.below {w W : World} {b m : Nat} {S : BookD} (h : BookAt w b m S) (hb : Below w.heap.size w W) : BookAt W b m S :=
  h.keep (F := fun _ => False) (Keeps.of_below hb) (fun h => h) (fun h => h)

set_option maxRecDepth 100000 in
set_option maxHeartbeats 400000 in
theorem answer_ok (w : World) (b m : Nat) (S : BookD) (node id kind : Int) (a : AskD) (h : BookAt w b m S) (ha : aGet id S.L = some a) (h1 : a.node = node) (h2 : replyOf a.kind = kind)
    (hn : 0 ≤ S.ans) (hn' : S.ans < 4611686018427387904) :
    Calls Try.prog 13 #[.pointer (some ⟨b, 0, none⟩), .int .i64 node, .int .i64 id, .int .i64 kind] w fun e w' => e = .returned (.tuple #[askV a, .int .i64 0]) ∧
      BookAt w' b m { S with L := aDel id S.L, ans := S.ans + 1 } ∧ Keeps (fun k => k = b ∨ k = m) w w' := by
  subst h1 h2
  have HA := Lib.hid ha
  clear ha
  go_enter Try.func13, Try.ntmps13
  go_wp2_with fail
  refine (get_found _ b m S id a (h.alloc _) HA.out).mono ?_
  rintro e w1 ⟨rfl, hb1⟩
  have h1 := (h.alloc _).below hb1
  have hk1 : Keeps (fun k => k = b ∨ k = m) w w1 := ((Keeps.refl _ _).alloc _).trans (Keeps.of_below hb1)
  have c2 : w1.cell? ⟨b, 2, none⟩ = some (.map (some m)) := cell_at h1.cells 2
  have c4 : w1.cell? ⟨b, 4, none⟩ = some (.int .i64 S.ans) := cell_at h1.cells 4
  have f : ∀ i, w1.frozen? ⟨b, i, none⟩ = false := frozen_at h1.cells
  obtain ⟨es, clk, hm, hr⟩ := h1.map
  have hne := h.ne
  have hne' : m ≠ b := fun e => hne e.symm
  have hblt := h1.lt
  have hmlt := h1.mlt
  obtain ⟨es', hu, hr'⟩ := run_delete_int (enc := askV) (clk := clk) Try.underlying43 Try.underlying2 0 2 hr m id
  have hz : w.heap.size < w1.heap.size := by have := hb1.size; simp at this; omega
  have ho : obj w1 w.heap.size = some (.cells #[.int .i64 0, .int .i64 0, .int .i64 0] 32 (0, 0)) := (obj_below hb1 (by simp)).trans (obj_alloc_at _ _ _ rfl)
  have r0 : w1.cell? ⟨w.heap.size, 0, none⟩ = some (.int .i64 0) := cell_at ho 0
  have r1 : w1.cell? ⟨w.heap.size, 1, none⟩ = some (.int .i64 0) := cell_at ho 1
  have r2 : w1.cell? ⟨w.heap.size, 2, none⟩ = some (.int .i64 0) := cell_at ho 2
  have rf : ∀ i, w1.frozen? ⟨w.heap.size, i, none⟩ = false := frozen_at ho
  have hmw := h.mlt
  have hbw := h.lt
  have hne2 : ¬ w.heap.size = m := by omega
  have hne3 : ¬ w.heap.size = b := by omega
  have hne4 : ¬ b = w.heap.size := by omega
  unfold askV
  go_wp2_with ((go_at_call 25; refine (reply_any _ _).mono ?_; rintro e w' ⟨rfl, rfl⟩))
  refine bodyPost_ret (v := .tuple #[askV a, .int .i64 0]) (by simp [results, Try.results13, go_sem, askV, hz, hmw, hbw, hne2, hne3, hne4, r0, r1, r2]) rfl ⟨rfl, ⟨?_, ?_⟩, ?_⟩
  · simp [obj_setCell, obj_putObj, obj_alloc_past, hblt, hne, hne3, hne4, h1.cells, bookCells, setC]
  · exact ⟨es', clk, by simp [obj_setCell, obj_putObj, obj_alloc_past, hmlt, hne', hne2, Ne.symm hne2, hm], hr'⟩
  · (repeat (first | with_reducible exact hk1 | with_reducible refine Keeps.drew ?_ | with_reducible refine Keeps.drewN ?_ _ | with_reducible refine Keeps.setCell ?_ (by simp) _ | with_reducible refine Keeps.putObj ?_ (by simp) _ | with_reducible refine Keeps.alloc ?_ _))

set_option maxRecDepth 100000 in
set_option maxHeartbeats 400000 in
theorem answer_none (w : World) (b m : Nat) (S : BookD) (node id kind : Int) (h : BookAt w b m S) (ha : aGet id S.L = none) :
    Calls Try.prog 13 #[.pointer (some ⟨b, 0, none⟩), .int .i64 node, .int .i64 id, .int .i64 kind] w fun e w' => e = .returned (.tuple #[askV ⟨0, 0, 0⟩, .int .i64 4]) ∧ Below w.heap.size w w' := by
  have HA := Lib.hid ha
  clear ha
  go_enter Try.func13, Try.ntmps13
  go_wp2_with fail
  refine (get_none _ b m S id (h.alloc _) HA.out).mono ?_
  rintro e w1 ⟨rfl, hb1⟩
  have hk1 : Below w.heap.size w w1 := ((Below.refl _ w).alloc (Nat.le_refl _) _).trans (hb1.mono (by simp))
  have hz : w.heap.size < w1.heap.size := by have := hb1.size; simp at this; omega
  have ho : obj w1 w.heap.size = some (.cells #[.int .i64 0, .int .i64 0, .int .i64 0] 32 (0, 0)) := (obj_below hb1 (by simp)).trans (obj_alloc_at _ _ _ rfl)
  have r0 : w1.cell? ⟨w.heap.size, 0, none⟩ = some (.int .i64 0) := cell_at ho 0
  have r1 : w1.cell? ⟨w.heap.size, 1, none⟩ = some (.int .i64 0) := cell_at ho 1
  have r2 : w1.cell? ⟨w.heap.size, 2, none⟩ = some (.int .i64 0) := cell_at ho 2
  have rf : ∀ i, w1.frozen? ⟨w.heap.size, i, none⟩ = false := frozen_at ho
  unfold askV
  go_wp2_with ((go_at_call 25; refine (reply_any _ _).mono ?_; rintro e w' ⟨rfl, rfl⟩))
  refine bodyPost_ret (v := .tuple #[askV ⟨0, 0, 0⟩, .int .i64 4]) (by simp [results, Try.results13, go_sem, askV, hz, r0, r1, r2]) rfl ⟨rfl, ?_⟩
  (repeat (first | with_reducible exact hk1 | with_reducible refine Below.setCell ?_ (by simp) _ | with_reducible refine Below.alloc ?_ (by simp; omega) _))

set_option maxRecDepth 100000 in
set_option maxHeartbeats 400000 in
theorem answer_node (w : World) (b m : Nat) (S : BookD) (node id kind : Int) (a : AskD) (h : BookAt w b m S) (ha : aGet id S.L = some a) (h1 : (a.node != node) = true) :
    Calls Try.prog 13 #[.pointer (some ⟨b, 0, none⟩), .int .i64 node, .int .i64 id, .int .i64 kind] w fun e w' => e = .returned (.tuple #[askV ⟨0, 0, 0⟩, .int .i64 4]) ∧ Below w.heap.size w w' := by
  have HA := Lib.hid ha
  clear ha
  go_enter Try.func13, Try.ntmps13
  go_wp2_with fail
  refine (get_found _ b m S id a (h.alloc _) HA.out).mono ?_
  rintro e w1 ⟨rfl, hb1⟩
  have hk1 : Below w.heap.size w w1 := ((Below.refl _ w).alloc (Nat.le_refl _) _).trans (hb1.mono (by simp))
  have hz : w.heap.size < w1.heap.size := by have := hb1.size; simp at this; omega
  have ho : obj w1 w.heap.size = some (.cells #[.int .i64 0, .int .i64 0, .int .i64 0] 32 (0, 0)) := (obj_below hb1 (by simp)).trans (obj_alloc_at _ _ _ rfl)
  have r0 : w1.cell? ⟨w.heap.size, 0, none⟩ = some (.int .i64 0) := cell_at ho 0
  have r1 : w1.cell? ⟨w.heap.size, 1, none⟩ = some (.int .i64 0) := cell_at ho 1
  have r2 : w1.cell? ⟨w.heap.size, 2, none⟩ = some (.int .i64 0) := cell_at ho 2
  have rf : ∀ i, w1.frozen? ⟨w.heap.size, i, none⟩ = false := frozen_at ho
  unfold askV
  go_wp2_with ((go_at_call 25; refine (reply_any _ _).mono ?_; rintro e w' ⟨rfl, rfl⟩))
  refine bodyPost_ret (v := .tuple #[askV ⟨0, 0, 0⟩, .int .i64 4]) (by simp [results, Try.results13, go_sem, askV, hz, r0, r1, r2]) rfl ⟨rfl, ?_⟩
  (repeat (first | with_reducible exact hk1 | with_reducible refine Below.setCell ?_ (by simp) _ | with_reducible refine Below.alloc ?_ (by simp; omega) _))

set_option maxRecDepth 100000 in
set_option maxHeartbeats 400000 in
theorem answer_kind (w : World) (b m : Nat) (S : BookD) (node id kind : Int) (a : AskD) (h : BookAt w b m S) (ha : aGet id S.L = some a) (h1 : (a.node != node) = false) (h2 : (replyOf a.kind != kind) = true) :
    Calls Try.prog 13 #[.pointer (some ⟨b, 0, none⟩), .int .i64 node, .int .i64 id, .int .i64 kind] w fun e w' => e = .returned (.tuple #[askV ⟨0, 0, 0⟩, .int .i64 4]) ∧ Below w.heap.size w w' := by
  have HA := Lib.hid ha
  clear ha
  go_enter Try.func13, Try.ntmps13
  go_wp2_with fail
  refine (get_found _ b m S id a (h.alloc _) HA.out).mono ?_
  rintro e w1 ⟨rfl, hb1⟩
  have hk1 : Below w.heap.size w w1 := ((Below.refl _ w).alloc (Nat.le_refl _) _).trans (hb1.mono (by simp))
  have hz : w.heap.size < w1.heap.size := by have := hb1.size; simp at this; omega
  have ho : obj w1 w.heap.size = some (.cells #[.int .i64 0, .int .i64 0, .int .i64 0] 32 (0, 0)) := (obj_below hb1 (by simp)).trans (obj_alloc_at _ _ _ rfl)
  have r0 : w1.cell? ⟨w.heap.size, 0, none⟩ = some (.int .i64 0) := cell_at ho 0
  have r1 : w1.cell? ⟨w.heap.size, 1, none⟩ = some (.int .i64 0) := cell_at ho 1
  have r2 : w1.cell? ⟨w.heap.size, 2, none⟩ = some (.int .i64 0) := cell_at ho 2
  have rf : ∀ i, w1.frozen? ⟨w.heap.size, i, none⟩ = false := frozen_at ho
  unfold askV
  go_wp2_with ((go_at_call 25; refine (reply_any _ _).mono ?_; rintro e w' ⟨rfl, rfl⟩))
  refine bodyPost_ret (v := .tuple #[askV ⟨0, 0, 0⟩, .int .i64 4]) (by simp [results, Try.results13, go_sem, askV, hz, r0, r1, r2]) rfl ⟨rfl, ?_⟩
  (repeat (first | with_reducible exact hk1 | with_reducible refine Below.setCell ?_ (by simp) _ | with_reducible refine Below.alloc ?_ (by simp; omega) _))
end Go.Proofs.Ytnaknoebjbmboaa
