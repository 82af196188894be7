import Derived.Test.YtagpclgappcnbaaGreatAkM
import Derived.Test.YtagpclgappcnbaaGreatMapR
namespace Go.Proofs.YtagpclgappcnbaaGreat.Ak
open Go.RowKit

/-! ### a book whose map may be ranged over -/
section
variable {P : Program} {t kt et : TypeId} {ν : Type} {enc : ν → Value} {L : List (Int × ν)}
theorem run_mapUpdate_is (ht : P.underlying t = some (.map kt et)) (hk : P.underlying kt = some (.int .i64))
    {es : Array MapEntry} {clk : Nat} (hr : RepI enc es.toList L) (hs : StampOK es.toList clk) (m : Nat) (k : Int) (v : ν) : ∃ es' clk', (∀ w : World, obj w m = some (.map es clk) → (Instr.mapUpdate t (.map (some m)) (.int .i64 k) (enc v)).run P w = .ok () (putObj w m (.map es' clk'))) ∧
      RepI enc es'.toList (aPut k v L) ∧ StampOK es'.toList clk' := by
  cases hi : aIdx k L 0 with
  | none =>
    obtain ⟨g1, _⟩ := RepI.absent k hr hi
    refine ⟨es.push { key := .int .i64 k, val := enc v, born := clk }, clk + 1, fun w hb => ?_, by simpa using g1 v clk, ?_⟩
    · simp only [Instr.mapUpdate, Sem.run_bind, run_underlying ht, Result.andThen_ok, MapKept.run_getObj_map hb, run_checkKey_int hk, run_findKey_int hk hr, hi, Option.map_none,
        MapKept.run_setObj_map _ hb, putObj]
    · obtain ⟨h1, h2⟩ := hs
      constructor
      · simp only [Array.toList_push, List.map_append, List.map_cons, List.map_nil]
        rw [List.nodup_append]
        refine ⟨h1, by simp, ?_⟩
        intro a ha b hb
        simp at hb
        subst hb
        obtain ⟨e, he, rfl⟩ := List.mem_map.1 ha
        have := h2 e he
        omega
      · intro e he
        simp only [Array.toList_push, List.mem_append, List.mem_singleton] at he
        rcases he with he | rfl
        · have := h2 e he; omega
        · exact Nat.lt_succ_self _
  | some x =>
    obtain ⟨i, u⟩ := x
    obtain ⟨e, g1, g2, g3, _⟩ := RepI.found k hr hi
    have g1' : es[i]? = some e := by simpa using g1
    refine ⟨es.modify i fun e => { e with key := .int .i64 k, val := enc v }, clk, fun w hb => ?_, by simpa using g3 v, ?_⟩
    · simp only [Instr.mapUpdate, Sem.run_bind, run_underlying ht, Result.andThen_ok, MapKept.run_getObj_map hb, run_checkKey_int hk, run_findKey_int hk hr, hi, Option.map_some,
        g1', Option.getD_some, g2, Instr.keyThatStays, Instr.sameBits, beq_self_eq_true, Bool.and_self, if_true, Sem.run_pure, MapKept.run_setObj_map _ hb, putObj]
    · obtain ⟨h1, h2⟩ := hs
      constructor
      · have hb := map_born_modify es.toList i (fun e => { e with key := .int .i64 k, val := enc v }) (fun _ => rfl)
        rw [Array.toList_modify, hb]; exact h1
      · intro e' he'
        have hmem : e'.born ∈ (es.modify i fun e => { e with key := .int .i64 k, val := enc v }).toList.map (·.born) := List.mem_map.2 ⟨e', he', rfl⟩
        have hb := map_born_modify es.toList i (fun e => { e with key := .int .i64 k, val := enc v }) (fun _ => rfl)
        rw [Array.toList_modify, hb] at hmem
        obtain ⟨e2, h3, h4⟩ := List.mem_map.1 hmem
        have := h2 e2 h3
        omega
theorem run_delete_is (ht : P.underlying t = some (.map kt et)) (hk : P.underlying kt = some (.int .i64)) (ty : TypeId) (ks : TypeId)
    {es : Array MapEntry} {clk : Nat} (hr : RepI enc es.toList L) (hs : StampOK es.toList clk) (m : Nat) (k : Int) : ∃ es', (∀ w : World, obj w m = some (.map es clk) → (Builtin.delete_ #[t, ks] ty #[.map (some m), .int .i64 k]).run P w = .ok (.tuple #[]) (putObj w m (.map es' clk))) ∧
      RepI enc es'.toList (aDel k L) ∧ StampOK es'.toList clk := by
  cases hi : aIdx k L 0 with
  | none =>
    obtain ⟨_, g1⟩ := RepI.absent k hr hi
    refine ⟨es, fun w hb => ?_, by rw [g1]; exact hr, hs⟩
    simp [Builtin.delete_, run_underlying ht, MapKept.run_getObj_map hb, run_checkKey_int hk, run_findKey_int hk hr, hi, MapKept.run_setObj_map _ hb, putObj]
  | some x =>
    obtain ⟨i, u⟩ := x
    obtain ⟨e, g1, g2, _, g3⟩ := RepI.found k hr hi
    refine ⟨es.eraseIdxIfInBounds i, fun w hb => ?_, by simpa [Array.toList_eraseIdxIfInBounds] using g3, ?_⟩
    · simp [Builtin.delete_, run_underlying ht, MapKept.run_getObj_map hb, run_checkKey_int hk, run_findKey_int hk hr, hi, MapKept.run_setObj_map _ hb, putObj]
    · obtain ⟨h1, h2⟩ := hs
      rw [Array.toList_eraseIdxIfInBounds]
      exact ⟨List.Nodup.sublist ((List.eraseIdx_sublist _ _).map _) h1, fun e he => h2 e ((List.eraseIdx_sublist _ _).subset he)⟩
end
end Go.Proofs.YtagpclgappcnbaaGreat.Ak
namespace Go.Proofs.YtagpclgappcnbaaGreat
open Go.RowKit
open Go.Proofs.YtagpclgappcnbaaGreat.Ak
theorem RepI.repK {ν : Type} {enc : ν → Value} : ∀ {es : List MapEntry} {L : List (Int × ν)}, RepI enc es L → RepK (fun n : Int => Value.int .i64 n) enc es L
  | [], [], _ => trivial
  | _ :: _, _ :: _, h => ⟨h.1, RepI.repK h.2⟩
  | [], _ :: _, h => h.elim
  | _ :: _, [], h => h.elim
end Go.Proofs.YtagpclgappcnbaaGreat
namespace Go.Proofs.YtagpclgappcnbaaGreat.Ak
open Go.RowKit
def StampM (w : World) (m : Nat) : Prop := ∃ es clk, obj w m = some (.map es clk) ∧ StampOK es.toList clk
theorem StampM.of {w : World} {m : Nat} {es : Array MapEntry} {clk : Nat} (h : StampM w m) (hm : obj w m = some (.map es clk)) : StampOK es.toList clk := by
  obtain ⟨es', clk', h1, h2⟩ := h
  rw [hm] at h1
  cases h1
  exact h2
theorem StampM.of_obj {w W : World} {m : Nat} (h : StampM w m) (e : obj W m = obj w m) : StampM W m := by
  obtain ⟨es, clk, h1, h2⟩ := h
  exact ⟨es, clk, e.trans h1, h2⟩
set_option maxRecDepth 100000 in
set_option maxHeartbeats 400000 in
theorem ask_okS (w : World) (b m : Nat) (S : BookD) (node kind : Int) (h : BookAt w b m S) (hS : StampM w m) (h1 : 0 ≤ node) (h2 : node < 32) (h3 : (replyOf kind == 0) = false) (h4 : S.L.length < S.room) (h5 : S.last < 2147483647) (h6 : 0 ≤ S.last)
    (ha : 0 ≤ S.asked) (ha' : S.asked < 4611686018427387904) :
    Calls Tryz.prog 54 #[.pointer (some ⟨b, 0, none⟩), .int .i64 node, .int .i64 kind] w fun e w' => e = .returned (.tuple #[.int .i64 (S.last + 1), .int .i64 0]) ∧
      BookAt w' b m { S with last := S.last + 1, L := aPut (S.last + 1) ⟨S.last + 1, node, kind⟩ S.L, asked := S.asked + 1 } ∧ StampM w' m ∧ Keeps (fun k => k = b ∨ k = m) w w' := by
  have c0 : w.cell? ⟨b, 0, none⟩ = some (.int .i64 S.room) := cell_at h.cells 0
  have c1 : w.cell? ⟨b, 1, none⟩ = some (.int .i64 S.last) := cell_at h.cells 1
  have c2 : w.cell? ⟨b, 2, none⟩ = some (.map (some m)) := cell_at h.cells 2
  have c3 : w.cell? ⟨b, 3, none⟩ = some (.int .i64 S.asked) := cell_at h.cells 3
  have f : ∀ i, w.frozen? ⟨b, i, none⟩ = false := frozen_at h.cells
  obtain ⟨es, clk, hm, hr⟩ := h.map
  have hst := hS.of hm
  have hl : ∀ W : World, obj W m = some (.map es clk) → (Builtin.len_ #[122] 3 #[.map (some m)]).run Tryz.prog W = .ok (.int .i64 S.L.length) W := by
    intro W hW
    exact run_len_int Tryz.underlying122 3 ⟨es, clk, hW, hr⟩
  have hne := h.ne
  have hne' : m ≠ b := fun e => hne e.symm
  obtain ⟨es', clk', hu, hr', hs'⟩ := run_mapUpdate_is (enc := askV) (clk := clk) Tryz.underlying122 Tryz.underlying2 hr hst m (S.last + 1) ⟨S.last + 1, node, kind⟩
  simp only [askV] at hu
  go_enter Tryz.func54, Tryz.ntmps54
  go_wp2_with (first
        | (go_at_call 92; refine (none_made _ _ m (by go_simp)).mono ?_; rintro e w' ⟨rfl, rfl⟩)
        | (go_at_call 97; refine (reply_any _ _).mono ?_; rintro e w' ⟨rfl, rfl⟩))
  go_quiet (fail)
  go_wp2
  refine wp_region_quiet_tail 15 (by kernel_rfl) (by kernel_rfl) ?_
  simp only [List.take_succ_cons, List.take_zero, List.drop_succ_cons, List.drop_zero]
  repeat (go_big_quiet_step (fail))
  refine wpQuiet_nil ?_
  go_wp2
  go_ret2
  refine ⟨rfl, ⟨?_, ?_⟩, ?_, ?_⟩
  · simp [obj_setCell, obj_putObj, obj_drew, obj_drewN, hne, h.cells, bookCells, setC]
  · exact ⟨es', clk', by simp [obj_setCell, obj_putObj, obj_drew, obj_drewN, hne', hm], hr'⟩
  · exact ⟨es', clk', by simp [obj_setCell, obj_putObj, obj_drew, obj_drewN, hne', hm], hs'⟩
  · (repeat (first | with_reducible exact Keeps.refl _ _ | with_reducible refine Keeps.drew ?_ | with_reducible refine Keeps.drewN ?_ _ | with_reducible refine Keeps.setCell ?_ (by simp) _ | with_reducible refine Keeps.putObj ?_ (by simp) _ | with_reducible refine Keeps.alloc ?_ _))
set_option maxRecDepth 100000 in
set_option maxHeartbeats 400000 in
theorem answer_okS (w : World) (b m : Nat) (S : BookD) (node id kind : Int) (a : AskD) (h : BookAt w b m S) (hS : StampM w m) (ha : aGet id S.L = some a) (h1 : a.node = node) (h2 : replyOf a.kind = kind)
    (hn : 0 ≤ S.ans) (hn' : S.ans < 4611686018427387904) :
    Calls Tryz.prog 62 #[.pointer (some ⟨b, 0, none⟩), .int .i64 node, .int .i64 id, .int .i64 kind] w fun e w' => e = .returned (.tuple #[askV a, .int .i64 0]) ∧
      BookAt w' b m { S with L := aDel id S.L, ans := S.ans + 1 } ∧ StampM w' m ∧ Keeps (fun k => k = b ∨ k = m) w w' := by
  subst h1 h2
  have HA := Lib.hid ha
  clear ha
  go_enter Tryz.func62, Tryz.ntmps62
  go_wp2_with fail
  refine (get_found _ b m S id a (h.alloc _) HA.out).mono ?_
  rintro e w1 ⟨rfl, hb1⟩
  have h1 := (h.alloc _).below hb1
  have hk1 : Keeps (fun k => k = b ∨ k = m) w w1 := ((Keeps.refl _ _).alloc _).trans (Keeps.of_below hb1)
  have c2 : w1.cell? ⟨b, 2, none⟩ = some (.map (some m)) := cell_at h1.cells 2
  have c4 : w1.cell? ⟨b, 4, none⟩ = some (.int .i64 S.ans) := cell_at h1.cells 4
  have f : ∀ i, w1.frozen? ⟨b, i, none⟩ = false := frozen_at h1.cells
  have hS1 : StampM w1 m := hS.of_obj ((obj_below hb1 (by simp; exact Nat.lt_succ_of_lt h.mlt)).trans (obj_alloc_past _ _ _ h.mlt))
  obtain ⟨es, clk, hm, hr⟩ := h1.map
  have hst := hS1.of hm
  have hne := h.ne
  have hne' : m ≠ b := fun e => hne e.symm
  have hblt := h1.lt
  have hmlt := h1.mlt
  obtain ⟨es', hu, hr', hs'⟩ := run_delete_is (enc := askV) (clk := clk) Tryz.underlying122 Tryz.underlying2 0 2 hr hst m id
  have hz : w.heap.size < w1.heap.size := by have := hb1.size; simp at this; omega
  have ho : obj w1 w.heap.size = some (.cells #[.int .i64 0, .int .i64 0, .int .i64 0] 66 (0, 0)) := (obj_below hb1 (by simp)).trans (obj_alloc_at _ _ _ rfl)
  have r0 : w1.cell? ⟨w.heap.size, 0, none⟩ = some (.int .i64 0) := cell_at ho 0
  have r1 : w1.cell? ⟨w.heap.size, 1, none⟩ = some (.int .i64 0) := cell_at ho 1
  have r2 : w1.cell? ⟨w.heap.size, 2, none⟩ = some (.int .i64 0) := cell_at ho 2
  have rf : ∀ i, w1.frozen? ⟨w.heap.size, i, none⟩ = false := frozen_at ho
  have hmw := h.mlt
  have hbw := h.lt
  have hne2 : ¬ w.heap.size = m := by omega
  have hne3 : ¬ w.heap.size = b := by omega
  have hne4 : ¬ b = w.heap.size := by omega
  unfold askV
  go_wp2_with ((go_at_call 97; refine (reply_any _ _).mono ?_; rintro e w' ⟨rfl, rfl⟩))
  refine bodyPost_ret (v := .tuple #[askV a, .int .i64 0]) (by simp [results, Tryz.results62, go_sem, askV, hz, hmw, hbw, hne2, hne3, hne4, r0, r1, r2]) rfl ⟨rfl, ⟨?_, ?_⟩, ?_, ?_⟩
  · simp [obj_setCell, obj_putObj, obj_alloc_past, hblt, hne, hne3, hne4, h1.cells, bookCells, setC]
  · exact ⟨es', clk, by simp [obj_setCell, obj_putObj, obj_alloc_past, hmlt, hne', hne2, Ne.symm hne2, hm], hr'⟩
  · exact ⟨es', clk, by simp [obj_setCell, obj_putObj, obj_alloc_past, hmlt, hne', hne2, Ne.symm hne2, hm], hs'⟩
  · (repeat (first | with_reducible exact hk1 | with_reducible refine Keeps.drew ?_ | with_reducible refine Keeps.drewN ?_ _ | with_reducible refine Keeps.setCell ?_ (by simp) _ | with_reducible refine Keeps.putObj ?_ (by simp) _ | with_reducible refine Keeps.alloc ?_ _))
set_option maxRecDepth 100000 in
set_option maxHeartbeats 400000 in
theorem expire_okS (w : World) (b m : Nat) (S : BookD) (id : Int) (a : AskD) (h : BookAt w b m S) (hS : StampM w m) (ha : aGet id S.L = some a)
    (hn : 0 ≤ S.exp) (hn' : S.exp < 4611686018427387904) :
    Calls Tryz.prog 56 #[.pointer (some ⟨b, 0, none⟩), .int .i64 id] w fun e w' => e = .returned (.tuple #[askV a, .int .i64 0]) ∧
      BookAt w' b m { S with L := aDel id S.L, exp := S.exp + 1 } ∧ StampM w' m ∧ Keeps (fun k => k = b ∨ k = m) w w' := by
  have HA := Lib.hid ha
  clear ha
  go_enter Tryz.func56, Tryz.ntmps56
  go_wp2_with fail
  refine (get_found _ b m S id a (h.alloc _) HA.out).mono ?_
  rintro e w1 ⟨rfl, hb1⟩
  have h1 := (h.alloc _).below hb1
  have hk1 : Keeps (fun k => k = b ∨ k = m) w w1 := ((Keeps.refl _ _).alloc _).trans (Keeps.of_below hb1)
  have c2 : w1.cell? ⟨b, 2, none⟩ = some (.map (some m)) := cell_at h1.cells 2
  have c5 : w1.cell? ⟨b, 5, none⟩ = some (.int .i64 S.exp) := cell_at h1.cells 5
  have f : ∀ i, w1.frozen? ⟨b, i, none⟩ = false := frozen_at h1.cells
  have hS1 : StampM w1 m := hS.of_obj ((obj_below hb1 (by simp; exact Nat.lt_succ_of_lt h.mlt)).trans (obj_alloc_past _ _ _ h.mlt))
  obtain ⟨es, clk, hm, hr⟩ := h1.map
  have hst := hS1.of hm
  have hne := h.ne
  have hne' : m ≠ b := fun e => hne e.symm
  have hblt := h1.lt
  have hmlt := h1.mlt
  obtain ⟨es', hu, hr', hs'⟩ := run_delete_is (enc := askV) (clk := clk) Tryz.underlying122 Tryz.underlying2 0 2 hr hst m id
  have hz : w.heap.size < w1.heap.size := by have := hb1.size; simp at this; omega
  have ho : obj w1 w.heap.size = some (.cells #[.int .i64 0, .int .i64 0, .int .i64 0] 66 (0, 0)) := (obj_below hb1 (by simp)).trans (obj_alloc_at _ _ _ rfl)
  have r0 : w1.cell? ⟨w.heap.size, 0, none⟩ = some (.int .i64 0) := cell_at ho 0
  have r1 : w1.cell? ⟨w.heap.size, 1, none⟩ = some (.int .i64 0) := cell_at ho 1
  have r2 : w1.cell? ⟨w.heap.size, 2, none⟩ = some (.int .i64 0) := cell_at ho 2
  have rf : ∀ i, w1.frozen? ⟨w.heap.size, i, none⟩ = false := frozen_at ho
  have hmw := h.mlt
  have hbw := h.lt
  have hne2 : ¬ w.heap.size = m := by omega
  have hne3 : ¬ w.heap.size = b := by omega
  have hne4 : ¬ b = w.heap.size := by omega
  unfold askV
  go_wp2_with fail
  refine bodyPost_ret (v := .tuple #[askV a, .int .i64 0]) (by simp [results, Tryz.results56, go_sem, askV, hz, hmw, hbw, hne2, hne3, hne4, r0, r1, r2]) rfl ⟨rfl, ⟨?_, ?_⟩, ?_, ?_⟩
  · simp [obj_setCell, obj_putObj, obj_alloc_past, hblt, hne, hne3, hne4, h1.cells, bookCells, setC]
  · exact ⟨es', clk, by simp [obj_setCell, obj_putObj, obj_alloc_past, hmlt, hne', hne2, Ne.symm hne2, hm], hr'⟩
  · exact ⟨es', clk, by simp [obj_setCell, obj_putObj, obj_alloc_past, hmlt, hne', hne2, Ne.symm hne2, hm], hs'⟩
  · (repeat (first | with_reducible exact hk1 | with_reducible refine Keeps.drew ?_ | with_reducible refine Keeps.drewN ?_ _ | with_reducible refine Keeps.setCell ?_ (by simp) _ | with_reducible refine Keeps.putObj ?_ (by simp) _ | with_reducible refine Keeps.alloc ?_ _))
end Go.Proofs.YtagpclgappcnbaaGreat.Ak
