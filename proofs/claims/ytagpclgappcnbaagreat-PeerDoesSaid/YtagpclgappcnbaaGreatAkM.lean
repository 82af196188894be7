import Derived.Test.YtagpclgappcnbaaGreatLib
import Derived.BigQuiet
import Derived.StillTailTactics
namespace Go.Proofs.YtagpclgappcnbaaGreat.Ak
open Go.RowKit

def replyOf (k : Int) : Int := if k = 1 ∨ k = 3 ∨ k = 5 then k + 1 else if k = 7 then 8 else if k = 9 ∨ k = 10 then 11 else 0
set_option maxHeartbeats 400000 in
theorem reply_any (k : Int) (w : World) :
    Calls Tryz.prog 97 #[.int .i64 k] w fun e w' => e = .returned (.int .i64 (replyOf k)) ∧ w = w' := by
  go_enter Tryz.func97, Tryz.ntmps97
  go_wp2
  all_goals (go_ret; refine ⟨?_, rfl⟩; unfold replyOf; simp_all [wrap64])
theorem none_nil (w : World) : Calls Tryz.prog 92 #[.pointer none] w fun e w' => e = .returned (.bool true) ∧ w = w' := by
  go_enter Tryz.func92, Tryz.ntmps92
  go_wp2
  go_ret
  exact ⟨rfl, rfl⟩
theorem eqlMapNil43 (w : World) (r : Option Nat) : (binOp .eql 122 (.map r) (.map none)).run Tryz.prog w = .ok (.bool r.isNone) w := run_eql_map_nil w _ _ _ r Tryz.underlying122
theorem none_made (w : World) (b : Nat) (m : Nat) (h0 : w.cell? ⟨b, 2, none⟩ = some (.map (some m))) : Calls Tryz.prog 92 #[.pointer (some ⟨b, 0, none⟩)] w fun e w' => e = .returned (.bool false) ∧ w = w' := by
  have hq := eqlMapNil43
  go_enter Tryz.func92, Tryz.ntmps92
  go_wp2
  go_ret
  exact ⟨rfl, rfl⟩

structure AskD where
  id : Int
  node : Int
  kind : Int
def askV (a : AskD) : Value := .agg #[.int .i64 a.id, .int .i64 a.node, .int .i64 a.kind]
structure BookD where
  room : Int
  last : Int
  L : List (Int × AskD)
  asked : Int
  ans : Int
  exp : Int
def bookCells (m : Nat) (S : BookD) : Array Value := #[.int .i64 S.room, .int .i64 S.last, .map (some m), .int .i64 S.asked, .int .i64 S.ans, .int .i64 S.exp]
structure BookAt (w : World) (b m : Nat) (S : BookD) : Prop where
  cells : obj w b = some (.cells (bookCells m S) 124 (0, 0))
  map : MapI w m askV S.L
end Go.Proofs.YtagpclgappcnbaaGreat.Ak
namespace Go.Proofs.YtagpclgappcnbaaGreat
open Go.RowKit
open Go.Proofs.YtagpclgappcnbaaGreat.Ak
theorem MapI.of_heap {ν : Type} {enc : ν → Value} {w W : World} {m : Nat} {L : List (Int × ν)} (h : MapI w m enc L) (e : obj W m = obj w m) : MapI W m enc L := by
  obtain ⟨es, clk, h1, h2⟩ := h
  exact ⟨es, clk, e.trans h1, h2⟩
end Go.Proofs.YtagpclgappcnbaaGreat
namespace Go.Proofs.YtagpclgappcnbaaGreat.Ak
open Go.RowKit
end Go.Proofs.YtagpclgappcnbaaGreat.Ak
namespace Go.Proofs.YtagpclgappcnbaaGreat
open Go.RowKit
open Go.Proofs.YtagpclgappcnbaaGreat.Ak
theorem MapI.lt {ν : Type} {enc : ν → Value} {w : World} {m : Nat} {L : List (Int × ν)} (h : MapI w m enc L) : m < w.heap.size := by
  obtain ⟨es, clk, h1, h2⟩ := h
  exact lt_of_obj h1
end Go.Proofs.YtagpclgappcnbaaGreat
namespace Go.Proofs.YtagpclgappcnbaaGreat.Ak
open Go.RowKit
theorem BookAt.lt {w : World} {b m : Nat} {S : BookD} (h : BookAt w b m S) : b < w.heap.size := lt_of_obj h.cells
theorem BookAt.mlt {w : World} {b m : Nat} {S : BookD} (h : BookAt w b m S) : m < w.heap.size := h.map.lt
theorem BookAt.ne {w : World} {b m : Nat} {S : BookD} (h : BookAt w b m S) : b ≠ m := by
  obtain ⟨es, clk, h1, h2⟩ := h.map
  intro e
  rw [← e] at h1; rw [h.cells] at h1
  cases h1
theorem zero32 (w : World) : (zeroValue 66).run Tryz.prog w = .ok (.agg #[.int .i64 0, .int .i64 0, .int .i64 0]) w := by kernel_rfl

set_option maxRecDepth 100000 in
set_option maxHeartbeats 400000 in
theorem get_found (w : World) (b m : Nat) (S : BookD) (id : Int) (a : AskD) (h : BookAt w b m S) (ha : aGet id S.L = some a) :
    Calls Tryz.prog 83 #[.pointer (some ⟨b, 0, none⟩), .int .i64 id] w fun e w' => e = .returned (.tuple #[askV a, .int .i64 0]) ∧ Below w.heap.size w w' := by
  have c2 : w.cell? ⟨b, 2, none⟩ = some (.map (some m)) := cell_at h.cells 2
  have hb := h.lt
  obtain ⟨es, clk, hm, hr⟩ := h.map
  have hmlt := lt_of_obj hm
  have hl : ∀ W : World, obj W m = some (.map es clk) → (Instr.lookup 122 (.map (some m)) (.int .i64 id) true).run Tryz.prog W = .ok (.tuple #[.agg #[.int .i64 a.id, .int .i64 a.node, .int .i64 a.kind], .bool true]) W := by
    intro W hW
    have := run_lookup_int (w := W) Tryz.underlying122 Tryz.underlying2 zero32 ⟨es, clk, hW, hr⟩ id
    rw [ha] at this
    exact this
  clear ha
  go_enter Tryz.func83, Tryz.ntmps83
  go_wp2_with ((go_at_call 92; refine (none_made _ _ m (by go_simp)).mono ?_; rintro e w' ⟨rfl, rfl⟩))
  refine bodyPost_ret (v := .tuple #[askV a, .int .i64 0]) (by simp [results, Tryz.results83, go_sem, askV]) rfl ⟨rfl, ?_⟩
  exact ((Below.refl _ _).alloc (Nat.le_refl _) _).alloc (by simp) _
set_option maxRecDepth 100000 in
set_option maxHeartbeats 400000 in
theorem get_none (w : World) (b m : Nat) (S : BookD) (id : Int) (h : BookAt w b m S) (ha : aGet id S.L = none) :
    Calls Tryz.prog 83 #[.pointer (some ⟨b, 0, none⟩), .int .i64 id] w fun e w' => e = .returned (.tuple #[askV ⟨0, 0, 0⟩, .int .i64 4]) ∧ Below w.heap.size w w' := by
  have c2 : w.cell? ⟨b, 2, none⟩ = some (.map (some m)) := cell_at h.cells 2
  have hb := h.lt
  obtain ⟨es, clk, hm, hr⟩ := h.map
  have hmlt := lt_of_obj hm
  have hl : ∀ W : World, obj W m = some (.map es clk) → (Instr.lookup 122 (.map (some m)) (.int .i64 id) true).run Tryz.prog W = .ok (.tuple #[.agg #[.int .i64 0, .int .i64 0, .int .i64 0], .bool false]) W := by
    intro W hW
    have := run_lookup_int (w := W) Tryz.underlying122 Tryz.underlying2 zero32 ⟨es, clk, hW, hr⟩ id
    rw [ha] at this
    exact this
  clear ha
  go_enter Tryz.func83, Tryz.ntmps83
  go_wp2_with ((go_at_call 92; refine (none_made _ _ m (by go_simp)).mono ?_; rintro e w' ⟨rfl, rfl⟩))
  refine bodyPost_ret (v := .tuple #[askV ⟨0, 0, 0⟩, .int .i64 4]) (by simp [results, Tryz.results83, go_sem, askV]) rfl ⟨rfl, ?_⟩
  exact ((Below.refl _ _).alloc (Nat.le_refl _) _).alloc (by simp) _

theorem ask_arg (w : World) (b m : Nat) (S : BookD) (node kind : Int) (h : BookAt w b m S) (ha : node < 0 ∨ 32 ≤ node ∨ replyOf kind = 0) :
    Calls Tryz.prog 54 #[.pointer (some ⟨b, 0, none⟩), .int .i64 node, .int .i64 kind] w fun e w' => e = .returned (.tuple #[.int .i64 0, .int .i64 1]) ∧ w = w' := by
  have c2 : w.cell? ⟨b, 2, none⟩ = some (.map (some m)) := cell_at h.cells 2
  by_cases h1 : node < 0
  · clear ha
    go_enter Tryz.func54, Tryz.ntmps54
    go_wp2_with ((go_at_call 92; refine (none_made _ _ m (by go_simp)).mono ?_; rintro e w' ⟨rfl, rfl⟩))
    go_ret2
    exact ⟨rfl, rfl⟩
  · by_cases h2 : 32 ≤ node
    · clear ha
      go_enter Tryz.func54, Tryz.ntmps54
      go_wp2_with ((go_at_call 92; refine (none_made _ _ m (by go_simp)).mono ?_; rintro e w' ⟨rfl, rfl⟩))
      go_ret2
      exact ⟨rfl, rfl⟩
    · have h3 : replyOf kind = 0 := by omega
      clear ha
      go_enter Tryz.func54, Tryz.ntmps54
      go_wp2_with (first
        | (go_at_call 92; refine (none_made _ _ m (by go_simp)).mono ?_; rintro e w' ⟨rfl, rfl⟩)
        | (go_at_call 97; refine (reply_any _ _).mono ?_; rintro e w' ⟨rfl, rfl⟩))
      go_ret2
      exact ⟨rfl, rfl⟩
theorem ask_full (w : World) (b m : Nat) (S : BookD) (node kind : Int) (h : BookAt w b m S) (h1 : 0 ≤ node) (h2 : node < 32) (h3 : (replyOf kind == 0) = false) (h4 : S.room ≤ S.L.length ∨ 2147483647 ≤ S.last) :
    Calls Tryz.prog 54 #[.pointer (some ⟨b, 0, none⟩), .int .i64 node, .int .i64 kind] w fun e w' => e = .returned (.tuple #[.int .i64 0, .int .i64 6]) ∧ Below w.heap.size w w' := by
  have c0 : w.cell? ⟨b, 0, none⟩ = some (.int .i64 S.room) := cell_at h.cells 0
  have c1 : w.cell? ⟨b, 1, none⟩ = some (.int .i64 S.last) := cell_at h.cells 1
  have c2 : w.cell? ⟨b, 2, none⟩ = some (.map (some m)) := cell_at h.cells 2
  obtain ⟨es, clk, hm, hr⟩ := h.map
  have hl : ∀ W : World, obj W m = some (.map es clk) → (Builtin.len_ #[122] 3 #[.map (some m)]).run Tryz.prog W = .ok (.int .i64 S.L.length) W := by
    intro W hW
    exact run_len_int Tryz.underlying122 3 ⟨es, clk, hW, hr⟩
  by_cases h5 : S.room ≤ S.L.length
  · clear h4
    go_enter Tryz.func54, Tryz.ntmps54
    go_wp2_with (first
        | (go_at_call 92; refine (none_made _ _ m (by go_simp)).mono ?_; rintro e w' ⟨rfl, rfl⟩)
        | (go_at_call 97; refine (reply_any _ _).mono ?_; rintro e w' ⟨rfl, rfl⟩))
    go_quiet (fail)
    go_wp2
    go_ret2
    exact ⟨rfl, rfl, rfl, rfl, Nat.le_refl _, fun _ _ => rfl⟩
  · have h6 : 2147483647 ≤ S.last := by omega
    clear h4
    go_enter Tryz.func54, Tryz.ntmps54
    go_wp2_with (first
        | (go_at_call 92; refine (none_made _ _ m (by go_simp)).mono ?_; rintro e w' ⟨rfl, rfl⟩)
        | (go_at_call 97; refine (reply_any _ _).mono ?_; rintro e w' ⟨rfl, rfl⟩))
    go_quiet (fail)
    go_wp2
    go_ret2
    exact ⟨rfl, rfl, rfl, rfl, Nat.le_refl _, fun _ _ => rfl⟩
set_option maxRecDepth 100000 in
set_option maxHeartbeats 400000 in
theorem ask_ok (w : World) (b m : Nat) (S : BookD) (node kind : Int) (h : BookAt w b m S) (h1 : 0 ≤ node) (h2 : node < 32) (h3 : (replyOf kind == 0) = false) (h4 : S.L.length < S.room) (h5 : S.last < 2147483647) (h6 : 0 ≤ S.last)
    (ha : 0 ≤ S.asked) (ha' : S.asked < 4611686018427387904) :
    Calls Tryz.prog 54 #[.pointer (some ⟨b, 0, none⟩), .int .i64 node, .int .i64 kind] w fun e w' => e = .returned (.tuple #[.int .i64 (S.last + 1), .int .i64 0]) ∧
      BookAt w' b m { S with last := S.last + 1, L := aPut (S.last + 1) ⟨S.last + 1, node, kind⟩ S.L, asked := S.asked + 1 } ∧ Keeps (fun k => k = b ∨ k = m) w w' := by
  have c0 : w.cell? ⟨b, 0, none⟩ = some (.int .i64 S.room) := cell_at h.cells 0
  have c1 : w.cell? ⟨b, 1, none⟩ = some (.int .i64 S.last) := cell_at h.cells 1
  have c2 : w.cell? ⟨b, 2, none⟩ = some (.map (some m)) := cell_at h.cells 2
  have c3 : w.cell? ⟨b, 3, none⟩ = some (.int .i64 S.asked) := cell_at h.cells 3
  have f : ∀ i, w.frozen? ⟨b, i, none⟩ = false := frozen_at h.cells
  obtain ⟨es, clk, hm, hr⟩ := h.map
  have hl : ∀ W : World, obj W m = some (.map es clk) → (Builtin.len_ #[122] 3 #[.map (some m)]).run Tryz.prog W = .ok (.int .i64 S.L.length) W := by
    intro W hW
    exact run_len_int Tryz.underlying122 3 ⟨es, clk, hW, hr⟩
  have hne := h.ne
  have hne' : m ≠ b := fun e => hne e.symm
  obtain ⟨es', clk', hu, hr'⟩ := run_mapUpdate_int (enc := askV) (clk := clk) Tryz.underlying122 Tryz.underlying2 hr m (S.last + 1) ⟨S.last + 1, node, kind⟩
  simp only [askV] at hu
  go_enter Tryz.func54, Tryz.ntmps54
  go_wp2_with (first
        | (go_at_call 92; refine (none_made _ _ m (by go_simp)).mono ?_; rintro e w' ⟨rfl, rfl⟩)
        | (go_at_call 97; refine (reply_any _ _).mono ?_; rintro e w' ⟨rfl, rfl⟩))
  go_quiet (fail)
  go_wp2
  refine wp_region_quiet_tail 15 (by kernel_rfl) (by kernel_rfl) ?_
  simp only [List.take_succ_cons, List.take_zero, List.drop_succ_cons, List.drop_zero]
  repeat (go_big_quiet_step (fail))
  refine wpQuiet_nil ?_
  go_wp2
  go_ret2
  refine ⟨rfl, ⟨?_, ?_⟩, ?_⟩
  · simp [obj_setCell, obj_putObj, obj_drew, obj_drewN, hne, h.cells, bookCells, setC]
  · exact ⟨es', clk', by simp [obj_setCell, obj_putObj, obj_drew, obj_drewN, hne', hm], hr'⟩
  · (repeat (first | with_reducible exact Keeps.refl _ _ | with_reducible refine Keeps.drew ?_ | with_reducible refine Keeps.drewN ?_ _ | with_reducible refine Keeps.setCell ?_ (by simp) _ | with_reducible refine Keeps.putObj ?_ (by simp) _ | with_reducible refine Keeps.alloc ?_ _))
end Go.Proofs.YtagpclgappcnbaaGreat.Ak
namespace Go.Proofs.YtagpclgappcnbaaGreat.Ak
open Go.RowKit

end Go.Proofs.YtagpclgappcnbaaGreat.Ak
namespace Go.Proofs.YtagpclgappcnbaaGreat
open Go.RowKit
open Go.Proofs.YtagpclgappcnbaaGreat.Ak
theorem MapI.keep {ν : Type} {enc : ν → Value} {F : Nat → Prop} {w W : World} {m : Nat} {L : List (Int × ν)} (h : MapI w m enc L) (hk : Keeps F w W) (hm : ¬ F m) : MapI W m enc L :=
  h.of_heap (hk.block m h.lt hm)
end Go.Proofs.YtagpclgappcnbaaGreat
namespace Go.Proofs.YtagpclgappcnbaaGreat.Ak
open Go.RowKit
theorem BookAt.keep {F : Nat → Prop} {w W : World} {b m : Nat} {S : BookD} (h : BookAt w b m S) (hk : Keeps F w W) (hb : ¬ F b) (hm : ¬ F m) : BookAt W b m S :=
  ⟨(hk.block b h.lt hb).trans h.cells, h.map.keep hk hm⟩
theorem BookAt.alloc {w : World} {b m : Nat} {S : BookD} (h : BookAt w b m S) (o : Obj) : BookAt (w.alloc o) b m S :=
  h.keep (F := fun _ => False) ((Keeps.refl _ _).alloc o) (fun h => h) (fun h => h)
theorem BookAt.below {w W : World} {b m : Nat} {S : BookD} (h : BookAt w b m S) (hb : Below w.heap.size w W) : BookAt W b m S :=
  h.keep (F := fun _ => False) (Keeps.of_below hb) (fun h => h) (fun h => h)

set_option maxRecDepth 100000 in
set_option maxHeartbeats 400000 in
theorem answer_ok (w : World) (b m : Nat) (S : BookD) (node id kind : Int) (a : AskD) (h : BookAt w b m S) (ha : aGet id S.L = some a) (h1 : a.node = node) (h2 : replyOf a.kind = kind)
    (hn : 0 ≤ S.ans) (hn' : S.ans < 4611686018427387904) :
    Calls Tryz.prog 62 #[.pointer (some ⟨b, 0, none⟩), .int .i64 node, .int .i64 id, .int .i64 kind] w fun e w' => e = .returned (.tuple #[askV a, .int .i64 0]) ∧
      BookAt w' b m { S with L := aDel id S.L, ans := S.ans + 1 } ∧ Keeps (fun k => k = b ∨ k = m) w w' := by
  subst h1 h2
  have HA := Lib.hid ha
  clear ha
  go_enter Tryz.func62, Tryz.ntmps62
  go_wp2_with fail
  refine (get_found _ b m S id a (h.alloc _) HA.out).mono ?_
  rintro e w1 ⟨rfl, hb1⟩
  have h1 := (h.alloc _).below hb1
  have hk1 : Keeps (fun k => k = b ∨ k = m) w w1 := ((Keeps.refl _ _).alloc _).trans (Keeps.of_below hb1)
  have c2 : w1.cell? ⟨b, 2, none⟩ = some (.map (some m)) := cell_at h1.cells 2
  have c4 : w1.cell? ⟨b, 4, none⟩ = some (.int .i64 S.ans) := cell_at h1.cells 4
  have f : ∀ i, w1.frozen? ⟨b, i, none⟩ = false := frozen_at h1.cells
  obtain ⟨es, clk, hm, hr⟩ := h1.map
  have hne := h.ne
  have hne' : m ≠ b := fun e => hne e.symm
  have hblt := h1.lt
  have hmlt := h1.mlt
  obtain ⟨es', hu, hr'⟩ := run_delete_int (enc := askV) (clk := clk) Tryz.underlying122 Tryz.underlying2 0 2 hr m id
  have hz : w.heap.size < w1.heap.size := by have := hb1.size; simp at this; omega
  have ho : obj w1 w.heap.size = some (.cells #[.int .i64 0, .int .i64 0, .int .i64 0] 66 (0, 0)) := (obj_below hb1 (by simp)).trans (obj_alloc_at _ _ _ rfl)
  have r0 : w1.cell? ⟨w.heap.size, 0, none⟩ = some (.int .i64 0) := cell_at ho 0
  have r1 : w1.cell? ⟨w.heap.size, 1, none⟩ = some (.int .i64 0) := cell_at ho 1
  have r2 : w1.cell? ⟨w.heap.size, 2, none⟩ = some (.int .i64 0) := cell_at ho 2
  have rf : ∀ i, w1.frozen? ⟨w.heap.size, i, none⟩ = false := frozen_at ho
  have hmw := h.mlt
  have hbw := h.lt
  have hne2 : ¬ w.heap.size = m := by omega
  have hne3 : ¬ w.heap.size = b := by omega
  have hne4 : ¬ b = w.heap.size := by omega
  unfold askV
  go_wp2_with ((go_at_call 97; refine (reply_any _ _).mono ?_; rintro e w' ⟨rfl, rfl⟩))
  refine bodyPost_ret (v := .tuple #[askV a, .int .i64 0]) (by simp [results, Tryz.results62, go_sem, askV, hz, hmw, hbw, hne2, hne3, hne4, r0, r1, r2]) rfl ⟨rfl, ⟨?_, ?_⟩, ?_⟩
  · simp [obj_setCell, obj_putObj, obj_alloc_past, hblt, hne, hne3, hne4, h1.cells, bookCells, setC]
  · exact ⟨es', clk, by simp [obj_setCell, obj_putObj, obj_alloc_past, hmlt, hne', hne2, Ne.symm hne2, hm], hr'⟩
  · (repeat (first | with_reducible exact hk1 | with_reducible refine Keeps.drew ?_ | with_reducible refine Keeps.drewN ?_ _ | with_reducible refine Keeps.setCell ?_ (by simp) _ | with_reducible refine Keeps.putObj ?_ (by simp) _ | with_reducible refine Keeps.alloc ?_ _))

set_option maxRecDepth 100000 in
set_option maxHeartbeats 400000 in
theorem answer_none (w : World) (b m : Nat) (S : BookD) (node id kind : Int) (h : BookAt w b m S) (ha : aGet id S.L = none) :
    Calls Tryz.prog 62 #[.pointer (some ⟨b, 0, none⟩), .int .i64 node, .int .i64 id, .int .i64 kind] w fun e w' => e = .returned (.tuple #[askV ⟨0, 0, 0⟩, .int .i64 4]) ∧ Below w.heap.size w w' := by
  have HA := Lib.hid ha
  clear ha
  go_enter Tryz.func62, Tryz.ntmps62
  go_wp2_with fail
  refine (get_none _ b m S id (h.alloc _) HA.out).mono ?_
  rintro e w1 ⟨rfl, hb1⟩
  have hk1 : Below w.heap.size w w1 := ((Below.refl _ w).alloc (Nat.le_refl _) _).trans (hb1.mono (by simp))
  have hz : w.heap.size < w1.heap.size := by have := hb1.size; simp at this; omega
  have ho : obj w1 w.heap.size = some (.cells #[.int .i64 0, .int .i64 0, .int .i64 0] 66 (0, 0)) := (obj_below hb1 (by simp)).trans (obj_alloc_at _ _ _ rfl)
  have r0 : w1.cell? ⟨w.heap.size, 0, none⟩ = some (.int .i64 0) := cell_at ho 0
  have r1 : w1.cell? ⟨w.heap.size, 1, none⟩ = some (.int .i64 0) := cell_at ho 1
  have r2 : w1.cell? ⟨w.heap.size, 2, none⟩ = some (.int .i64 0) := cell_at ho 2
  have rf : ∀ i, w1.frozen? ⟨w.heap.size, i, none⟩ = false := frozen_at ho
  unfold askV
  go_wp2_with ((go_at_call 97; refine (reply_any _ _).mono ?_; rintro e w' ⟨rfl, rfl⟩))
  refine bodyPost_ret (v := .tuple #[askV ⟨0, 0, 0⟩, .int .i64 4]) (by simp [results, Tryz.results62, go_sem, askV, hz, r0, r1, r2]) rfl ⟨rfl, ?_⟩
  (repeat (first | with_reducible exact hk1 | with_reducible refine Below.setCell ?_ (by simp) _ | with_reducible refine Below.alloc ?_ (by simp; omega) _))

set_option maxRecDepth 100000 in
set_option maxHeartbeats 400000 in
theorem answer_node (w : World) (b m : Nat) (S : BookD) (node id kind : Int) (a : AskD) (h : BookAt w b m S) (ha : aGet id S.L = some a) (h1 : (a.node != node) = true) :
    Calls Tryz.prog 62 #[.pointer (some ⟨b, 0, none⟩), .int .i64 node, .int .i64 id, .int .i64 kind] w fun e w' => e = .returned (.tuple #[askV ⟨0, 0, 0⟩, .int .i64 4]) ∧ Below w.heap.size w w' := by
  have HA := Lib.hid ha
  clear ha
  go_enter Tryz.func62, Tryz.ntmps62
  go_wp2_with fail
  refine (get_found _ b m S id a (h.alloc _) HA.out).mono ?_
  rintro e w1 ⟨rfl, hb1⟩
  have hk1 : Below w.heap.size w w1 := ((Below.refl _ w).alloc (Nat.le_refl _) _).trans (hb1.mono (by simp))
  have hz : w.heap.size < w1.heap.size := by have := hb1.size; simp at this; omega
  have ho : obj w1 w.heap.size = some (.cells #[.int .i64 0, .int .i64 0, .int .i64 0] 66 (0, 0)) := (obj_below hb1 (by simp)).trans (obj_alloc_at _ _ _ rfl)
  have r0 : w1.cell? ⟨w.heap.size, 0, none⟩ = some (.int .i64 0) := cell_at ho 0
  have r1 : w1.cell? ⟨w.heap.size, 1, none⟩ = some (.int .i64 0) := cell_at ho 1
  have r2 : w1.cell? ⟨w.heap.size, 2, none⟩ = some (.int .i64 0) := cell_at ho 2
  have rf : ∀ i, w1.frozen? ⟨w.heap.size, i, none⟩ = false := frozen_at ho
  unfold askV
  go_wp2_with ((go_at_call 97; refine (reply_any _ _).mono ?_; rintro e w' ⟨rfl, rfl⟩))
  refine bodyPost_ret (v := .tuple #[askV ⟨0, 0, 0⟩, .int .i64 4]) (by simp [results, Tryz.results62, go_sem, askV, hz, r0, r1, r2]) rfl ⟨rfl, ?_⟩
  (repeat (first | with_reducible exact hk1 | with_reducible refine Below.setCell ?_ (by simp) _ | with_reducible refine Below.alloc ?_ (by simp; omega) _))

set_option maxRecDepth 100000 in
set_option maxHeartbeats 400000 in
theorem answer_kind (w : World) (b m : Nat) (S : BookD) (node id kind : Int) (a : AskD) (h : BookAt w b m S) (ha : aGet id S.L = some a) (h1 : (a.node != node) = false) (h2 : (replyOf a.kind != kind) = true) :
    Calls Tryz.prog 62 #[.pointer (some ⟨b, 0, none⟩), .int .i64 node, .int .i64 id, .int .i64 kind] w fun e w' => e = .returned (.tuple #[askV ⟨0, 0, 0⟩, .int .i64 4]) ∧ Below w.heap.size w w' := by
  have HA := Lib.hid ha
  clear ha
  go_enter Tryz.func62, Tryz.ntmps62
  go_wp2_with fail
  refine (get_found _ b m S id a (h.alloc _) HA.out).mono ?_
  rintro e w1 ⟨rfl, hb1⟩
  have hk1 : Below w.heap.size w w1 := ((Below.refl _ w).alloc (Nat.le_refl _) _).trans (hb1.mono (by simp))
  have hz : w.heap.size < w1.heap.size := by have := hb1.size; simp at this; omega
  have ho : obj w1 w.heap.size = some (.cells #[.int .i64 0, .int .i64 0, .int .i64 0] 66 (0, 0)) := (obj_below hb1 (by simp)).trans (obj_alloc_at _ _ _ rfl)
  have r0 : w1.cell? ⟨w.heap.size, 0, none⟩ = some (.int .i64 0) := cell_at ho 0
  have r1 : w1.cell? ⟨w.heap.size, 1, none⟩ = some (.int .i64 0) := cell_at ho 1
  have r2 : w1.cell? ⟨w.heap.size, 2, none⟩ = some (.int .i64 0) := cell_at ho 2
  have rf : ∀ i, w1.frozen? ⟨w.heap.size, i, none⟩ = false := frozen_at ho
  unfold askV
  go_wp2_with ((go_at_call 97; refine (reply_any _ _).mono ?_; rintro e w' ⟨rfl, rfl⟩))
  refine bodyPost_ret (v := .tuple #[askV ⟨0, 0, 0⟩, .int .i64 4]) (by simp [results, Tryz.results62, go_sem, askV, hz, r0, r1, r2]) rfl ⟨rfl, ?_⟩
  (repeat (first | with_reducible exact hk1 | with_reducible refine Below.setCell ?_ (by simp) _ | with_reducible refine Below.alloc ?_ (by simp; omega) _))
end Go.Proofs.YtagpclgappcnbaaGreat.Ak
namespace Go.Proofs.YtagpclgappcnbaaGreat.Ak
open Go.RowKit

theorem new_ok (w : World) (room last : Int) (h1 : 1 ≤ room) (h2 : room ≤ 1024) (h3 : 0 ≤ last) (h4 : last ≤ 2147483647) :
    Calls Tryz.prog 23 #[.int .i64 room, .int .i64 last] w fun e w' => e = .returned (.tuple #[.pointer (some ⟨w.heap.size + 1, 0, none⟩), .int .i64 0]) ∧
      BookAt w' (w.heap.size + 1) w.heap.size ⟨room, last, [], 0, 0, 0⟩ ∧ Below w.heap.size w w' := by
  have hmm := @run_makeMap Tryz.prog
  go_enter Tryz.func23, Tryz.ntmps23
  go_wp2
  go_ret2
  refine ⟨rfl, ⟨?_, ?_⟩, ?_⟩
  · exact obj_alloc_at _ _ _ (by simp)
  · exact ⟨#[], 0, by rw [obj_alloc_past _ _ _ (by simp)]; exact obj_alloc_at _ _ _ rfl, trivial⟩
  · exact ((Below.refl _ _).alloc (Nat.le_refl _) _).alloc (by simp) _

theorem len_any (w : World) (b m : Nat) (S : BookD) (h : BookAt w b m S) :
    Calls Tryz.prog 89 #[.pointer (some ⟨b, 0, none⟩)] w fun e w' => e = .returned (.int .i64 S.L.length) ∧ w = w' := by
  have c2 : w.cell? ⟨b, 2, none⟩ = some (.map (some m)) := cell_at h.cells 2
  obtain ⟨es, clk, hm, hr⟩ := h.map
  have hl : ∀ W : World, obj W m = some (.map es clk) → (Builtin.len_ #[122] 3 #[.map (some m)]).run Tryz.prog W = .ok (.int .i64 S.L.length) W := by
    intro W hW
    exact run_len_int Tryz.underlying122 3 ⟨es, clk, hW, hr⟩
  go_enter Tryz.func89, Tryz.ntmps89
  go_wp2_with ((go_at_call 92; refine (none_made _ _ m (by go_simp)).mono ?_; rintro e w' ⟨rfl, rfl⟩))
  go_ret
  exact ⟨rfl, rfl⟩

theorem stat_any (w : World) (b m : Nat) (S : BookD) (h : BookAt w b m S) :
    Calls Tryz.prog 90 #[.pointer (some ⟨b, 0, none⟩)] w fun e w' => e = .returned (.agg #[.int .i64 S.asked, .int .i64 S.ans, .int .i64 S.exp]) ∧ Below w.heap.size w w' := by
  have c2 : w.cell? ⟨b, 2, none⟩ = some (.map (some m)) := cell_at h.cells 2
  have c3 : w.cell? ⟨b, 3, none⟩ = some (.int .i64 S.asked) := cell_at h.cells 3
  have c4 : w.cell? ⟨b, 4, none⟩ = some (.int .i64 S.ans) := cell_at h.cells 4
  have c5 : w.cell? ⟨b, 5, none⟩ = some (.int .i64 S.exp) := cell_at h.cells 5
  have hb := h.lt
  go_enter Tryz.func90, Tryz.ntmps90
  go_wp2_with ((go_at_call 92; refine (none_made _ _ m (by go_simp)).mono ?_; rintro e w' ⟨rfl, rfl⟩))
  refine bodyPost_ret (v := .agg #[.int .i64 S.asked, .int .i64 S.ans, .int .i64 S.exp]) (by simp [results, Tryz.results90, go_sem]) rfl ⟨rfl, ?_⟩
  exact ((Below.refl _ _).alloc (Nat.le_refl _) _)

set_option maxRecDepth 100000 in
set_option maxHeartbeats 400000 in
theorem expire_none (w : World) (b m : Nat) (S : BookD) (id : Int) (h : BookAt w b m S) (ha : aGet id S.L = none) :
    Calls Tryz.prog 56 #[.pointer (some ⟨b, 0, none⟩), .int .i64 id] w fun e w' => e = .returned (.tuple #[askV ⟨0, 0, 0⟩, .int .i64 4]) ∧ Below w.heap.size w w' := by
  have HA := Lib.hid ha
  clear ha
  go_enter Tryz.func56, Tryz.ntmps56
  go_wp2_with fail
  refine (get_none _ b m S id (h.alloc _) HA.out).mono ?_
  rintro e w1 ⟨rfl, hb1⟩
  have hk1 : Below w.heap.size w w1 := ((Below.refl _ w).alloc (Nat.le_refl _) _).trans (hb1.mono (by simp))
  have hz : w.heap.size < w1.heap.size := by have := hb1.size; simp at this; omega
  have ho : obj w1 w.heap.size = some (.cells #[.int .i64 0, .int .i64 0, .int .i64 0] 66 (0, 0)) := (obj_below hb1 (by simp)).trans (obj_alloc_at _ _ _ rfl)
  have r0 : w1.cell? ⟨w.heap.size, 0, none⟩ = some (.int .i64 0) := cell_at ho 0
  have r1 : w1.cell? ⟨w.heap.size, 1, none⟩ = some (.int .i64 0) := cell_at ho 1
  have r2 : w1.cell? ⟨w.heap.size, 2, none⟩ = some (.int .i64 0) := cell_at ho 2
  have rf : ∀ i, w1.frozen? ⟨w.heap.size, i, none⟩ = false := frozen_at ho
  unfold askV
  go_wp2_with fail
  refine bodyPost_ret (v := .tuple #[askV ⟨0, 0, 0⟩, .int .i64 4]) (by simp [results, Tryz.results56, go_sem, askV, hz, r0, r1, r2]) rfl ⟨rfl, ?_⟩
  (repeat (first | with_reducible exact hk1 | with_reducible refine Below.setCell ?_ (by simp) _ | with_reducible refine Below.alloc ?_ (by simp; omega) _))

set_option maxRecDepth 100000 in
set_option maxHeartbeats 400000 in
theorem expire_ok (w : World) (b m : Nat) (S : BookD) (id : Int) (a : AskD) (h : BookAt w b m S) (ha : aGet id S.L = some a)
    (hn : 0 ≤ S.exp) (hn' : S.exp < 4611686018427387904) :
    Calls Tryz.prog 56 #[.pointer (some ⟨b, 0, none⟩), .int .i64 id] w fun e w' => e = .returned (.tuple #[askV a, .int .i64 0]) ∧
      BookAt w' b m { S with L := aDel id S.L, exp := S.exp + 1 } ∧ Keeps (fun k => k = b ∨ k = m) w w' := by
  have HA := Lib.hid ha
  clear ha
  go_enter Tryz.func56, Tryz.ntmps56
  go_wp2_with fail
  refine (get_found _ b m S id a (h.alloc _) HA.out).mono ?_
  rintro e w1 ⟨rfl, hb1⟩
  have h1 := (h.alloc _).below hb1
  have hk1 : Keeps (fun k => k = b ∨ k = m) w w1 := ((Keeps.refl _ _).alloc _).trans (Keeps.of_below hb1)
  have c2 : w1.cell? ⟨b, 2, none⟩ = some (.map (some m)) := cell_at h1.cells 2
  have c5 : w1.cell? ⟨b, 5, none⟩ = some (.int .i64 S.exp) := cell_at h1.cells 5
  have f : ∀ i, w1.frozen? ⟨b, i, none⟩ = false := frozen_at h1.cells
  obtain ⟨es, clk, hm, hr⟩ := h1.map
  have hne := h.ne
  have hne' : m ≠ b := fun e => hne e.symm
  have hblt := h1.lt
  have hmlt := h1.mlt
  obtain ⟨es', hu, hr'⟩ := run_delete_int (enc := askV) (clk := clk) Tryz.underlying122 Tryz.underlying2 0 2 hr m id
  have hz : w.heap.size < w1.heap.size := by have := hb1.size; simp at this; omega
  have ho : obj w1 w.heap.size = some (.cells #[.int .i64 0, .int .i64 0, .int .i64 0] 66 (0, 0)) := (obj_below hb1 (by simp)).trans (obj_alloc_at _ _ _ rfl)
  have r0 : w1.cell? ⟨w.heap.size, 0, none⟩ = some (.int .i64 0) := cell_at ho 0
  have r1 : w1.cell? ⟨w.heap.size, 1, none⟩ = some (.int .i64 0) := cell_at ho 1
  have r2 : w1.cell? ⟨w.heap.size, 2, none⟩ = some (.int .i64 0) := cell_at ho 2
  have rf : ∀ i, w1.frozen? ⟨w.heap.size, i, none⟩ = false := frozen_at ho
  have hmw := h.mlt
  have hbw := h.lt
  have hne2 : ¬ w.heap.size = m := by omega
  have hne3 : ¬ w.heap.size = b := by omega
  have hne4 : ¬ b = w.heap.size := by omega
  unfold askV
  go_wp2_with fail
  refine bodyPost_ret (v := .tuple #[askV a, .int .i64 0]) (by simp [results, Tryz.results56, go_sem, askV, hz, hmw, hbw, hne2, hne3, hne4, r0, r1, r2]) rfl ⟨rfl, ⟨?_, ?_⟩, ?_⟩
  · simp [obj_setCell, obj_putObj, obj_alloc_past, hblt, hne, hne3, hne4, h1.cells, bookCells, setC]
  · exact ⟨es', clk, by simp [obj_setCell, obj_putObj, obj_alloc_past, hmlt, hne', hne2, Ne.symm hne2, hm], hr'⟩
  · (repeat (first | with_reducible exact hk1 | with_reducible refine Keeps.drew ?_ | with_reducible refine Keeps.drewN ?_ _ | with_reducible refine Keeps.setCell ?_ (by simp) _ | with_reducible refine Keeps.putObj ?_ (by simp) _ | with_reducible refine Keeps.alloc ?_ _))
end Go.Proofs.YtagpclgappcnbaaGreat.Ak
