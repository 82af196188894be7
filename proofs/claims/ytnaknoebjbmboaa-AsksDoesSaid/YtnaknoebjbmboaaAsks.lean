import Derived.Test.YtnaknoebjbmboaaLib
import Derived.BigQuiet
import Derived.StillTailTactics
namespace Go.Proofs.Ytnaknoebjbmboaa
open Go.RowKit

def replyOf (k : Int) : Int := if k = 1 ∨ k = 3 ∨ k = 5 then k + 1 else if k = 7 then 8 else if k = 9 ∨ k = 10 then 11 else 0
set_option maxHeartbeats 400000 in
theorem reply_any (k : Int) (w : World) :
    Calls Try.prog 25 #[.int .i64 k] w fun e w' => e = .returned (.int .i64 (replyOf k)) ∧ w = w' := by
  go_enter Try.func25, Try.ntmps25
  go_wp2
  all_goals (go_ret; refine ⟨?_, rfl⟩; unfold replyOf; simp_all [wrap64])
theorem none_nil (w : World) : Calls Try.prog 24 #[.pointer none] w fun e w' => e = .returned (.bool true) ∧ w = w' := by
  go_enter Try.func24, Try.ntmps24
  go_wp2
  go_ret
  exact ⟨rfl, rfl⟩
theorem eqlMapNil43 (w : World) (r : Option Nat) : (binOp .eql 43 (.map r) (.map none)).run Try.prog w = .ok (.bool r.isNone) w := run_eql_map_nil w _ _ _ r Try.underlying43
theorem none_made (w : World) (b : Nat) (m : Nat) (h0 : w.cell? ⟨b, 2, none⟩ = some (.map (some m))) : Calls Try.prog 24 #[.pointer (some ⟨b, 0, none⟩)] w fun e w' => e = .returned (.bool false) ∧ w = w' := by
  have hq := eqlMapNil43
  go_enter Try.func24, Try.ntmps24
  go_wp2
  go_ret
  exact ⟨rfl, rfl⟩

structure AskD where
  id : Int
  node : Int
  kind : Int
def askV (a : AskD) : Value := .agg #[.int .i64 a.id, .int .i64 a.node, .int .i64 a.kind]
structure BookD where
  room : Int
  last : Int
  L : List (Int × AskD)
  asked : Int
  ans : Int
  exp : Int
def bookCells (m : Nat) (S : BookD) : Array Value := #[.int .i64 S.room, .int .i64 S.last, .map (some m), .int .i64 S.asked, .int .i64 S.ans, .int .i64 S.exp]
structure BookAt (w : World) (b m : Nat) (S : BookD) : Prop where
  cells : obj w b = some (.cells (bookCells m S) 49 (0, 0))
  map : MapI w m askV S.L
theorem MapI.of_heap {ν : Type} {enc : ν → Value} {w W : World} {m : Nat} {L : List (Int × ν)} (h : MapI w m enc L) (e : obj W m = obj w m) : MapI W m enc L := by
  obtain ⟨es, clk, h1, h2⟩ := h
  exact ⟨es, clk, e.trans h1, h2⟩
theorem MapI.lt {ν : Type} {enc : ν → Value} {w : World} {m : Nat} {L : List (Int × ν)} (h : MapI w m enc L) : m < w.heap.size := by
  obtain ⟨es, clk, h1, h2⟩ := h
  exact lt_of_obj h1
theorem BookAt.lt {w : World} {b m : Nat} {S : BookD} (h : BookAt w b m S) : b < w.heap.size := lt_of_obj h.cells
theorem BookAt.mlt {w : World} {b m : Nat} {S : BookD} (h : BookAt w b m S) : m < w.heap.size := h.map.lt
theorem BookAt.ne {w : World} {b m : Nat} {S : BookD} (h : BookAt w b m S) : b ≠ m := by
  obtain ⟨es, clk, h1, h2⟩ := h.map
  intro e
  rw [← e] at h1; rw [h.cells] at h1
  cases h1
theorem zero32 (w : World) : (zeroValue 32).run Try.prog w = .ok (.agg #[.int .i64 0, .int .i64 0, .int .i64 0]) w := by kernel_rfl

set_option maxRecDepth 100000 in
set_option maxHeartbeats 400000 in
theorem get_found (w : World) (b m : Nat) (S : BookD) (id : Int) (a : AskD) (h : BookAt w b m S) (ha : aGet id S.L = some a) :
    Calls Try.prog 14 #[.pointer (some ⟨b, 0, none⟩), .int .i64 id] w fun e w' => e = .returned (.tuple #[askV a, .int .i64 0]) ∧ Below w.heap.size w w' := by
  have c2 : w.cell? ⟨b, 2, none⟩ = some (.map (some m)) := cell_at h.cells 2
  have hb := h.lt
  obtain ⟨es, clk, hm, hr⟩ := h.map
  have hmlt := lt_of_obj hm
  have hl : ∀ W : World, obj W m = some (.map es clk) → (Instr.lookup 43 (.map (some m)) (.int .i64 id) true).run Try.prog W = .ok (.tuple #[.agg #[.int .i64 a.id, .int .i64 a.node, .int .i64 a.kind], .bool true]) W := by
    intro W hW
    have := run_lookup_int (w := W) Try.underlying43 Try.underlying2 zero32 ⟨es, clk, hW, hr⟩ id
    rw [ha] at this
    exact this
  clear ha
  go_enter Try.func14, Try.ntmps14
  go_wp2_with ((go_at_call 24; refine (none_made _ _ m (by go_simp)).mono ?_; rintro e w' ⟨rfl, rfl⟩))
  refine bodyPost_ret (v := .tuple #[askV a, .int .i64 0]) (by simp [results, Try.results14, go_sem, askV]) rfl ⟨rfl, ?_⟩
  exact ((Below.refl _ _).alloc (Nat.le_refl _) _).alloc (by simp) _
set_option maxRecDepth 100000 in
set_option maxHeartbeats 400000 in
theorem get_none (w : World) (b m : Nat) (S : BookD) (id : Int) (h : BookAt w b m S) (ha : aGet id S.L = none) :
    Calls Try.prog 14 #[.pointer (some ⟨b, 0, none⟩), .int .i64 id] w fun e w' => e = .returned (.tuple #[askV ⟨0, 0, 0⟩, .int .i64 4]) ∧ Below w.heap.size w w' := by
  have c2 : w.cell? ⟨b, 2, none⟩ = some (.map (some m)) := cell_at h.cells 2
  have hb := h.lt
  obtain ⟨es, clk, hm, hr⟩ := h.map
  have hmlt := lt_of_obj hm
  have hl : ∀ W : World, obj W m = some (.map es clk) → (Instr.lookup 43 (.map (some m)) (.int .i64 id) true).run Try.prog W = .ok (.tuple #[.agg #[.int .i64 0, .int .i64 0, .int .i64 0], .bool false]) W := by
    intro W hW
    have := run_lookup_int (w := W) Try.underlying43 Try.underlying2 zero32 ⟨es, clk, hW, hr⟩ id
    rw [ha] at this
    exact this
  clear ha
  go_enter Try.func14, Try.ntmps14
  go_wp2_with ((go_at_call 24; refine (none_made _ _ m (by go_simp)).mono ?_; rintro e w' ⟨rfl, rfl⟩))
  refine bodyPost_ret (v := .tuple #[askV ⟨0, 0, 0⟩, .int .i64 4]) (by simp [results, Try.results14, go_sem, askV]) rfl ⟨rfl, ?_⟩
  exact ((Below.refl _ _).alloc (Nat.le_refl _) _).alloc (by simp) _

theorem ask_arg (w : World) (b m : Nat) (S : BookD) (node kind : Int) (h : BookAt w b m S) (ha : node < 0 ∨ 32 ≤ node ∨ replyOf kind = 0) :
    Calls Try.prog 10 #[.pointer (some ⟨b, 0, none⟩), .int .i64 node, .int .i64 kind] w fun e w' => e = .returned (.tuple #[.int .i64 0, .int .i64 1]) ∧ w = w' := by
  have c2 : w.cell? ⟨b, 2, none⟩ = some (.map (some m)) := cell_at h.cells 2
  by_cases h1 : node < 0
  · clear ha
    go_enter Try.func10, Try.ntmps10
    go_wp2_with ((go_at_call 24; refine (none_made _ _ m (by go_simp)).mono ?_; rintro e w' ⟨rfl, rfl⟩))
    go_ret2
    exact ⟨rfl, rfl⟩
  · by_cases h2 : 32 ≤ node
    · clear ha
      go_enter Try.func10, Try.ntmps10
      go_wp2_with ((go_at_call 24; refine (none_made _ _ m (by go_simp)).mono ?_; rintro e w' ⟨rfl, rfl⟩))
      go_ret2
      exact ⟨rfl, rfl⟩
    · have h3 : replyOf kind = 0 := by omega
      clear ha
      go_enter Try.func10, Try.ntmps10
      go_wp2_with (first
        | (go_at_call 24; refine (none_made _ _ m (by go_simp)).mono ?_; rintro e w' ⟨rfl, rfl⟩)
        | (go_at_call 25; refine (reply_any _ _).mono ?_; rintro e w' ⟨rfl, rfl⟩))
      go_ret2
      exact ⟨rfl, rfl⟩
theorem ask_full (w : World) (b m : Nat) (S : BookD) (node kind : Int) (h : BookAt w b m S) (h1 : 0 ≤ node) (h2 : node < 32) (h3 : (replyOf kind == 0) = false) (h4 : S.room ≤ S.L.length ∨ 2147483647 ≤ S.last) :
    Calls Try.prog 10 #[.pointer (some ⟨b, 0, none⟩), .int .i64 node, .int .i64 kind] w fun e w' => e = .returned (.tuple #[.int .i64 0, .int .i64 6]) ∧ Below w.heap.size w w' := by
  have c0 : w.cell? ⟨b, 0, none⟩ = some (.int .i64 S.room) := cell_at h.cells 0
  have c1 : w.cell? ⟨b, 1, none⟩ = some (.int .i64 S.last) := cell_at h.cells 1
  have c2 : w.cell? ⟨b, 2, none⟩ = some (.map (some m)) := cell_at h.cells 2
  obtain ⟨es, clk, hm, hr⟩ := h.map
  have hl : ∀ W : World, obj W m = some (.map es clk) → (Builtin.len_ #[43] 3 #[.map (some m)]).run Try.prog W = .ok (.int .i64 S.L.length) W := by
    intro W hW
    exact run_len_int Try.underlying43 3 ⟨es, clk, hW, hr⟩
  by_cases h5 : S.room ≤ S.L.length
  · clear h4
    go_enter Try.func10, Try.ntmps10
    go_wp2_with (first
        | (go_at_call 24; refine (none_made _ _ m (by go_simp)).mono ?_; rintro e w' ⟨rfl, rfl⟩)
        | (go_at_call 25; refine (reply_any _ _).mono ?_; rintro e w' ⟨rfl, rfl⟩))
    go_quiet (fail)
    go_wp2
    go_ret2
    exact ⟨rfl, rfl, rfl, rfl, Nat.le_refl _, fun _ _ => rfl⟩
  · have h6 : 2147483647 ≤ S.last := by omega
    clear h4
    go_enter Try.func10, Try.ntmps10
    go_wp2_with (first
        | (go_at_call 24; refine (none_made _ _ m (by go_simp)).mono ?_; rintro e w' ⟨rfl, rfl⟩)
        | (go_at_call 25; refine (reply_any _ _).mono ?_; rintro e w' ⟨rfl, rfl⟩))
    go_quiet (fail)
    go_wp2
    go_ret2
    exact ⟨rfl, rfl, rfl, rfl, Nat.le_refl _, fun _ _ => rfl⟩
set_option maxRecDepth 100000 in
set_option maxHeartbeats 400000 in
theorem ask_ok (w : World) (b m : Nat) (S : BookD) (node kind : Int) (h : BookAt w b m S) (h1 : 0 ≤ node) (h2 : node < 32) (h3 : (replyOf kind == 0) = false) (h4 : S.L.length < S.room) (h5 : S.last < 2147483647) (h6 : 0 ≤ S.last)
    (ha : 0 ≤ S.asked) (ha' : S.asked < 4611686018427387904) :
    Calls Try.prog 10 #[.pointer (some ⟨b, 0, none⟩), .int .i64 node, .int .i64 kind] w fun e w' => e = .returned (.tuple #[.int .i64 (S.last + 1), .int .i64 0]) ∧
      BookAt w' b m { S with last := S.last + 1, L := aPut (S.last + 1) ⟨S.last + 1, node, kind⟩ S.L, asked := S.asked + 1 } ∧ Keeps (fun k => k = b ∨ k = m) w w' := by
  have c0 : w.cell? ⟨b, 0, none⟩ = some (.int .i64 S.room) := cell_at h.cells 0
  have c1 : w.cell? ⟨b, 1, none⟩ = some (.int .i64 S.last) := cell_at h.cells 1
  have c2 : w.cell? ⟨b, 2, none⟩ = some (.map (some m)) := cell_at h.cells 2
  have c3 : w.cell? ⟨b, 3, none⟩ = some (.int .i64 S.asked) := cell_at h.cells 3
  have f : ∀ i, w.frozen? ⟨b, i, none⟩ = false := frozen_at h.cells
  obtain ⟨es, clk, hm, hr⟩ := h.map
  have hl : ∀ W : World, obj W m = some (.map es clk) → (Builtin.len_ #[43] 3 #[.map (some m)]).run Try.prog W = .ok (.int .i64 S.L.length) W := by
    intro W hW
    exact run_len_int Try.underlying43 3 ⟨es, clk, hW, hr⟩
  have hne := h.ne
  have hne' : m ≠ b := fun e => hne e.symm
  obtain ⟨es', clk', hu, hr'⟩ := run_mapUpdate_int (enc := askV) (clk := clk) Try.underlying43 Try.underlying2 hr m (S.last + 1) ⟨S.last + 1, node, kind⟩
  simp only [askV] at hu
  go_enter Try.func10, Try.ntmps10
  go_wp2_with (first
        | (go_at_call 24; refine (none_made _ _ m (by go_simp)).mono ?_; rintro e w' ⟨rfl, rfl⟩)
        | (go_at_call 25; refine (reply_any _ _).mono ?_; rintro e w' ⟨rfl, rfl⟩))
  go_quiet (fail)
  go_wp2
  refine wp_region_quiet_tail 15 (by kernel_rfl) (by kernel_rfl) ?_
  simp only [List.take_succ_cons, List.take_zero, List.drop_succ_cons, List.drop_zero]
  repeat (go_big_quiet_step (fail))
  refine wpQuiet_nil ?_
  go_wp2
  go_ret2
  refine ⟨rfl, ⟨?_, ?_⟩, ?_⟩
  · simp [obj_setCell, obj_putObj, obj_drew, obj_drewN, hne, h.cells, bookCells, setC]
  · exact ⟨es', clk', by simp [obj_setCell, obj_putObj, obj_drew, obj_drewN, hne', hm], hr'⟩
  · (repeat (first | with_reducible exact Keeps.refl _ _ | with_reducible refine Keeps.drew ?_ | with_reducible refine Keeps.drewN ?_ _ | with_reducible refine Keeps.setCell ?_ (by simp) _ | with_reducible refine Keeps.putObj ?_ (by simp) _ | with_reducible refine Keeps.alloc ?_ _))
end Go.Proofs.Ytnaknoebjbmboaa
