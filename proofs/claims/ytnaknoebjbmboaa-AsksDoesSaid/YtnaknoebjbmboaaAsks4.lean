import Derived.Test.YtnaknoebjbmboaaAsks3
namespace Go.Proofs.Ytnaknoebjbmboaa
open Go.RowKit

set_option maxRecDepth 100000 in
set_option maxHeartbeats 400000 in
theorem begun_any (w : World) : Calls Try.prog 9 #[] w fun e w' => e = .returned (.bool true) ∧ Below w.heap.size w w' := by
  go_enter Try.func9, Try.ntmps9
  go_wp2_with fail
  refine (new_ok w 2 0 (by omega) (by omega) (by omega) (by omega)).mono ?_
  rintro e w1 ⟨rfl, h1, k1⟩
  have z1 := h1.lt
  go_wp2_with fail
  have A2 : Calls Try.prog 10 #[.pointer (some ⟨w.heap.size + 1, 0, none⟩), .int .i64 3, .int .i64 7] w1 fun e w' => e = .returned (.tuple #[.int .i64 1, .int .i64 0]) ∧
      BookAt w' (w.heap.size + 1) w.heap.size ⟨2, 1, [(1, ⟨1, 3, 7⟩)], 1, 0, 0⟩ ∧ Keeps (fun k => k = w.heap.size + 1 ∨ k = w.heap.size) w1 w' :=
    ask_ok w1 (w.heap.size + 1) w.heap.size ⟨2, 0, [], 0, 0, 0⟩ 3 7 h1 (by decide) (by decide) (by decide) (by decide) (by decide) (by decide) (by decide) (by decide)
  refine A2.mono ?_
  rintro e w2 ⟨rfl, h2, k2⟩
  have b2 : Below w.heap.size w w2 := k1.trans (k2.below (by omega) (by omega))
  clear A2 h1 k1 k2
  go_wp2_with fail
  have A3 := answer_kind w2 (w.heap.size + 1) w.heap.size ⟨2, 1, [(1, ⟨1, 3, 7⟩)], 1, 0, 0⟩ 3 1 11 ⟨1, 3, 7⟩ h2 rfl (by decide) (by decide)
  refine A3.mono ?_
  rintro e w3 ⟨rfl, k3⟩
  have h3 := h2.below k3
  have b3 : Below w.heap.size w w3 := b2.trans (k3.mono (by have := b2.size; omega))
  clear A3
  unfold askV
  go_wp2_with fail
  have A4 : Calls Try.prog 13 #[.pointer (some ⟨w.heap.size + 1, 0, none⟩), .int .i64 3, .int .i64 1, .int .i64 8] (w3.alloc (.cells #[.int .i64 0, .int .i64 0, .int .i64 0] 32)) fun e w' => e = .returned (.tuple #[askV ⟨1, 3, 7⟩, .int .i64 0]) ∧
      BookAt w' (w.heap.size + 1) w.heap.size ⟨2, 1, [], 1, 1, 0⟩ ∧ Keeps (fun k => k = w.heap.size + 1 ∨ k = w.heap.size) (w3.alloc (.cells #[.int .i64 0, .int .i64 0, .int .i64 0] 32)) w' :=
    answer_ok _ (w.heap.size + 1) w.heap.size ⟨2, 1, [(1, ⟨1, 3, 7⟩)], 1, 0, 0⟩ 3 1 8 ⟨1, 3, 7⟩ (h3.alloc _) rfl rfl (by decide) (by decide) (by decide)
  refine A4.mono ?_
  rintro e w4 ⟨rfl, h4, k4⟩
  have b4 : Below w.heap.size w w4 := (b3.alloc (by have := b3.size; omega) _).trans (k4.below (by omega) (by have := b3.size; simp; omega))
  clear A4
  unfold askV
  go_wp2_with fail
  have A5 := answer_none _ (w.heap.size + 1) w.heap.size ⟨2, 1, [], 1, 1, 0⟩ 3 1 8 (h4.alloc (.cells #[.int .i64 1, .int .i64 3, .int .i64 7] 32)) rfl
  refine A5.mono ?_
  rintro e w5 ⟨rfl, k5⟩
  have b5 : Below w.heap.size w w5 := (b4.alloc (by have := b4.size; omega) _).trans (k5.mono (by have := b4.size; simp; omega))
  have ho : obj w5 w4.heap.size = some (.cells #[.int .i64 1, .int .i64 3, .int .i64 7] 32 (0, 0)) := (obj_below k5 (by simp)).trans (obj_alloc_at _ _ _ rfl)
  have r0 : w5.cell? ⟨w4.heap.size, 0, none⟩ = some (.int .i64 1) := cell_at ho 0
  have r1 : w5.cell? ⟨w4.heap.size, 1, none⟩ = some (.int .i64 3) := cell_at ho 1
  have r2 : w5.cell? ⟨w4.heap.size, 2, none⟩ = some (.int .i64 7) := cell_at ho 2
  have z5 : w4.heap.size < w5.heap.size := lt_of_obj ho
  clear A5
  unfold askV
  go_wp2_with fail
  go_ret
  exact ⟨rfl, b5.alloc (by have := b5.size; omega) _⟩

set_option maxHeartbeats 400000 in
theorem ref_reply_any (k : Int) (w : World) :
    Calls Try.prog 12 #[.int .i64 k] w fun e w' => e = .returned (.int .i64 (replyOf k)) ∧ w = w' := by
  go_enter Try.func12, Try.ntmps12
  go_wp2
  all_goals (go_ret; refine ⟨?_, rfl⟩; unfold replyOf; simp_all [wrap64])

set_option maxRecDepth 100000 in
set_option maxHeartbeats 400000 in
theorem other_arg (node kind fr id az : Int) (w : World) (ha : node < 0 ∨ 32 ≤ node ∨ replyOf kind = 0) :
    Calls Try.prog 3 #[.int .i64 node, .int .i64 kind, .int .i64 fr, .int .i64 id, .int .i64 az] w fun e w' => e = .returned (.bool true) ∧ Below w.heap.size w w' := by
  have HA := Lib.hid ha
  clear ha
  go_enter Try.func3, Try.ntmps3
  go_wp2_with fail
  refine (new_ok w 9 6 (by omega) (by omega) (by omega) (by omega)).mono ?_
  rintro e w1 ⟨rfl, h1, k1⟩
  go_wp2_with fail
  refine (begun_any w1).mono ?_
  rintro e w2 ⟨rfl, k2⟩
  have h2 := h1.below k2
  have b2 : Below w.heap.size w w2 := k1.trans (k2.mono (by have := k1.size; omega))
  go_wp2_with fail
  refine (ask_arg w2 _ _ _ node kind h2 HA.out).mono ?_
  rintro e w3 ⟨rfl, rfl⟩
  go_wp2_with ((go_at_call 11; refine (len_any _ _ _ _ h2).mono ?_; rintro e w' ⟨rfl, rfl⟩))
  go_ret
  exact ⟨rfl, b2⟩

/-- the book behind the one request that is asked -/
def oneAsk (node kind : Int) : BookD := ⟨9, 7, [(7, ⟨7, node, kind⟩)], 1, 0, 0⟩
theorem ask_one (w : World) (b m : Nat) (node kind : Int) (h : BookAt w b m ⟨9, 6, [], 0, 0, 0⟩) (h1 : 0 ≤ node) (h2 : node < 32) (h3 : replyOf kind ≠ 0) :
    Calls Try.prog 10 #[.pointer (some ⟨b, 0, none⟩), .int .i64 node, .int .i64 kind] w fun e w' => e = .returned (.tuple #[.int .i64 7, .int .i64 0]) ∧
      BookAt w' b m (oneAsk node kind) ∧ Keeps (fun k => k = b ∨ k = m) w w' :=
  ask_ok w b m ⟨9, 6, [], 0, 0, 0⟩ node kind h h1 h2 (by simpa using h3) (by decide) (by decide) (by decide) (by decide) (by decide)

set_option maxRecDepth 100000 in
set_option maxHeartbeats 400000 in
theorem other_same (node kind : Int) (w : World) (h1 : 0 ≤ node) (h2 : node < 32) (h3 : replyOf kind ≠ 0) :
    Calls Try.prog 3 #[.int .i64 node, .int .i64 kind, .int .i64 node, .int .i64 7, .int .i64 (replyOf kind)] w fun e w' => e = .returned (.bool true) ∧ Below w.heap.size w w' := by
  go_enter Try.func3, Try.ntmps3
  go_wp2_with fail
  refine (new_ok w 9 6 (by omega) (by omega) (by omega) (by omega)).mono ?_
  rintro e w1 ⟨rfl, g1, k1⟩
  go_wp2_with fail
  refine (begun_any w1).mono ?_
  rintro e w2 ⟨rfl, k2⟩
  have g2 := g1.below k2
  have b2 : Below w.heap.size w w2 := k1.trans (k2.mono (by have := k1.size; omega))
  go_wp2_with fail
  refine (ask_one w2 _ _ node kind g2 h1 h2 h3).mono ?_
  rintro e w3 ⟨rfl, g3, k3⟩
  have b3 : Below w.heap.size w w3 := b2.trans (k3.below (by omega) (by have := g2.lt; omega))
  go_wp2_with ((go_at_call 12; refine (ref_reply_any _ _).mono ?_; rintro e w' ⟨rfl, rfl⟩))
  have A4 : Calls Try.prog 13 #[.pointer (some ⟨w.heap.size + 1, 0, none⟩), .int .i64 node, .int .i64 7, .int .i64 (replyOf kind)] w3 fun e w' => e = .returned (.tuple #[askV ⟨7, node, kind⟩, .int .i64 0]) ∧
      BookAt w' (w.heap.size + 1) w.heap.size ⟨9, 7, [], 1, 1, 0⟩ ∧ Keeps (fun k => k = w.heap.size + 1 ∨ k = w.heap.size) w3 w' :=
    answer_ok w3 _ _ (oneAsk node kind) node 7 (replyOf kind) ⟨7, node, kind⟩ g3 rfl rfl rfl (by simp [oneAsk]) (by simp [oneAsk])
  refine A4.mono ?_
  rintro e w4 ⟨rfl, g4, k4⟩
  have b4 : Below w.heap.size w w4 := b3.trans (k4.below (by omega) (by have := g3.lt; omega))
  have z4 := g4.lt
  unfold askV
  clear A4
  go_wp2_with fail
  refine (len_any _ _ _ _ (g4.alloc _)).mono ?_
  rintro e w5 ⟨rfl, rfl⟩
  go_wp2_with fail
  go_ret
  exact ⟨rfl, b4.alloc (by have := b4.size; omega) _⟩

theorem answer_not (w : World) (b m : Nat) (node kind fr id az : Int) (h : BookAt w b m (oneAsk node kind)) (hne : fr ≠ node ∨ id ≠ 7 ∨ az ≠ replyOf kind) :
    Calls Try.prog 13 #[.pointer (some ⟨b, 0, none⟩), .int .i64 fr, .int .i64 id, .int .i64 az] w fun e w' => e = .returned (.tuple #[askV ⟨0, 0, 0⟩, .int .i64 4]) ∧ Below w.heap.size w w' := by
  by_cases h1 : id = 7
  · have hg : aGet id (oneAsk node kind).L = some ⟨7, node, kind⟩ := by subst h1; rfl
    by_cases h2 : node = fr
    · subst h2
      exact answer_kind w b m _ node id az ⟨7, node, kind⟩ h hg (by simp) (by simp; omega)
    · exact answer_node w b m _ fr id az ⟨7, node, kind⟩ h hg (by simpa using h2)
  · exact answer_none w b m _ fr id az h (by simp [oneAsk, aGet, h1])

set_option maxRecDepth 100000 in
set_option maxHeartbeats 1000000 in
theorem other_not1 (node kind fr id az : Int) (w : World) (h1 : 0 ≤ node) (h2 : node < 32) (h3 : replyOf kind ≠ 0) (hd : (fr == node) = false) :
    Calls Try.prog 3 #[.int .i64 node, .int .i64 kind, .int .i64 fr, .int .i64 id, .int .i64 az] w fun e w' => e = .returned (.bool true) ∧ Below w.heap.size w w' := by
  go_enter Try.func3, Try.ntmps3
  go_wp2_with fail
  refine (new_ok w 9 6 (by omega) (by omega) (by omega) (by omega)).mono ?_
  rintro e w1 ⟨rfl, g1, k1⟩
  go_wp2_with fail
  refine (begun_any w1).mono ?_
  rintro e w2 ⟨rfl, k2⟩
  have g2 := g1.below k2
  have b2 : Below w.heap.size w w2 := k1.trans (k2.mono (by have := k1.size; omega))
  go_wp2_with fail
  refine (ask_one w2 _ _ node kind g2 h1 h2 h3).mono ?_
  rintro e w3 ⟨rfl, g3, k3⟩
  have b3 : Below w.heap.size w w3 := b2.trans (k3.below (by omega) (by have := g2.lt; omega))
  go_wp2_with ((go_at_call 12; refine (ref_reply_any _ _).mono ?_; rintro e w' ⟨rfl, rfl⟩))
  refine (answer_not w3 _ _ node kind fr id az g3 (.inl (by simpa using hd))).mono ?_
  rintro e w4 ⟨rfl, k4⟩
  have g4 := g3.below k4
  have b4 : Below w.heap.size w w4 := b3.trans (k4.mono (by have := b3.size; omega))
  unfold askV
  go_wp2_with fail
  refine (get_found _ _ _ (oneAsk node kind) 7 ⟨7, node, kind⟩ (g4.alloc _) rfl).mono ?_
  rintro e w5 ⟨rfl, k5⟩
  have g5 := (g4.alloc _).below k5
  have b5 : Below w.heap.size w w5 := (b4.alloc (by have := b4.size; omega) _).trans (k5.mono (by have := b4.size; simp; omega))
  unfold askV
  go_wp2_with ((go_at_call 11; refine (len_any _ _ _ _ (g5.alloc _)).mono ?_; rintro e w' ⟨rfl, rfl⟩))
  refine (stat_any _ _ _ _ (g5.alloc _)).mono ?_
  rintro e w6 ⟨rfl, k6⟩
  have b6 : Below w.heap.size w w6 := (b5.alloc (by have := b5.size; omega) _).trans (k6.mono (by have := b5.size; simp; omega))
  unfold oneAsk
  go_wp2_with fail
  go_ret
  exact ⟨rfl, b6⟩
set_option maxRecDepth 100000 in
set_option maxHeartbeats 1000000 in
theorem other_not2 (node kind fr id az : Int) (w : World) (h1 : 0 ≤ node) (h2 : node < 32) (h3 : replyOf kind ≠ 0) (hd : (id == 7) = false) :
    Calls Try.prog 3 #[.int .i64 node, .int .i64 kind, .int .i64 node, .int .i64 id, .int .i64 az] w fun e w' => e = .returned (.bool true) ∧ Below w.heap.size w w' := by
  go_enter Try.func3, Try.ntmps3
  go_wp2_with fail
  refine (new_ok w 9 6 (by omega) (by omega) (by omega) (by omega)).mono ?_
  rintro e w1 ⟨rfl, g1, k1⟩
  go_wp2_with fail
  refine (begun_any w1).mono ?_
  rintro e w2 ⟨rfl, k2⟩
  have g2 := g1.below k2
  have b2 : Below w.heap.size w w2 := k1.trans (k2.mono (by have := k1.size; omega))
  go_wp2_with fail
  refine (ask_one w2 _ _ node kind g2 h1 h2 h3).mono ?_
  rintro e w3 ⟨rfl, g3, k3⟩
  have b3 : Below w.heap.size w w3 := b2.trans (k3.below (by omega) (by have := g2.lt; omega))
  go_wp2_with ((go_at_call 12; refine (ref_reply_any _ _).mono ?_; rintro e w' ⟨rfl, rfl⟩))
  refine (answer_not w3 _ _ node kind node id az g3 (.inr (.inl (by simpa using hd)))).mono ?_
  rintro e w4 ⟨rfl, k4⟩
  have g4 := g3.below k4
  have b4 : Below w.heap.size w w4 := b3.trans (k4.mono (by have := b3.size; omega))
  unfold askV
  go_wp2_with fail
  refine (get_found _ _ _ (oneAsk node kind) 7 ⟨7, node, kind⟩ (g4.alloc _) rfl).mono ?_
  rintro e w5 ⟨rfl, k5⟩
  have g5 := (g4.alloc _).below k5
  have b5 : Below w.heap.size w w5 := (b4.alloc (by have := b4.size; omega) _).trans (k5.mono (by have := b4.size; simp; omega))
  unfold askV
  go_wp2_with ((go_at_call 11; refine (len_any _ _ _ _ (g5.alloc _)).mono ?_; rintro e w' ⟨rfl, rfl⟩))
  refine (stat_any _ _ _ _ (g5.alloc _)).mono ?_
  rintro e w6 ⟨rfl, k6⟩
  have b6 : Below w.heap.size w w6 := (b5.alloc (by have := b5.size; omega) _).trans (k6.mono (by have := b5.size; simp; omega))
  unfold oneAsk
  go_wp2_with fail
  go_ret
  exact ⟨rfl, b6⟩
set_option maxRecDepth 100000 in
set_option maxHeartbeats 1000000 in
theorem other_not3 (node kind fr id az : Int) (w : World) (h1 : 0 ≤ node) (h2 : node < 32) (h3 : replyOf kind ≠ 0) (hd : (az == replyOf kind) = false) :
    Calls Try.prog 3 #[.int .i64 node, .int .i64 kind, .int .i64 node, .int .i64 7, .int .i64 az] w fun e w' => e = .returned (.bool true) ∧ Below w.heap.size w w' := by
  go_enter Try.func3, Try.ntmps3
  go_wp2_with fail
  refine (new_ok w 9 6 (by omega) (by omega) (by omega) (by omega)).mono ?_
  rintro e w1 ⟨rfl, g1, k1⟩
  go_wp2_with fail
  refine (begun_any w1).mono ?_
  rintro e w2 ⟨rfl, k2⟩
  have g2 := g1.below k2
  have b2 : Below w.heap.size w w2 := k1.trans (k2.mono (by have := k1.size; omega))
  go_wp2_with fail
  refine (ask_one w2 _ _ node kind g2 h1 h2 h3).mono ?_
  rintro e w3 ⟨rfl, g3, k3⟩
  have b3 : Below w.heap.size w w3 := b2.trans (k3.below (by omega) (by have := g2.lt; omega))
  go_wp2_with ((go_at_call 12; refine (ref_reply_any _ _).mono ?_; rintro e w' ⟨rfl, rfl⟩))
  refine (answer_not w3 _ _ node kind node 7 az g3 (.inr (.inr (by simpa using hd)))).mono ?_
  rintro e w4 ⟨rfl, k4⟩
  have g4 := g3.below k4
  have b4 : Below w.heap.size w w4 := b3.trans (k4.mono (by have := b3.size; omega))
  unfold askV
  go_wp2_with fail
  refine (get_found _ _ _ (oneAsk node kind) 7 ⟨7, node, kind⟩ (g4.alloc _) rfl).mono ?_
  rintro e w5 ⟨rfl, k5⟩
  have g5 := (g4.alloc _).below k5
  have b5 : Below w.heap.size w w5 := (b4.alloc (by have := b4.size; omega) _).trans (k5.mono (by have := b4.size; simp; omega))
  unfold askV
  go_wp2_with ((go_at_call 11; refine (len_any _ _ _ _ (g5.alloc _)).mono ?_; rintro e w' ⟨rfl, rfl⟩))
  refine (stat_any _ _ _ _ (g5.alloc _)).mono ?_
  rintro e w6 ⟨rfl, k6⟩
  have b6 : Below w.heap.size w w6 := (b5.alloc (by have := b5.size; omega) _).trans (k6.mono (by have := b5.size; simp; omega))
  unfold oneAsk
  go_wp2_with fail
  go_ret
  exact ⟨rfl, b6⟩

theorem other_any (node kind fr id az : Int) (w : World) :
    Calls Try.prog 3 #[.int .i64 node, .int .i64 kind, .int .i64 fr, .int .i64 id, .int .i64 az] w fun e w' => e = .returned (.bool true) ∧ Below w.heap.size w w' := by
  by_cases h : node < 0 ∨ 32 ≤ node ∨ replyOf kind = 0
  · exact other_arg node kind fr id az w h
  · have h1 : 0 ≤ node := by omega
    have h2 : node < 32 := by omega
    have h3 : replyOf kind ≠ 0 := by omega
    by_cases e1 : fr = node
    · subst e1
      by_cases e2 : id = 7
      · subst e2
        by_cases e3 : az = replyOf kind
        · subst e3
          exact other_same fr kind w h1 h2 h3
        · exact other_not3 fr kind 0 0 az w h1 h2 h3 (by simpa using e3)
      · exact other_not2 fr kind 0 id az w h1 h2 h3 (by simpa using e2)
    · exact other_not1 node kind fr id az w h1 h2 h3 (by simpa using e1)
end Go.Proofs.Ytnaknoebjbmboaa
