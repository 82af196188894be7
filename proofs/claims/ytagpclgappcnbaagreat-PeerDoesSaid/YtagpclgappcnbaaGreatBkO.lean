import Derived.Test.YtagpclgappcnbaaGreatBkX
import Derived.WalkMore
namespace Go.Proofs.YtagpclgappcnbaaGreat
open Go.RowKit

/-! ### Check -/
@[reducible] def cfgC (c : CfgD) : Array Value := #[.int .i64 c.room, .int .i64 c.r.first, .int .i64 c.r.min, .int .i64 c.r.max, .int .i64 c.r.half, .int .i64 c.r.quart, .int .i64 c.q.f, .int .i64 c.q.lo, .int .i64 c.q.fo, .int .i64 c.q.nu, .int .i64 c.q.de]
open Classical in
noncomputable def mchk (r : Me.RuleD) : Int := if Me.RuleOk r then 0 else 130
theorem mcheck_any (r : Me.RuleD) (w : World) : Calls Tryz.prog 30 #[Me.ruleV r] w fun e w' => e = .returned (.int .i64 (mchk r)) ∧ Below w.heap.size w w' := by
  unfold mchk
  by_cases h : Me.RuleOk r
  · rw [if_pos h]; exact Me.check_ok r w h
  · rw [if_neg h]; exact Me.check_bad r w h
noncomputable def pchkE (c : CfgD) : Int := if c.room < 1 ∨ 1024 < c.room then 1 else if mchk c.r ≠ 0 then mchk c.r else Be.ruleE c.q
set_option maxRecDepth 100000 in
set_option maxHeartbeats 2000000 in
theorem pcheck_any (w : World) (c : CfgD) : Calls Tryz.prog 9 #[.agg (cfgC c)] w fun e w' => e = .returned (.int .i64 (pchkE c)) ∧ Below w.heap.size w w' := by
  have b1 : Below w.heap.size w (w.alloc (.cells (cfgC c) 27)) := (Below.refl _ w).alloc (Nat.le_refl _) _
  have OB := Lib.hid (show obj (w.alloc (.cells (cfgC c) 27)) w.heap.size = some (.cells (cfgC c) 27 (0, 0)) from obj_alloc_at _ _ _ rfl)
  have HM := Lib.hid (fun W => mcheck_any c.r W)
  have HB := Lib.hid (fun W => Be.rule_any c.q W)
  have HP : Hid (pchkE c = if c.room < 1 ∨ 1024 < c.room then 1 else if mchk c.r ≠ 0 then mchk c.r else Be.ruleE c.q) := Lib.hid rfl
  have B1 := Lib.hid b1
  generalize pchkE c = P at *
  generalize mchk c.r = m at *
  generalize Be.ruleE c.q = u at *
  unfold Me.ruleV at HM
  unfold Be.ruV at HB
  obtain ⟨room, ⟨r1, r2, r3, r4, r5⟩, ⟨q1, q2, q3, q4, q5⟩⟩ := c
  simp only [cfgC] at *
  have x0 := cell_at OB.out 0
  have x1 := cell_at OB.out 1
  have x2 := cell_at OB.out 2
  have x3 := cell_at OB.out 3
  have x4 := cell_at OB.out 4
  have x5 := cell_at OB.out 5
  simp at x0 x1 x2 x3 x4 x5
  clear b1
  go_enter Tryz.func9, Tryz.ntmps9
  by_cases h1 : room < 1
  · obtain rfl : P = 1 := by rw [HP.out, if_pos (.inl h1)]
    go_wp2_with fail
    go_ret
    exact ⟨rfl, B1.out⟩
  by_cases h2 : 1024 < room
  · obtain rfl : P = 1 := by rw [HP.out, if_pos (.inr h2)]
    go_wp2_with fail
    go_ret
    exact ⟨rfl, B1.out⟩
  go_wp2_with fail
  clear x0 x1 x2 x3 x4 x5
  generalize w.alloc (.cells #[.int .i64 room, .int .i64 r1, .int .i64 r2, .int .i64 r3, .int .i64 r4, .int .i64 r5, .int .i64 q1, .int .i64 q2, .int .i64 q3, .int .i64 q4, .int .i64 q5] 27) = w1 at *
  refine (HM.out w1).mono ?_
  rintro e w2 ⟨rfl, b2⟩
  have B2 : Hid (Below w.heap.size w w2) := Lib.hid (B1.out.trans (b2.mono B1.out.size))
  have O2 := (obj_below b2 (lt_of_obj OB.out)).trans OB.out
  have hb2 := lt_of_obj O2
  have x6 := cell_at O2 6
  have x7 := cell_at O2 7
  have x8 := cell_at O2 8
  have x9 := cell_at O2 9
  have x10 := cell_at O2 10
  simp at x6 x7 x8 x9 x10
  clear O2 b2
  by_cases hm : m = 0
  · obtain rfl : P = u := by rw [HP.out, if_neg (by omega), if_neg (by simpa using hm)]
    subst hm
    go_wp2_with fail
    refine (HB.out w2).mono ?_
    rintro e w3 ⟨rfl, b3⟩
    go_wp2_with fail
    go_ret
    exact ⟨rfl, B2.out.trans (b3.mono B2.out.size)⟩
  · obtain rfl : P = m := by rw [HP.out, if_neg (by omega), if_pos hm]
    go_wp2_with fail
    go_ret
    exact ⟨rfl, B2.out⟩
end Go.Proofs.YtagpclgappcnbaaGreat
namespace Go.Proofs.YtagpclgappcnbaaGreat
open Go.RowKit

/-! ### a book that no call made -/
def zeroBk : Array Value := #[.pointer none, .int .i64 0, .int .i64 0, .int .i64 0, .int .i64 0, .int .i64 0, .int .i64 0, .int .i64 0, .int .i64 0, .int .i64 0, .int .i64 0, .int .i64 0, .slice none 0 0, .int .i64 0, .int .i64 0, .int .i64 0, .slice none 0 0, .map none]
def NoneB (w : World) (q : Value) : Prop := q = .pointer none ∨ ∃ b, q = .pointer (some ⟨b, 0, none⟩) ∧ obj w b = some (.cells zeroBk 86 (0, 0))
theorem NoneB.below {w W : World} {q : Value} (h : NoneB w q) (hb : Below w.heap.size w W) : NoneB W q := by
  rcases h with h | ⟨b, h, h1⟩
  · exact .inl h
  · exact .inr ⟨b, h, (obj_below hb (lt_of_obj h1)).trans h1⟩
theorem NoneB.ptr {w : World} {q : Value} (h : NoneB w q) : ∃ a, q = .pointer a := by
  rcases h with h | ⟨b, h, _⟩
  · exact ⟨_, h⟩
  · exact ⟨_, h⟩
theorem none_none (w : World) (q : Value) (h : NoneB w q) : Calls Tryz.prog 50 #[q] w fun e w' => e = .returned (.bool true) ∧ w' = w := by
  rcases h with rfl | ⟨b, rfl, h1⟩
  · go_enter Tryz.func50, Tryz.ntmps50
    go_wp2_with fail
    go_ret
    exact ⟨rfl, rfl⟩
  · have c0 : w.cell? ⟨b, 0, none⟩ = some (.pointer none) := cell_at h1 0
    clear h1
    go_enter Tryz.func50, Tryz.ntmps50
    go_wp2_with fail
    go_ret
    exact ⟨rfl, rfl⟩
theorem comes_none (w : World) (q : Value) (now : Int) (h : NoneB w q) : Calls Tryz.prog 53 #[q, .int .i64 now] w fun e w' => e = .returned (.int .i64 2) ∧ w' = w := by
  have H := Lib.hid (none_none w q h)
  obtain ⟨a, rfl⟩ := h.ptr
  clear h
  go_enter Tryz.func53, Tryz.ntmps53
  go_wp2_with fail
  refine H.out.mono ?_
  rintro e w2 ⟨rfl, rfl⟩
  go_wp2_with fail
  go_ret
  exact ⟨rfl, rfl⟩
set_option maxRecDepth 100000 in
theorem ask_none (w : World) (q : Value) (v kind now : Int) (h : NoneB w q) : Calls Tryz.prog 14 #[q, .int .i64 v, .int .i64 kind, .int .i64 now] w fun e w' => e = .returned (.tuple #[.int .i64 0, .bool false, .int .i64 2]) ∧ w' = w := by
  have H := Lib.hid (comes_none w q now h)
  obtain ⟨a, rfl⟩ := h.ptr
  clear h
  go_enter Tryz.func14, Tryz.ntmps14
  go_wp2_with fail
  refine H.out.mono ?_
  rintro e w2 ⟨rfl, rfl⟩
  go_wp2_with fail
  refine bodyPost_ret (v := .tuple #[.int .i64 0, .bool false, .int .i64 2]) (by simp [results, Tryz.results14, go_sem]) rfl ⟨rfl, rfl⟩
theorem due_none (w : World) (q : Value) (id : Int) (h : NoneB w q) : Calls Tryz.prog 40 #[q, .int .i64 id] w fun e w' => e = .returned (.tuple #[.int .i64 0, .int .i64 2]) ∧ w' = w := by
  have H := Lib.hid (none_none w q h)
  obtain ⟨a, rfl⟩ := h.ptr
  clear h
  go_enter Tryz.func40, Tryz.ntmps40
  go_wp2_with fail
  refine H.out.mono ?_
  rintro e w2 ⟨rfl, rfl⟩
  go_wp2_with fail
  go_ret2
  exact ⟨rfl, rfl⟩
theorem next_none (w : World) (q : Value) (h : NoneB w q) : Calls Tryz.prog 42 #[q] w fun e w' => e = .returned (.tuple #[.int .i64 0, .int .i64 2]) ∧ w' = w := by
  have H := Lib.hid (none_none w q h)
  obtain ⟨a, rfl⟩ := h.ptr
  clear h
  go_enter Tryz.func42, Tryz.ntmps42
  go_wp2_with fail
  refine H.out.mono ?_
  rintro e w2 ⟨rfl, rfl⟩
  go_wp2_with fail
  go_ret2
  exact ⟨rfl, rfl⟩
theorem timeout_none (w : World) (q : Value) (h : NoneB w q) : Calls Tryz.prog 19 #[q] w fun e w' => e = .returned (.int .i64 0) ∧ w' = w := by
  have H := Lib.hid (none_none w q h)
  obtain ⟨a, rfl⟩ := h.ptr
  clear h
  go_enter Tryz.func19, Tryz.ntmps19
  go_wp2_with fail
  refine H.out.mono ?_
  rintro e w2 ⟨rfl, rfl⟩
  go_wp2_with fail
  go_ret
  exact ⟨rfl, rfl⟩
theorem now_none (w : World) (q : Value) (h : NoneB w q) : Calls Tryz.prog 44 #[q] w fun e w' => e = .returned (.int .i64 0) ∧ w' = w := by
  have H := Lib.hid (none_none w q h)
  obtain ⟨a, rfl⟩ := h.ptr
  clear h
  go_enter Tryz.func44, Tryz.ntmps44
  go_wp2_with fail
  refine H.out.mono ?_
  rintro e w2 ⟨rfl, rfl⟩
  go_wp2_with fail
  go_ret
  exact ⟨rfl, rfl⟩
theorem len_none (w : World) (q : Value) (h : NoneB w q) : Calls Tryz.prog 45 #[q] w fun e w' => e = .returned (.int .i64 0) ∧ w' = w := by
  have H := Lib.hid (none_none w q h)
  obtain ⟨a, rfl⟩ := h.ptr
  clear h
  go_enter Tryz.func45, Tryz.ntmps45
  go_wp2_with fail
  refine H.out.mono ?_
  rintro e w2 ⟨rfl, rfl⟩
  go_wp2_with fail
  go_ret
  exact ⟨rfl, rfl⟩
end Go.Proofs.YtagpclgappcnbaaGreat
namespace Go.Proofs.YtagpclgappcnbaaGreat
open Go.RowKit

set_option maxRecDepth 100000 in
theorem tick_none (w : World) (q : Value) (now : Int) (h : NoneB w q) : Calls Tryz.prog 15 #[q, .int .i64 now] w fun e w' => e = .returned (.tuple #[.slice none 0 0, .int .i64 2]) ∧ w' = w := by
  have H := Lib.hid (comes_none w q now h)
  obtain ⟨a, rfl⟩ := h.ptr
  clear h
  go_enter Tryz.func15, Tryz.ntmps15
  go_wp2_with fail
  apply wp_scope_straight
  go_wp2_with fail
  refine H.out.mono ?_
  rintro e w2 ⟨rfl, rfl⟩
  go_wp2_with fail
  simp only [Exit.noGoto]
  go_ret2
  exact ⟨rfl, rfl⟩
set_option maxRecDepth 100000 in
set_option maxHeartbeats 1000000 in
theorem get_none (w : World) (q : Value) (id : Int) (h : NoneB w q) : Calls Tryz.prog 38 #[q, .int .i64 id] w fun e w' => e = .returned (.tuple #[.agg #[.int .i64 0, .int .i64 0, .int .i64 0], .int .i64 2]) ∧ Below w.heap.size w w' := by
  have b1 : Below w.heap.size w (w.alloc (.cells #[.int .i64 0, .int .i64 0, .int .i64 0] 66)) := (Below.refl _ w).alloc (Nat.le_refl _) _
  have OR := Lib.hid (show obj (w.alloc (.cells #[.int .i64 0, .int .i64 0, .int .i64 0] 66)) w.heap.size = some (.cells #[.int .i64 0, .int .i64 0, .int .i64 0] 66 (0, 0)) from obj_alloc_at _ _ _ rfl)
  have H := Lib.hid (none_none _ q (h.below b1))
  have B1 := Lib.hid b1
  obtain ⟨a, rfl⟩ := h.ptr
  clear h b1
  go_enter Tryz.func38, Tryz.ntmps38
  go_wp2_with fail
  generalize w.alloc (.cells #[.int .i64 0, .int .i64 0, .int .i64 0] 66) = w1 at *
  refine H.out.mono ?_
  rintro e w2 ⟨rfl, rfl⟩
  have x0 := cell_at OR.out 0
  have x1 := cell_at OR.out 1
  have x2 := cell_at OR.out 2
  simp at x0 x1 x2
  have yf := frozen_at OR.out
  have O4 := obj_setCell_at (.int .i64 0) (i := 2) (obj_setCell_at (.int .i64 0) (i := 1) (obj_setCell_at (.int .i64 0) (i := 0) OR.out))
  have y0 := cell_at O4 0
  have y1 := cell_at O4 1
  have y2 := cell_at O4 2
  simp at y0 y1 y2
  have BE : Hid (Below w.heap.size w (((w2.setCell ⟨w.heap.size, 0, none⟩ (.int .i64 0)).setCell ⟨w.heap.size, 1, none⟩ (.int .i64 0)).setCell ⟨w.heap.size, 2, none⟩ (.int .i64 0))) := Lib.hid (((B1.out.setCell (Nat.le_refl _) _).setCell (Nat.le_refl _) _).setCell (Nat.le_refl _) _)
  clear O4
  go_wp2_with fail
  refine bodyPost_ret (v := (.tuple #[.agg #[.int .i64 0, .int .i64 0, .int .i64 0], .int .i64 2])) (by simp [results, Tryz.results38, go_sem, y0, y1, y2]) rfl ⟨rfl, BE.out⟩
set_option maxRecDepth 100000 in
set_option maxHeartbeats 1000000 in
theorem stat_none (w : World) (q : Value)  (h : NoneB w q) : Calls Tryz.prog 46 #[q] w fun e w' => e = .returned (.agg #[.int .i64 0, .int .i64 0, .int .i64 0]) ∧ Below w.heap.size w w' := by
  have b1 : Below w.heap.size w (w.alloc (.cells #[.int .i64 0, .int .i64 0, .int .i64 0] 101)) := (Below.refl _ w).alloc (Nat.le_refl _) _
  have OR := Lib.hid (show obj (w.alloc (.cells #[.int .i64 0, .int .i64 0, .int .i64 0] 101)) w.heap.size = some (.cells #[.int .i64 0, .int .i64 0, .int .i64 0] 101 (0, 0)) from obj_alloc_at _ _ _ rfl)
  have H := Lib.hid (none_none _ q (h.below b1))
  have B1 := Lib.hid b1
  obtain ⟨a, rfl⟩ := h.ptr
  clear h b1
  go_enter Tryz.func46, Tryz.ntmps46
  go_wp2_with fail
  generalize w.alloc (.cells #[.int .i64 0, .int .i64 0, .int .i64 0] 101) = w1 at *
  refine H.out.mono ?_
  rintro e w2 ⟨rfl, rfl⟩
  have x0 := cell_at OR.out 0
  have x1 := cell_at OR.out 1
  have x2 := cell_at OR.out 2
  simp at x0 x1 x2
  have yf := frozen_at OR.out
  have O4 := obj_setCell_at (.int .i64 0) (i := 2) (obj_setCell_at (.int .i64 0) (i := 1) (obj_setCell_at (.int .i64 0) (i := 0) OR.out))
  have y0 := cell_at O4 0
  have y1 := cell_at O4 1
  have y2 := cell_at O4 2
  simp at y0 y1 y2
  have BE : Hid (Below w.heap.size w (((w2.setCell ⟨w.heap.size, 0, none⟩ (.int .i64 0)).setCell ⟨w.heap.size, 1, none⟩ (.int .i64 0)).setCell ⟨w.heap.size, 2, none⟩ (.int .i64 0))) := Lib.hid (((B1.out.setCell (Nat.le_refl _) _).setCell (Nat.le_refl _) _).setCell (Nat.le_refl _) _)
  clear O4
  go_wp2_with fail
  refine bodyPost_ret (v := (.agg #[.int .i64 0, .int .i64 0, .int .i64 0])) (by simp [results, Tryz.results46, go_sem, y0, y1, y2]) rfl ⟨rfl, BE.out⟩
set_option maxRecDepth 100000 in
set_option maxHeartbeats 1000000 in
theorem got_none (w : World) (q : Value) (v id kind now : Int) (h : NoneB w q) : Calls Tryz.prog 18 #[q, .int .i64 v, .int .i64 id, .int .i64 kind, .int .i64 now] w fun e w' => e = .returned (.tuple #[.agg #[.int .i64 0, .int .i64 0, .int .i64 0], .int .i64 2]) ∧ Below w.heap.size w w' := by
  have b1 : Below w.heap.size w (w.alloc (.cells #[.int .i64 0, .int .i64 0, .int .i64 0] 66)) := (Below.refl _ w).alloc (Nat.le_refl _) _
  have OR := Lib.hid (show obj (w.alloc (.cells #[.int .i64 0, .int .i64 0, .int .i64 0] 66)) w.heap.size = some (.cells #[.int .i64 0, .int .i64 0, .int .i64 0] 66 (0, 0)) from obj_alloc_at _ _ _ rfl)
  have H := Lib.hid (comes_none _ q now (h.below b1))
  have B1 := Lib.hid b1
  obtain ⟨a, rfl⟩ := h.ptr
  clear h b1
  go_enter Tryz.func18, Tryz.ntmps18
  go_wp2_with fail
  generalize w.alloc (.cells #[.int .i64 0, .int .i64 0, .int .i64 0] 66) = w1 at *
  refine H.out.mono ?_
  rintro e w2 ⟨rfl, rfl⟩
  have x0 := cell_at OR.out 0
  have x1 := cell_at OR.out 1
  have x2 := cell_at OR.out 2
  simp at x0 x1 x2
  have yf := frozen_at OR.out
  have O4 := obj_setCell_at (.int .i64 0) (i := 2) (obj_setCell_at (.int .i64 0) (i := 1) (obj_setCell_at (.int .i64 0) (i := 0) OR.out))
  have y0 := cell_at O4 0
  have y1 := cell_at O4 1
  have y2 := cell_at O4 2
  simp at y0 y1 y2
  have BE : Hid (Below w.heap.size w (((w2.setCell ⟨w.heap.size, 0, none⟩ (.int .i64 0)).setCell ⟨w.heap.size, 1, none⟩ (.int .i64 0)).setCell ⟨w.heap.size, 2, none⟩ (.int .i64 0))) := Lib.hid (((B1.out.setCell (Nat.le_refl _) _).setCell (Nat.le_refl _) _).setCell (Nat.le_refl _) _)
  clear O4
  go_wp2_with fail
  refine bodyPost_ret (v := (.tuple #[.agg #[.int .i64 0, .int .i64 0, .int .i64 0], .int .i64 2])) (by simp [results, Tryz.results18, go_sem, y0, y1, y2]) rfl ⟨rfl, BE.out⟩
set_option maxRecDepth 100000 in
theorem clone_none (w : World) (q : Value) (h : NoneB w q) : Calls Tryz.prog 13 #[q] w fun e w' => e = .returned (.pointer none) ∧ w' = w := by
  have H := Lib.hid (none_none w q h)
  obtain ⟨a, rfl⟩ := h.ptr
  clear h
  go_enter Tryz.func13, Tryz.ntmps13
  go_wp2_with fail
  refine H.out.mono ?_
  rintro e w2 ⟨rfl, rfl⟩
  go_wp2_with fail
  go_ret
  exact ⟨rfl, rfl⟩
end Go.Proofs.YtagpclgappcnbaaGreat
namespace Go.Proofs.YtagpclgappcnbaaGreat
open Go.RowKit

def thr : List Be.Vd := [⟨⟨#[97]⟩, 1⟩, ⟨⟨#[98]⟩, 1⟩, ⟨⟨#[99]⟩, 1⟩]
def som : CfgD := ⟨9, ⟨8, 1, 100, 3, 8⟩, ⟨2, 0, 10, 1, 2⟩⟩
set_option maxRecDepth 100000 in
theorem three_any (w : World) : Calls Tryz.prog 17 #[] w fun e w' => ∃ v, e = .returned v ∧ SlIn w' v 2 Be.vdL thr ∧ Below w.heap.size w w' := by
  have hb : (Instr.buildSlice 28 3 #[(0, .agg #[.string ⟨#[97]⟩, .int .i64 1]), (1, .agg #[.string ⟨#[98]⟩, .int .i64 1]), (2, .agg #[.string ⟨#[99]⟩, .int .i64 1])]).run Tryz.prog w = .ok (.slice (some ⟨w.heap.size, 0, none⟩) 3 3) (w.alloc (.cells #[.string ⟨#[97]⟩, .int .i64 1, .string ⟨#[98]⟩, .int .i64 1, .string ⟨#[99]⟩, .int .i64 1] 38)) := by kernel_rfl
  go_enter Tryz.func17, Tryz.ntmps17
  go_wp2
  go_ret
  refine ⟨_, rfl, ?_, (Below.refl _ _).alloc (Nat.le_refl _) _⟩
  exact SlIn.of_cells (E := 38) (fr := (0, 0)) Be.vdL_length thr (by exact obj_alloc_at _ _ _ rfl) (by simp [thr, maxLen])
set_option maxRecDepth 100000 in
theorem some_any (w : World) : Calls Tryz.prog 16 #[] w fun e w' => e = .returned (.agg (cfgC som)) ∧ Below w.heap.size w w' := by
  have h1 : ∀ w, (Instr.build 23 #[(0, .int .i64 8), (1, .int .i64 1), (2, .int .i64 100), (3, .int .i64 3), (4, .int .i64 8)]).run Tryz.prog w = .ok (.agg #[.int .i64 8, .int .i64 1, .int .i64 100, .int .i64 3, .int .i64 8]) w := fun _ => by kernel_rfl
  have h2 : ∀ w, (Instr.build 25 #[(0, .int .i64 2), (2, .int .i64 10), (3, .int .i64 1), (4, .int .i64 2)]).run Tryz.prog w = .ok (.agg #[.int .i64 2, .int .i64 0, .int .i64 10, .int .i64 1, .int .i64 2]) w := fun _ => by kernel_rfl
  have h3 : ∀ w, (Instr.build 27 #[(0, .int .i64 9), (1, .agg #[.int .i64 8, .int .i64 1, .int .i64 100, .int .i64 3, .int .i64 8]), (2, .agg #[.int .i64 2, .int .i64 0, .int .i64 10, .int .i64 1, .int .i64 2])]).run Tryz.prog w = .ok (.agg (cfgC som)) w := fun _ => by kernel_rfl
  go_enter Tryz.func16, Tryz.ntmps16
  go_wp2_with fail
  refine bodyPost_ret (v := .agg (cfgC som)) (by simp [results, Tryz.results16, go_sem, som, cfgC]) rfl ⟨rfl, (Below.refl _ _).alloc (Nat.le_refl _) _⟩
end Go.Proofs.YtagpclgappcnbaaGreat
namespace Go.Proofs.YtagpclgappcnbaaGreat
open Go.RowKit

structure FewR (w : World) (l : List Be.Vd) (e : Ending) (w' : World) : Prop where
  r : ∃ b, e = .returned (.bool b) ∧ (b = true → l.length ≤ 100 ∧ ∀ x ∈ l, x.name.size ≤ 200)
  hb : Below w.heap.size w w'
set_option maxRecDepth 100000 in
set_option maxHeartbeats 2000000 in
theorem few_any (w : World) (v : Value) (l : List Be.Vd) (h : SlIn w v 2 Be.vdL l) : Calls Tryz.prog 5 #[v] w (FewR w l) := by
  obtain ⟨oa, cap, rfl, g1, g2, g3⟩ := h
  have H3 := Lib.hid g3
  unfold maxLen at g2
  clear g3
  go_enter Tryz.func5, Tryz.ntmps5
  by_cases h1 : (100 : Int) < l.length
  · go_wp2_with fail
    go_ret
    exact ⟨⟨_, rfl, fun h => by cases h⟩, Below.refl _ _⟩
  go_wp2_with fail
  go_loopw [4, 10] (fun _ v10 wr => ∃ k : Nat, k ≤ l.length ∧ v10 = .int .i64 k ∧ Hid (Below w.heap.size w wr) ∧ Hid (∀ x ∈ l.take k, x.name.size ≤ 200)) (fun _ i _ => l.length - (intOf i).toNat)
  case atStart => exact ⟨0, Nat.zero_le _, rfl, Lib.hid (Below.refl _ _), Lib.hid (by simp)⟩
  case round =>
    obtain ⟨k, hk, rfl, HB, HS⟩ := hrel
    have hz := HB.out.size
    by_cases hlt : k < l.length
    · obtain ⟨b, off, rfl, hbb, hr⟩ := H3.out (by omega)
      have hs := hr k hlt
      rw [← obj_below HB.out hbb] at hs
      have hbr : b < wr.heap.size := by omega
      have NX : Hid (l[k].name.size ≤ 200 → ∀ x ∈ l.take (k + 1), x.name.size ≤ 200) := Lib.hid (fun h x hx => by
        rw [List.take_succ_eq_append_getElem hlt] at hx
        rcases List.mem_append.1 hx with hx | hx
        · exact HS.out x hx
        · simp at hx; subst hx; exact h)
      clear hr
      generalize l[k] = x at *
      obtain ⟨xn, xw⟩ := x
      simp only at NX
      have c0 : wr.cell? ⟨b, off + k * 2, none⟩ = some (.string xn) := by have := subOf_cell hs (j := 0) (by decide); simpa [Be.vdL] using this
      have c1 : wr.cell? ⟨b, off + k * 2 + 1, none⟩ = some (.int .i64 xw) := by have := subOf_cell hs (j := 1) (by decide); simpa [Be.vdL] using this
      have HBA : Hid (Below w.heap.size w (wr.alloc (.cells #[.string xn, .int .i64 xw] 38))) := Lib.hid (HB.out.alloc hz _)
      have hki : (k : Int) < l.length := by omega
      by_cases hn : xn.size ≤ 200
      · have hn1 : ¬ (200 : Int) < xn.size := by omega
        have HN := Lib.hid (NX.out hn)
        go_wp2_with fail
        go_roundw
        case rel => exact ⟨k + 1, by omega, by go_num, HBA, HN⟩
        case measure => simp [intOf]; omega
      · have hn1 : (200 : Int) < xn.size := by omega
        go_wp2_with fail
        go_ret
        exact ⟨⟨_, rfl, fun h => by cases h⟩, HBA.out⟩
    · have hk' : k = l.length := by omega
      subst hk'
      have HF : Hid (∀ x ∈ l, x.name.size ≤ 200) := Lib.hid (by have := HS.out; rwa [List.take_length] at this)
      go_wp2_with fail
      go_ret
      exact ⟨⟨_, rfl, fun _ => ⟨by omega, HF.out⟩⟩, HB.out⟩
end Go.Proofs.YtagpclgappcnbaaGreat
