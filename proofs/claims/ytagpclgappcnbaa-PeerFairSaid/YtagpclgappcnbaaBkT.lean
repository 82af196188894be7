import Derived.Test.YtagpclgappcnbaaBkN
import Derived.WalkMore
namespace Go.Proofs.Ytagpclgappcnbaa
open Go.RowKit

set_option maxRecDepth 100000 in
theorem tick_none (w : World) (q : Value) (now : Int) (h : NoneB w q) : Calls Try.prog 15 #[q, .int .i64 now] w fun e w' => e = .returned (.tuple #[.slice none 0 0, .int .i64 2]) ∧ w' = w := by
  have H := Lib.hid (comes_none w q now h)
  obtain ⟨a, rfl⟩ := h.ptr
  clear h
  go_enter Try.func15, Try.ntmps15
  go_wp2_with fail
  apply wp_scope_straight
  go_wp2_with fail
  refine H.out.mono ?_
  rintro e w2 ⟨rfl, rfl⟩
  go_wp2_with fail
  simp only [Exit.noGoto]
  go_ret2
  exact ⟨rfl, rfl⟩
set_option maxRecDepth 100000 in
set_option maxHeartbeats 1000000 in
theorem get_none (w : World) (q : Value) (id : Int) (h : NoneB w q) : Calls Try.prog 23 #[q, .int .i64 id] w fun e w' => e = .returned (.tuple #[.agg #[.int .i64 0, .int .i64 0, .int .i64 0], .int .i64 2]) ∧ Below w.heap.size w w' := by
  have b1 : Below w.heap.size w (w.alloc (.cells #[.int .i64 0, .int .i64 0, .int .i64 0] 47)) := (Below.refl _ w).alloc (Nat.le_refl _) _
  have OR := Lib.hid (show obj (w.alloc (.cells #[.int .i64 0, .int .i64 0, .int .i64 0] 47)) w.heap.size = some (.cells #[.int .i64 0, .int .i64 0, .int .i64 0] 47 (0, 0)) from obj_alloc_at _ _ _ rfl)
  have H := Lib.hid (none_none _ q (h.below b1))
  have B1 := Lib.hid b1
  obtain ⟨a, rfl⟩ := h.ptr
  clear h b1
  go_enter Try.func23, Try.ntmps23
  go_wp2_with fail
  generalize w.alloc (.cells #[.int .i64 0, .int .i64 0, .int .i64 0] 47) = w1 at *
  refine H.out.mono ?_
  rintro e w2 ⟨rfl, rfl⟩
  have x0 := cell_at OR.out 0
  have x1 := cell_at OR.out 1
  have x2 := cell_at OR.out 2
  simp at x0 x1 x2
  have yf := frozen_at OR.out
  have O4 := obj_setCell_at (.int .i64 0) (i := 2) (obj_setCell_at (.int .i64 0) (i := 1) (obj_setCell_at (.int .i64 0) (i := 0) OR.out))
  have y0 := cell_at O4 0
  have y1 := cell_at O4 1
  have y2 := cell_at O4 2
  simp at y0 y1 y2
  have BE : Hid (Below w.heap.size w (((w2.setCell ⟨w.heap.size, 0, none⟩ (.int .i64 0)).setCell ⟨w.heap.size, 1, none⟩ (.int .i64 0)).setCell ⟨w.heap.size, 2, none⟩ (.int .i64 0))) := Lib.hid (((B1.out.setCell (Nat.le_refl _) _).setCell (Nat.le_refl _) _).setCell (Nat.le_refl _) _)
  clear O4
  go_wp2_with fail
  refine bodyPost_ret (v := (.tuple #[.agg #[.int .i64 0, .int .i64 0, .int .i64 0], .int .i64 2])) (by simp [results, Try.results23, go_sem, y0, y1, y2]) rfl ⟨rfl, BE.out⟩
set_option maxRecDepth 100000 in
set_option maxHeartbeats 1000000 in
theorem stat_none (w : World) (q : Value)  (h : NoneB w q) : Calls Try.prog 22 #[q] w fun e w' => e = .returned (.agg #[.int .i64 0, .int .i64 0, .int .i64 0]) ∧ Below w.heap.size w w' := by
  have b1 : Below w.heap.size w (w.alloc (.cells #[.int .i64 0, .int .i64 0, .int .i64 0] 66)) := (Below.refl _ w).alloc (Nat.le_refl _) _
  have OR := Lib.hid (show obj (w.alloc (.cells #[.int .i64 0, .int .i64 0, .int .i64 0] 66)) w.heap.size = some (.cells #[.int .i64 0, .int .i64 0, .int .i64 0] 66 (0, 0)) from obj_alloc_at _ _ _ rfl)
  have H := Lib.hid (none_none _ q (h.below b1))
  have B1 := Lib.hid b1
  obtain ⟨a, rfl⟩ := h.ptr
  clear h b1
  go_enter Try.func22, Try.ntmps22
  go_wp2_with fail
  generalize w.alloc (.cells #[.int .i64 0, .int .i64 0, .int .i64 0] 66) = w1 at *
  refine H.out.mono ?_
  rintro e w2 ⟨rfl, rfl⟩
  have x0 := cell_at OR.out 0
  have x1 := cell_at OR.out 1
  have x2 := cell_at OR.out 2
  simp at x0 x1 x2
  have yf := frozen_at OR.out
  have O4 := obj_setCell_at (.int .i64 0) (i := 2) (obj_setCell_at (.int .i64 0) (i := 1) (obj_setCell_at (.int .i64 0) (i := 0) OR.out))
  have y0 := cell_at O4 0
  have y1 := cell_at O4 1
  have y2 := cell_at O4 2
  simp at y0 y1 y2
  have BE : Hid (Below w.heap.size w (((w2.setCell ⟨w.heap.size, 0, none⟩ (.int .i64 0)).setCell ⟨w.heap.size, 1, none⟩ (.int .i64 0)).setCell ⟨w.heap.size, 2, none⟩ (.int .i64 0))) := Lib.hid (((B1.out.setCell (Nat.le_refl _) _).setCell (Nat.le_refl _) _).setCell (Nat.le_refl _) _)
  clear O4
  go_wp2_with fail
  refine bodyPost_ret (v := (.agg #[.int .i64 0, .int .i64 0, .int .i64 0])) (by simp [results, Try.results22, go_sem, y0, y1, y2]) rfl ⟨rfl, BE.out⟩
set_option maxRecDepth 100000 in
set_option maxHeartbeats 1000000 in
theorem got_none (w : World) (q : Value) (v id kind now : Int) (h : NoneB w q) : Calls Try.prog 14 #[q, .int .i64 v, .int .i64 id, .int .i64 kind, .int .i64 now] w fun e w' => e = .returned (.tuple #[.agg #[.int .i64 0, .int .i64 0, .int .i64 0], .int .i64 2]) ∧ Below w.heap.size w w' := by
  have b1 : Below w.heap.size w (w.alloc (.cells #[.int .i64 0, .int .i64 0, .int .i64 0] 47)) := (Below.refl _ w).alloc (Nat.le_refl _) _
  have OR := Lib.hid (show obj (w.alloc (.cells #[.int .i64 0, .int .i64 0, .int .i64 0] 47)) w.heap.size = some (.cells #[.int .i64 0, .int .i64 0, .int .i64 0] 47 (0, 0)) from obj_alloc_at _ _ _ rfl)
  have H := Lib.hid (comes_none _ q now (h.below b1))
  have B1 := Lib.hid b1
  obtain ⟨a, rfl⟩ := h.ptr
  clear h b1
  go_enter Try.func14, Try.ntmps14
  go_wp2_with fail
  generalize w.alloc (.cells #[.int .i64 0, .int .i64 0, .int .i64 0] 47) = w1 at *
  refine H.out.mono ?_
  rintro e w2 ⟨rfl, rfl⟩
  have x0 := cell_at OR.out 0
  have x1 := cell_at OR.out 1
  have x2 := cell_at OR.out 2
  simp at x0 x1 x2
  have yf := frozen_at OR.out
  have O4 := obj_setCell_at (.int .i64 0) (i := 2) (obj_setCell_at (.int .i64 0) (i := 1) (obj_setCell_at (.int .i64 0) (i := 0) OR.out))
  have y0 := cell_at O4 0
  have y1 := cell_at O4 1
  have y2 := cell_at O4 2
  simp at y0 y1 y2
  have BE : Hid (Below w.heap.size w (((w2.setCell ⟨w.heap.size, 0, none⟩ (.int .i64 0)).setCell ⟨w.heap.size, 1, none⟩ (.int .i64 0)).setCell ⟨w.heap.size, 2, none⟩ (.int .i64 0))) := Lib.hid (((B1.out.setCell (Nat.le_refl _) _).setCell (Nat.le_refl _) _).setCell (Nat.le_refl _) _)
  clear O4
  go_wp2_with fail
  refine bodyPost_ret (v := (.tuple #[.agg #[.int .i64 0, .int .i64 0, .int .i64 0], .int .i64 2])) (by simp [results, Try.results14, go_sem, y0, y1, y2]) rfl ⟨rfl, BE.out⟩
set_option maxRecDepth 100000 in
theorem clone_none (w : World) (q : Value) (h : NoneB w q) : Calls Try.prog 24 #[q] w fun e w' => e = .returned (.pointer none) ∧ w' = w := by
  have H := Lib.hid (none_none w q h)
  obtain ⟨a, rfl⟩ := h.ptr
  clear h
  go_enter Try.func24, Try.ntmps24
  go_wp2_with fail
  refine H.out.mono ?_
  rintro e w2 ⟨rfl, rfl⟩
  go_wp2_with fail
  go_ret
  exact ⟨rfl, rfl⟩
end Go.Proofs.Ytagpclgappcnbaa
