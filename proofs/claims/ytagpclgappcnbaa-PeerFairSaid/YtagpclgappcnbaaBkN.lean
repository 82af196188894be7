import Derived.Test.YtagpclgappcnbaaBkX
namespace Go.Proofs.Ytagpclgappcnbaa
open Go.RowKit

/-! ### a book that no call made -/
def zeroBk : Array Value := #[.pointer none, .int .i64 0, .int .i64 0, .int .i64 0, .int .i64 0, .int .i64 0, .int .i64 0, .int .i64 0, .int .i64 0, .int .i64 0, .int .i64 0, .int .i64 0, .slice none 0 0, .int .i64 0, .int .i64 0, .int .i64 0, .slice none 0 0, .map none]
def NoneB (w : World) (q : Value) : Prop := q = .pointer none ∨ ∃ b, q = .pointer (some ⟨b, 0, none⟩) ∧ obj w b = some (.cells zeroBk 73 (0, 0))
theorem NoneB.below {w W : World} {q : Value} (h : NoneB w q) (hb : Below w.heap.size w W) : NoneB W q := by
  rcases h with h | ⟨b, h, h1⟩
  · exact .inl h
  · exact .inr ⟨b, h, (obj_below hb (lt_of_obj h1)).trans h1⟩
theorem NoneB.ptr {w : World} {q : Value} (h : NoneB w q) : ∃ a, q = .pointer a := by
  rcases h with h | ⟨b, h, _⟩
  · exact ⟨_, h⟩
  · exact ⟨_, h⟩
theorem none_none (w : World) (q : Value) (h : NoneB w q) : Calls Try.prog 34 #[q] w fun e w' => e = .returned (.bool true) ∧ w' = w := by
  rcases h with rfl | ⟨b, rfl, h1⟩
  · go_enter Try.func34, Try.ntmps34
    go_wp2_with fail
    go_ret
    exact ⟨rfl, rfl⟩
  · have c0 : w.cell? ⟨b, 0, none⟩ = some (.pointer none) := cell_at h1 0
    clear h1
    go_enter Try.func34, Try.ntmps34
    go_wp2_with fail
    go_ret
    exact ⟨rfl, rfl⟩
theorem comes_none (w : World) (q : Value) (now : Int) (h : NoneB w q) : Calls Try.prog 36 #[q, .int .i64 now] w fun e w' => e = .returned (.int .i64 2) ∧ w' = w := by
  have H := Lib.hid (none_none w q h)
  obtain ⟨a, rfl⟩ := h.ptr
  clear h
  go_enter Try.func36, Try.ntmps36
  go_wp2_with fail
  refine H.out.mono ?_
  rintro e w2 ⟨rfl, rfl⟩
  go_wp2_with fail
  go_ret
  exact ⟨rfl, rfl⟩
set_option maxRecDepth 100000 in
theorem ask_none (w : World) (q : Value) (v kind now : Int) (h : NoneB w q) : Calls Try.prog 13 #[q, .int .i64 v, .int .i64 kind, .int .i64 now] w fun e w' => e = .returned (.tuple #[.int .i64 0, .bool false, .int .i64 2]) ∧ w' = w := by
  have H := Lib.hid (comes_none w q now h)
  obtain ⟨a, rfl⟩ := h.ptr
  clear h
  go_enter Try.func13, Try.ntmps13
  go_wp2_with fail
  refine H.out.mono ?_
  rintro e w2 ⟨rfl, rfl⟩
  go_wp2_with fail
  refine bodyPost_ret (v := .tuple #[.int .i64 0, .bool false, .int .i64 2]) (by simp [results, Try.results13, go_sem]) rfl ⟨rfl, rfl⟩
theorem due_none (w : World) (q : Value) (id : Int) (h : NoneB w q) : Calls Try.prog 18 #[q, .int .i64 id] w fun e w' => e = .returned (.tuple #[.int .i64 0, .int .i64 2]) ∧ w' = w := by
  have H := Lib.hid (none_none w q h)
  obtain ⟨a, rfl⟩ := h.ptr
  clear h
  go_enter Try.func18, Try.ntmps18
  go_wp2_with fail
  refine H.out.mono ?_
  rintro e w2 ⟨rfl, rfl⟩
  go_wp2_with fail
  go_ret2
  exact ⟨rfl, rfl⟩
theorem next_none (w : World) (q : Value) (h : NoneB w q) : Calls Try.prog 20 #[q] w fun e w' => e = .returned (.tuple #[.int .i64 0, .int .i64 2]) ∧ w' = w := by
  have H := Lib.hid (none_none w q h)
  obtain ⟨a, rfl⟩ := h.ptr
  clear h
  go_enter Try.func20, Try.ntmps20
  go_wp2_with fail
  refine H.out.mono ?_
  rintro e w2 ⟨rfl, rfl⟩
  go_wp2_with fail
  go_ret2
  exact ⟨rfl, rfl⟩
theorem timeout_none (w : World) (q : Value) (h : NoneB w q) : Calls Try.prog 19 #[q] w fun e w' => e = .returned (.int .i64 0) ∧ w' = w := by
  have H := Lib.hid (none_none w q h)
  obtain ⟨a, rfl⟩ := h.ptr
  clear h
  go_enter Try.func19, Try.ntmps19
  go_wp2_with fail
  refine H.out.mono ?_
  rintro e w2 ⟨rfl, rfl⟩
  go_wp2_with fail
  go_ret
  exact ⟨rfl, rfl⟩
theorem now_none (w : World) (q : Value) (h : NoneB w q) : Calls Try.prog 11 #[q] w fun e w' => e = .returned (.int .i64 0) ∧ w' = w := by
  have H := Lib.hid (none_none w q h)
  obtain ⟨a, rfl⟩ := h.ptr
  clear h
  go_enter Try.func11, Try.ntmps11
  go_wp2_with fail
  refine H.out.mono ?_
  rintro e w2 ⟨rfl, rfl⟩
  go_wp2_with fail
  go_ret
  exact ⟨rfl, rfl⟩
theorem len_none (w : World) (q : Value) (h : NoneB w q) : Calls Try.prog 21 #[q] w fun e w' => e = .returned (.int .i64 0) ∧ w' = w := by
  have H := Lib.hid (none_none w q h)
  obtain ⟨a, rfl⟩ := h.ptr
  clear h
  go_enter Try.func21, Try.ntmps21
  go_wp2_with fail
  refine H.out.mono ?_
  rintro e w2 ⟨rfl, rfl⟩
  go_wp2_with fail
  go_ret
  exact ⟨rfl, rfl⟩
end Go.Proofs.Ytagpclgappcnbaa
