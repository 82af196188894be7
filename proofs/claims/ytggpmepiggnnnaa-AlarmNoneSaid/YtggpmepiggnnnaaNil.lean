import Derived.Test.YtggpmepiggnnnaaDueLaw
namespace Go.Proofs.Ytggpmepiggnnnaa
open Go.RowKit

/-! ### a heap that no call made -/
def NoneP (w : World) (p : Value) : Prop := p = .pointer none ∨ ∃ hb, p = .pointer (some ⟨hb, 0, none⟩) ∧ obj w hb = some (.cells #[.slice none 0 0, .map none, .bool false] 68 (0, 0))
theorem NoneP.below {w W : World} {p : Value} (h : NoneP w p) (hb : Below w.heap.size w W) : NoneP W p := by
  rcases h with h | ⟨g, h1, h2⟩
  · exact .inl h
  · exact .inr ⟨g, h1, (obj_below hb (lt_of_obj h2)).trans h2⟩
set_option maxRecDepth 100000 in
theorem none_none (w : World) (p : Value) (h : NoneP w p) : Calls Try.prog 31 #[p] w fun e w' => e = .returned (.bool true) ∧ w = w' := by
  rcases h with rfl | ⟨hb, rfl, h2⟩
  · go_enter Try.func31, Try.ntmps31
    go_wp2
    go_ret
    exact ⟨rfl, rfl⟩
  · have c2 : w.cell? ⟨hb, 2, none⟩ = some (.bool false) := cell_at h2 2
    clear h2
    go_enter Try.func31, Try.ntmps31
    go_wp2
    go_ret
    exact ⟨rfl, rfl⟩
theorem b32 (w : World) : Below w.heap.size w (w.alloc (.cells #[.int .i64 0, .int .i64 0] 32)) := (Below.refl _ w).alloc (Nat.le_refl _) _
set_option maxRecDepth 100000 in
theorem peek_none (w : World) (p : Value) (h : NoneP w p) : Calls Try.prog 30 #[p] w fun e w' => e = .returned (.tuple #[.agg #[.int .i64 0, .int .i64 0], .int .i64 2]) ∧ Below w.heap.size w w' := by
  have HN := Lib.hid (none_none _ p (h.below (b32 w)))
  clear h
  go_enter Try.func30, Try.ntmps30
  go_wp2_with fail
  refine HN.out.mono ?_
  rintro e w1 ⟨rfl, rfl⟩
  go_wp2
  have o2 : obj (w.alloc (.cells #[.int .i64 0, .int .i64 0] 32)) w.heap.size = some (.cells #[.int .i64 0, .int .i64 0] 32 (0, 0)) := obj_alloc_at _ _ _ rfl
  refine bodyPost_ret (results_cell_tmp rfl _ rfl (by rw [run_load32, o2]; rfl)) rfl ?_
  exact ⟨rfl, b32 w⟩
set_option maxRecDepth 100000 in
theorem pop_none (w : World) (p : Value) (h : NoneP w p) : Calls Try.prog 17 #[p] w fun e w' => e = .returned (.tuple #[.agg #[.int .i64 0, .int .i64 0], .int .i64 2]) ∧ Below w.heap.size w w' := by
  have HN := Lib.hid (peek_none _ p (h.below (b32 w)))
  have o1 : obj (w.alloc (.cells #[.int .i64 0, .int .i64 0] 32)) w.heap.size = some (.cells #[.int .i64 0, .int .i64 0] 32 (0, 0)) := obj_alloc_at _ _ _ rfl
  have B1 := Lib.hid (b32 w)
  clear h
  go_enter Try.func17, Try.ntmps17
  go_wp2_with fail
  refine HN.out.mono ?_
  generalize w.alloc (.cells #[.int .i64 0, .int .i64 0] 32) = w1 at *
  rintro e w2 ⟨rfl, b2⟩
  have o2 := (obj_below b2 (lt_of_obj o1)).trans o1
  have z2 := lt_of_obj o2
  have B2 := Lib.hid (B1.out.trans (b2.mono B1.out.size))
  have hzz : w.heap.size ≠ w2.heap.size := by omega
  clear b2 o1
  go_wp2
  have oo : obj ((putObj w2 w.heap.size (.cells #[.int .i64 0, .int .i64 0] 32)).alloc (.cells #[.int .i64 0, .int .i64 0] 32)) w.heap.size = some (.cells #[.int .i64 0, .int .i64 0] 32 (0, 0)) := (obj_alloc_past _ _ _ (by simpa using z2)).trans (obj_putObj_eq _ _ _ z2)
  refine bodyPost_ret (results_cell_tmp rfl _ rfl (by rw [run_load32, oo]; rfl)) rfl ?_
  exact ⟨rfl, (below_putObj B2.out (Nat.le_refl _) _).alloc (by simpa using B2.out.size) _⟩
set_option maxRecDepth 100000 in
theorem at_none (w : World) (p : Value) (k : Int) (h : NoneP w p) : Calls Try.prog 26 #[p, .int .i64 k] w fun e w' => e = .returned (.tuple #[.int .i64 0, .int .i64 2]) ∧ w = w' := by
  have HN := Lib.hid (none_none _ p h)
  clear h
  go_enter Try.func26, Try.ntmps26
  go_wp2_with fail
  refine HN.out.mono ?_
  rintro e w1 ⟨rfl, rfl⟩
  go_wp2
  go_ret2
  exact ⟨rfl, rfl⟩
set_option maxRecDepth 100000 in
theorem push_none (w : World) (p : Value) (t k : Int) (h : NoneP w p) : Calls Try.prog 11 #[p, .int .i64 t, .int .i64 k] w fun e w' => e = .returned (.int .i64 2) ∧ w = w' := by
  have HN := Lib.hid (none_none _ p h)
  clear h
  go_enter Try.func11, Try.ntmps11
  go_wp2_with fail
  refine HN.out.mono ?_
  rintro e w1 ⟨rfl, rfl⟩
  go_wp2
  go_ret
  exact ⟨rfl, rfl⟩
set_option maxRecDepth 100000 in
theorem move_none (w : World) (p : Value) (t k : Int) (h : NoneP w p) : Calls Try.prog 24 #[p, .int .i64 t, .int .i64 k] w fun e w' => e = .returned (.int .i64 2) ∧ w = w' := by
  have HN := Lib.hid (none_none _ p h)
  clear h
  go_enter Try.func24, Try.ntmps24
  go_wp2_with fail
  refine HN.out.mono ?_
  rintro e w1 ⟨rfl, rfl⟩
  go_wp2
  go_ret
  exact ⟨rfl, rfl⟩
set_option maxRecDepth 100000 in
theorem drop_none (w : World) (p : Value) (k : Int) (h : NoneP w p) : Calls Try.prog 25 #[p, .int .i64 k] w fun e w' => e = .returned (.int .i64 2) ∧ w = w' := by
  have HN := Lib.hid (none_none _ p h)
  clear h
  go_enter Try.func25, Try.ntmps25
  go_wp2_with fail
  refine HN.out.mono ?_
  rintro e w1 ⟨rfl, rfl⟩
  go_wp2
  go_ret
  exact ⟨rfl, rfl⟩
set_option maxRecDepth 100000 in
theorem len_none (w : World) (p : Value) (h : NoneP w p) : Calls Try.prog 12 #[p] w fun e w' => e = .returned (.int .i64 0) ∧ w = w' := by
  have HN := Lib.hid (none_none _ p h)
  clear h
  go_enter Try.func12, Try.ntmps12
  go_wp2_with fail
  refine HN.out.mono ?_
  rintro e w1 ⟨rfl, rfl⟩
  go_wp2
  go_ret
  exact ⟨rfl, rfl⟩
set_option maxRecDepth 100000 in
theorem clone_none (w : World) (p : Value) (h : NoneP w p) : Calls Try.prog 29 #[p] w fun e w' => e = .returned (.pointer none) ∧ w = w' := by
  have HN := Lib.hid (none_none _ p h)
  clear h
  go_enter Try.func29, Try.ntmps29
  go_wp2_with fail
  refine HN.out.mono ?_
  rintro e w1 ⟨rfl, rfl⟩
  go_wp2
  go_ret
  exact ⟨rfl, rfl⟩
set_option maxRecDepth 100000 in
theorem due_none (w : World) (p : Value) (now : Int) (h : NoneP w p) : Calls Try.prog 19 #[p, .int .i64 now] w fun e w' => e = .returned (.slice none 0 0) ∧ Below w.heap.size w w' := by
  have HN := Lib.hid (peek_none w p h)
  clear h
  go_enter Try.func19, Try.ntmps19
  go_wp2
  refine wp_loop_rounds 1 ?_
  rw [rounds_succ]
  go_wp2_with fail
  refine HN.out.mono ?_
  rintro e w1 ⟨rfl, b1⟩
  have B1 := Lib.hid b1
  clear b1
  go_wp2
  refine bodyPost_ret (results_tmp rfl _ _ _) rfl ?_
  exact ⟨rfl, B1.out.alloc B1.out.size _⟩
set_option maxRecDepth 100000 in
theorem all_none (w : World) (p : Value) (h : NoneP w p) : Calls Try.prog 21 #[p] w fun e w' => (∃ lb v, e = .returned (.func (.func 41) #[] #[.pointer (some ⟨lb, 0, none⟩)]) ∧ ValAt 29 2 alL (fun k => k < w'.heap.size) w' lb v ([] : List Al)) ∧ Below w.heap.size w w' := by
  have b1 : Below w.heap.size w (w.alloc (.cells #[.slice none 0 0] 29)) := (Below.refl _ w).alloc (Nat.le_refl _) _
  have HN := Lib.hid (none_none _ p (h.below b1))
  have hmf : ∀ (fn : Fn) (first cap : Array Value) (w : World), (Instr.makeFunc fn first cap).run Try.prog w = .ok (.func fn first cap) w := fun _ _ _ _ => rfl
  clear h
  go_enter Try.func21, Try.ntmps21
  go_wp2_with fail
  refine HN.out.mono ?_
  rintro e w1 ⟨rfl, rfl⟩
  go_wp2
  go_ret
  refine ⟨⟨w.heap.size, .slice none 0 0, rfl, obj_alloc_at _ _ _ rfl, ⟨none, 0, rfl, Nat.le_refl _, Nat.zero_le _, fun h => absurd h (by simp)⟩, by simp, fun a l c e => by cases e⟩, b1⟩
end Go.Proofs.Ytggpmepiggnnnaa
