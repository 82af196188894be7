import Derived.Test.YtnaknoebjbmboaaTold
namespace Go.Proofs.Ytnaknoebjbmboaa
open Go.RowKit Go.Shelf

/-! ### a book that no call made -/
def NoneP (w : World) (p : Value) : Prop := p = .pointer none ∨ ∃ hb, p = .pointer (some ⟨hb, 0, none⟩) ∧ obj w hb = some (.cells #[.int .i64 0, .int .i64 0, .map none, .int .i64 0, .int .i64 0, .int .i64 0] 49 (0, 0))
theorem NoneP.below {w W : World} {p : Value} (h : NoneP w p) (hb : Below w.heap.size w W) : NoneP W p := by
  rcases h with h | ⟨g, h1, h2⟩
  · exact .inl h
  · exact .inr ⟨g, h1, (obj_below hb (lt_of_obj h2)).trans h2⟩
set_option maxRecDepth 100000 in
theorem none_none (w : World) (p : Value) (h : NoneP w p) : Calls Try.prog 24 #[p] w fun e w' => e = .returned (.bool true) ∧ w = w' := by
  rcases h with rfl | ⟨hb, rfl, h2⟩
  · exact none_nil w
  · have c2 : w.cell? ⟨hb, 2, none⟩ = some (.map none) := cell_at h2 2
    have hq := eqlMapNil43
    clear h2
    go_enter Try.func24, Try.ntmps24
    go_wp2
    go_ret
    exact ⟨rfl, rfl⟩
theorem b32 (w : World) : Below w.heap.size w (w.alloc (.cells #[.int .i64 0, .int .i64 0, .int .i64 0] 32)) := (Below.refl _ w).alloc (Nat.le_refl _) _
theorem b37 (w : World) : Below w.heap.size w (w.alloc (.cells #[.int .i64 0, .int .i64 0, .int .i64 0] 37)) := (Below.refl _ w).alloc (Nat.le_refl _) _
abbrev zV : Value := .agg #[.int .i64 0, .int .i64 0, .int .i64 0]
set_option maxRecDepth 100000 in
theorem ask_none (w : World) (p : Value) (t k : Int) (h : NoneP w p) : Calls Try.prog 10 #[p, .int .i64 t, .int .i64 k] w fun e w' => e = .returned (.tuple #[.int .i64 0, .int .i64 2]) ∧ w = w' := by
  have HN := Lib.hid (none_none _ p h)
  clear h
  go_enter Try.func10, Try.ntmps10
  go_wp2_with fail
  refine HN.out.mono ?_
  rintro e w1 ⟨rfl, rfl⟩
  go_wp2
  go_ret2
  exact ⟨rfl, rfl⟩
set_option maxRecDepth 100000 in
theorem get_nonep (w : World) (p : Value) (k : Int) (h : NoneP w p) : Calls Try.prog 14 #[p, .int .i64 k] w fun e w' => e = .returned (.tuple #[zV, .int .i64 2]) ∧ Below w.heap.size w w' := by
  have HN := Lib.hid (none_none _ p (h.below (b32 w)))
  clear h
  go_enter Try.func14, Try.ntmps14
  go_wp2_with fail
  refine HN.out.mono ?_
  rintro e w1 ⟨rfl, rfl⟩
  go_wp2
  have o2 : obj (w.alloc (.cells #[.int .i64 0, .int .i64 0, .int .i64 0] 32)) w.heap.size = some (.cells #[.int .i64 0, .int .i64 0, .int .i64 0] 32 (0, 0)) := obj_alloc_at _ _ _ rfl
  refine bodyPost_ret (results_cell_tmp rfl _ rfl (by rw [run_load32, o2]; rfl)) rfl ?_
  exact ⟨rfl, b32 w⟩
set_option maxRecDepth 100000 in
theorem answer_nonep (w : World) (p : Value) (n i k : Int) (h : NoneP w p) : Calls Try.prog 13 #[p, .int .i64 n, .int .i64 i, .int .i64 k] w fun e w' => e = .returned (.tuple #[zV, .int .i64 2]) ∧ Below w.heap.size w w' := by
  have HN := Lib.hid (get_nonep _ p i (h.below (b32 w)))
  have o1 : obj (w.alloc (.cells #[.int .i64 0, .int .i64 0, .int .i64 0] 32)) w.heap.size = some (.cells #[.int .i64 0, .int .i64 0, .int .i64 0] 32 (0, 0)) := obj_alloc_at _ _ _ rfl
  have B1 := Lib.hid (b32 w)
  clear h
  go_enter Try.func13, Try.ntmps13
  go_wp2_with fail
  refine HN.out.mono ?_
  generalize w.alloc (.cells #[.int .i64 0, .int .i64 0, .int .i64 0] 32) = w1 at *
  rintro e w2 ⟨rfl, b2⟩
  have o2 := (obj_below b2 (lt_of_obj o1)).trans o1
  have z2 := lt_of_obj o2
  have B2 := Lib.hid (B1.out.trans (b2.mono B1.out.size))
  have hzz : w.heap.size ≠ w2.heap.size := by omega
  clear b2 o1
  unfold zV
  go_wp2
  have oo : obj ((putObj w2 w.heap.size (.cells #[.int .i64 0, .int .i64 0, .int .i64 0] 32)).alloc (.cells #[.int .i64 0, .int .i64 0, .int .i64 0] 32)) w.heap.size = some (.cells #[.int .i64 0, .int .i64 0, .int .i64 0] 32 (0, 0)) := (obj_alloc_past _ _ _ (by simpa using z2)).trans (obj_putObj_eq _ _ _ z2)
  refine bodyPost_ret (results_cell_tmp rfl _ rfl (by rw [run_load32, oo]; rfl)) rfl ?_
  exact ⟨rfl, (below_putObj B2.out (Nat.le_refl _) _).alloc (by simpa using B2.out.size) _⟩
set_option maxRecDepth 100000 in
theorem expire_nonep (w : World) (p : Value) (i : Int) (h : NoneP w p) : Calls Try.prog 16 #[p, .int .i64 i] w fun e w' => e = .returned (.tuple #[zV, .int .i64 2]) ∧ Below w.heap.size w w' := by
  have HN := Lib.hid (get_nonep _ p i (h.below (b32 w)))
  have o1 : obj (w.alloc (.cells #[.int .i64 0, .int .i64 0, .int .i64 0] 32)) w.heap.size = some (.cells #[.int .i64 0, .int .i64 0, .int .i64 0] 32 (0, 0)) := obj_alloc_at _ _ _ rfl
  have B1 := Lib.hid (b32 w)
  clear h
  go_enter Try.func16, Try.ntmps16
  go_wp2_with fail
  refine HN.out.mono ?_
  generalize w.alloc (.cells #[.int .i64 0, .int .i64 0, .int .i64 0] 32) = w1 at *
  rintro e w2 ⟨rfl, b2⟩
  have o2 := (obj_below b2 (lt_of_obj o1)).trans o1
  have z2 := lt_of_obj o2
  have B2 := Lib.hid (B1.out.trans (b2.mono B1.out.size))
  have hzz : w.heap.size ≠ w2.heap.size := by omega
  clear b2 o1
  unfold zV
  go_wp2
  have oo : obj ((putObj w2 w.heap.size (.cells #[.int .i64 0, .int .i64 0, .int .i64 0] 32)).alloc (.cells #[.int .i64 0, .int .i64 0, .int .i64 0] 32)) w.heap.size = some (.cells #[.int .i64 0, .int .i64 0, .int .i64 0] 32 (0, 0)) := (obj_alloc_past _ _ _ (by simpa using z2)).trans (obj_putObj_eq _ _ _ z2)
  refine bodyPost_ret (results_cell_tmp rfl _ rfl (by rw [run_load32, oo]; rfl)) rfl ?_
  exact ⟨rfl, (below_putObj B2.out (Nat.le_refl _) _).alloc (by simpa using B2.out.size) _⟩
theorem lenMapNil43 (w : World) : (Builtin.len_ #[43] 3 #[.map none]).run Try.prog w = .ok (.int .i64 0) w := by kernel_rfl
set_option maxRecDepth 100000 in
theorem len_nonep (w : World) (p : Value) (h : NoneP w p) : Calls Try.prog 11 #[p] w fun e w' => e = .returned (.int .i64 0) ∧ w = w' := by
  have HN := Lib.hid (none_none _ p h)
  clear h
  go_enter Try.func11, Try.ntmps11
  go_wp2_with fail
  refine HN.out.mono ?_
  rintro e w1 ⟨rfl, rfl⟩
  go_wp2
  go_ret
  exact ⟨rfl, rfl⟩
set_option maxRecDepth 100000 in
theorem clone_nonep (w : World) (p : Value) (h : NoneP w p) : Calls Try.prog 20 #[p] w fun e w' => e = .returned (.pointer none) ∧ w = w' := by
  have HN := Lib.hid (none_none _ p h)
  clear h
  go_enter Try.func20, Try.ntmps20
  go_wp2_with fail
  refine HN.out.mono ?_
  rintro e w1 ⟨rfl, rfl⟩
  go_wp2
  go_ret
  exact ⟨rfl, rfl⟩
set_option maxRecDepth 100000 in
theorem stat_nonep (w : World) (p : Value) (h : NoneP w p) : Calls Try.prog 15 #[p] w fun e w' => e = .returned zV ∧ Below w.heap.size w w' := by
  have HN := Lib.hid (none_none _ p (h.below (b37 w)))
  clear h
  go_enter Try.func15, Try.ntmps15
  go_wp2_with fail
  refine HN.out.mono ?_
  rintro e w1 ⟨rfl, rfl⟩
  go_wp2
  refine bodyPost_ret (v := zV) (by simp [results, Try.results15, go_sem]) rfl ⟨rfl, ?_⟩
  (repeat (first | with_reducible exact b37 _ | with_reducible refine Below.setCell ?_ (by simp) _ | with_reducible refine below_putObj ?_ (Nat.le_refl _) _))
set_option maxRecDepth 100000 in
theorem mkValues (w : World) (oa : Option Addr) (len cap : Nat) : Calls Try.prog 30 #[.slice oa len cap] w fun e w' => e = .returned (.func (.func 42) #[] #[.pointer (some ⟨w.heap.size, 0, none⟩)]) ∧ w' = w.alloc (.cells #[.slice oa len cap] 51) := by
  have hmf : ∀ (fn : Fn) (first cap : Array Value) (w : World), (Instr.makeFunc fn first cap).run Try.prog w = .ok (.func fn first cap) w := fun _ _ _ _ => rfl
  go_enter Try.func30, Try.ntmps30
  go_wp2
  go_ret
  exact ⟨rfl, rfl⟩
theorem eg42 : ∀ args w, (callFunc 42 args).run Try.prog w = .ok (.enter 42 args) w := enters_of Try.func42 (by kernel_rfl) rfl
set_option maxRecDepth 100000 in
theorem all_nonep (w : World) (p : Value) (h : NoneP w p) : Calls Try.prog 19 #[p] w fun e w' => (∃ lb v, e = .returned (.func (.func 42) #[] #[.pointer (some ⟨lb, 0, none⟩)]) ∧ ValAt 51 3 akL (fun k => k < w'.heap.size) w' lb v ([] : List AskD)) ∧ Below w.heap.size w w' := by
  have HN := Lib.hid (none_none _ p h)
  have HV := Lib.hid (mkValues w none 0 0)
  clear h
  go_enter Try.func19, Try.ntmps19
  go_wp2_with fail
  refine HN.out.mono ?_
  rintro e w1 ⟨rfl, rfl⟩
  go_wp2_with fail
  refine HV.out.mono ?_
  rintro e w1 ⟨rfl, rfl⟩
  go_wp2
  go_ret
  refine ⟨⟨w.heap.size, .slice none 0 0, rfl, obj_alloc_at _ _ _ rfl, ⟨none, 0, rfl, Nat.le_refl _, Nat.zero_le _, fun h => absurd h (by simp)⟩, by simp, fun a l c e => by cases e⟩, (Below.refl _ w).alloc (Nat.le_refl _) _⟩
theorem told_all {w w2 : World} {lb : Nat} {v : Value} {W : List AskD} (hV : ValAt 51 3 akL (fun k => k < w.heap.size) w lb v W) (hb : Below w.heap.size w w2) (hlen : W.length ≤ 4096) (most : Int) :
    Calls Try.prog 18 #[.func (.func 42) #[] #[.pointer (some ⟨lb, 0, none⟩)], .int .i64 most] w2 (RetOwn w2 32 3 akL (W.take most.toNat)) :=
  told_any w2 w 42 #[.pointer (some ⟨lb, 0, none⟩)] W (fun k hk => hk) eg42 (values_seq 4 (by decide) (fun k hk => hk) hV) (Agree.of_below (fun k hk => hk) hb) (by omega) most
end Go.Proofs.Ytnaknoebjbmboaa
