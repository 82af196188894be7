import Derived.Test.YtfejhekoijemdaaFindS
namespace Go.Proofs.Ytfejhekoijemdaa
open Go.RowKit

/-- a set that no call made -/
def NoSet (w : World) (q : Option Addr) : Prop := ∀ W, Below w.heap.size w W → Calls Try.prog 31 #[.pointer q] W fun e w' => e = .returned (.bool true) ∧ w' = W
theorem NoSet.nil (w : World) : NoSet w none := fun W _ => none_nil W
theorem NoSet.zero {w : World} {b : Nat} {x y z : Value} (h : obj w b = some (.cells #[.int .i64 0, x, y, z] 78 (0, 0))) : NoSet w (some ⟨b, 0, none⟩) :=
  fun W hb => none_zero W b (cell_at ((obj_below hb (lt_of_obj h)).trans h) 0)
theorem NoSet.below {w W : World} {q : Option Addr} (h : NoSet w q) (hb : Below w.heap.size w W) : NoSet W q := fun W' hb' => h W' (hb.trans (hb'.mono hb.size))
set_option maxRecDepth 100000 in
theorem open_made (w : World) (q : Option Addr) (h : NoSet w q) (sv : Value) : Calls Try.prog 11 #[.pointer q, sv] w fun e w' => e = .returned (.tuple #[.int .i64 0, .int .i64 2]) ∧ w' = w := by
  have HN := Lib.hid (h w (Below.refl _ _))
  clear h
  go_enter Try.func11, Try.ntmps11
  go_wp2_with fail
  refine HN.out.mono ?_
  rintro e w ⟨rfl, rfl⟩
  go_wp2
  go_ret2
  exact ⟨rfl, rfl⟩
set_option maxRecDepth 100000 in
theorem left_made (w : World) (q : Option Addr) (h : NoSet w q) (n : Int) : Calls Try.prog 21 #[.pointer q, .int .i64 n] w fun e w' => e = .returned (.tuple #[.int .i64 0, .int .i64 2]) ∧ w' = w := by
  have HN := Lib.hid (h w (Below.refl _ _))
  clear h
  go_enter Try.func21, Try.ntmps21
  go_wp2_with fail
  refine HN.out.mono ?_
  rintro e w ⟨rfl, rfl⟩
  go_wp2
  go_ret2
  exact ⟨rfl, rfl⟩
set_option maxRecDepth 100000 in
theorem drop_made (w : World) (q : Option Addr) (h : NoSet w q) (n v : Int) : Calls Try.prog 13 #[.pointer q, .int .i64 n, .int .i64 v] w fun e w' => e = .returned (.int .i64 2) ∧ w' = w := by
  have HN := Lib.hid (h w (Below.refl _ _))
  clear h
  go_enter Try.func13, Try.ntmps13
  go_wp2_with fail
  refine HN.out.mono ?_
  rintro e w ⟨rfl, rfl⟩
  go_wp2
  go_ret
  exact ⟨rfl, rfl⟩
set_option maxRecDepth 100000 in
theorem vote_made (w : World) (q : Option Addr) (h : NoSet w q) (n v : Int) (id : ID) : Calls Try.prog 14 #[.pointer q, .int .i64 n, .int .i64 v, .agg (idL id).toArray] w fun e w' => e = .returned (.int .i64 2) ∧ Below w.heap.size w w' := by
  have hb := (Below.refl _ w).alloc (Nat.le_refl _) (.cells (idL id).toArray 37)
  have HN := Lib.hid (h _ hb)
  have HB := Lib.hid hb
  clear h hb
  go_enter Try.func14, Try.ntmps14
  go_wp2_with fail
  refine HN.out.mono ?_
  rintro e w1 ⟨rfl, hw1⟩
  cases hw1
  go_wp2
  go_ret
  exact ⟨rfl, HB.out⟩
set_option maxRecDepth 100000 in
theorem len_made (w : World) (q : Option Addr) (h : NoSet w q) : Calls Try.prog 19 #[.pointer q] w fun e w' => e = .returned (.int .i64 0) ∧ w' = w := by
  have HN := Lib.hid (h w (Below.refl _ _))
  clear h
  go_enter Try.func19, Try.ntmps19
  go_wp2_with fail
  refine HN.out.mono ?_
  rintro e w ⟨rfl, rfl⟩
  go_wp2
  go_ret
  exact ⟨rfl, rfl⟩
set_option maxRecDepth 100000 in
theorem find_made (w : World) (q : Option Addr) (h : NoSet w q) (n : Int) : Calls Try.prog 33 #[.pointer q, .int .i64 n] w fun e w' => e = .returned (.pointer none) ∧ Below w.heap.size w w' := by
  have hb := (Below.refl _ w).alloc (Nat.le_refl _) (.cells #[.int .i64 n] 2)
  have HN := Lib.hid (h _ hb)
  have HB := Lib.hid hb
  clear h hb
  go_enter Try.func33, Try.ntmps33
  go_wp2_with fail
  refine HN.out.mono ?_
  rintro e w1 ⟨rfl, hw1⟩
  cases hw1
  go_wp2
  go_ret
  exact ⟨rfl, HB.out⟩
set_option maxRecDepth 100000 in
theorem waits_made (w : World) (q : Option Addr) (h : NoSet w q) (n v : Int) : Calls Try.prog 12 #[.pointer q, .int .i64 n, .int .i64 v] w fun e w' => e = .returned (.bool false) ∧ Below w.heap.size w w' := by
  have HF := Lib.hid (find_made w q h n)
  clear h
  go_enter Try.func12, Try.ntmps12
  go_wp2_with fail
  refine HF.out.mono ?_
  rintro e w1 ⟨rfl, b1⟩
  have B1 := Lib.hid b1
  clear b1
  go_wp2
  go_ret
  exact ⟨rfl, B1.out⟩
end Go.Proofs.Ytfejhekoijemdaa
