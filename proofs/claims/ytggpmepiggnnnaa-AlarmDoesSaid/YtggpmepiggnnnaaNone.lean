import Derived.Test.YtggpmepiggnnnaaSettle
namespace Go.Proofs.Ytggpmepiggnnnaa
open Go.RowKit

set_option maxRecDepth 100000 in
theorem none_made (w : World) (hb : Nat) (h : w.cell? ⟨hb, 2, none⟩ = some (.bool true)) : Calls Try.prog 31 #[.pointer (some ⟨hb, 0, none⟩)] w fun e w' => e = .returned (.bool false) ∧ w' = w := by
  go_enter Try.func31, Try.ntmps31
  go_wp2
  go_ret
  exact ⟨rfl, rfl⟩
theorem RawAt.none {w : World} {F : Nat → Prop} {hb m : Nat} {sv : Value} {L : List Al} {M : List (Int × Int)} (h : RawAt w F hb m sv L M) : Calls Try.prog 31 #[.pointer (some ⟨hb, 0, none⟩)] w fun e w' => e = .returned (.bool false) ∧ w' = w :=
  none_made w hb (cell_at h.box 2)
def mayB (t : Int) : Bool := decide (0 ≤ t) && decide (t ≤ 4611686018427387903)
set_option maxRecDepth 100000 in
theorem may_any (w : World) (t : Int) : Calls Try.prog 32 #[.int .i64 t] w fun e w' => e = .returned (.bool (mayB t)) ∧ w' = w := by
  have HB : Hid (mayB t = (decide (0 ≤ t) && decide (t ≤ 4611686018427387903))) := Lib.hid rfl
  cases h1 : decide (0 ≤ t)
  · go_enter Try.func32, Try.ntmps32
    go_wp2
    go_ret
    exact ⟨ret_bool (by rw [HB.out, h1]; rfl), rfl⟩
  · go_enter Try.func32, Try.ntmps32
    go_wp2
    go_ret
    exact ⟨ret_bool (by rw [HB.out, h1]; rfl), rfl⟩
end Go.Proofs.Ytggpmepiggnnnaa
