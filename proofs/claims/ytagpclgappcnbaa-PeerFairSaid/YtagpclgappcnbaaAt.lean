import Derived.Test.YtagpclgappcnbaaOps
import Derived.Test.YtagpclgappcnbaaBkR
import Derived.Test.YtagpclgappcnbaaBkW
namespace Go.Proofs.Ytagpclgappcnbaa
open Go.RowKit

/-! ### when an act is done -/
def atE (x : OpM) (time : Int) : Int := if x.past = true then x.now else if 4611686018427387903 - time < x.ticks then 4611686018427387903 else time + x.ticks
set_option maxRecDepth 100000 in
theorem at_any (w : World) (x : OpM) (time : Int) (hx : OpOK x) (h0 : 0 ≤ time) (h1 : time ≤ 4611686018427387903) : Calls Try.prog 10 #[.agg #[.int .i64 x.d, .int .i64 x.v, .int .i64 x.id, .int .i64 x.kind, .int .u16 x.ticks, .bool x.past, .int .i64 x.now], .int .i64 time] w fun e w' => e = .returned (.int .i64 (atE x time)) ∧ Below w.heap.size w w' := by
  have HX := Lib.hid hx
  obtain ⟨t0, t1⟩ := hx
  have HE : Hid (atE x time = if x.past = true then x.now else if 4611686018427387903 - time < x.ticks then 4611686018427387903 else time + x.ticks) := Lib.hid rfl
  have hb : Below w.heap.size w (w.alloc (.cells #[.int .i64 x.d, .int .i64 x.v, .int .i64 x.id, .int .i64 x.kind, .int .u16 x.ticks, .bool x.past, .int .i64 x.now] 39)) := (Below.refl _ w).alloc (Nat.le_refl _) _
  have HB := Lib.hid hb
  clear hb
  generalize atE x time = E at *
  obtain ⟨d, v, id, kind, ticks, past, now⟩ := x
  simp only at t0 t1 HE
  have hw1 : IntKind.i64.wrap (4611686018427387903 - time) = 4611686018427387903 - time := wrap_id (by omega) (by omega)
  have hw2 : IntKind.i64.wrap ticks = ticks := wrap_id (by omega) (by omega)
  go_enter Try.func10, Try.ntmps10
  cases past with
  | true =>
    obtain rfl : E = now := by rw [HE.out, if_pos rfl]
    go_wp2_with fail
    go_ret
    exact ⟨rfl, HB.out⟩
  | false =>
    by_cases hc : 4611686018427387903 - time < ticks
    · obtain rfl : E = 4611686018427387903 := by rw [HE.out, if_neg (by decide), if_pos hc]
      go_wp2_with fail
      go_ret
      exact ⟨rfl, HB.out⟩
    · obtain rfl : E = time + ticks := by rw [HE.out, if_neg (by decide), if_neg hc]
      have hw3 : IntKind.i64.wrap (time + ticks) = time + ticks := wrap_id (by omega) (by omega)
      go_wp2_with fail
      go_ret
      exact ⟨rfl, HB.out⟩
/-- only ticks told -/
def tickOp (t : Int) : OpM := ⟨0, 0, 0, 0, t, false, 0⟩
theorem atE_bd {t time : Int} (ht : 0 ≤ t) (h0 : 0 ≤ time) (h1 : time ≤ 4611686018427387903) : time ≤ atE (tickOp t) time ∧ atE (tickOp t) time ≤ 4611686018427387903 := by
  unfold atE tickOp
  rw [if_neg (by simp)]
  simp only
  split <;> omega
end Go.Proofs.Ytagpclgappcnbaa
