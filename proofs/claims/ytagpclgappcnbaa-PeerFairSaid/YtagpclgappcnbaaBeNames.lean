import Derived.Test.YtagpclgappcnbaaWide
import Derived.Laws.RangeString
import Derived.Laws.RangeAny
import Derived.LoopTactic
import Derived.BigQuiet
import Derived.StillTailTactics
namespace Go.Proofs.Ytagpclgappcnbaa.Be
open Go.RowKit

/-! ### names -/
theorem width_pos (s : ByteArray) (pos : Nat) (h : pos < s.size) : 1 ≤ (Utf8.decode s pos).2 := by
  by_cases ha : (s[pos]'h).toNat < 128
  · rw [decode_ascii s pos h ha]
    exact Nat.le_refl _
  · exact (decode_high s pos h (by omega)).2
/-- a text's runes from a place on -/
def rns (s : ByteArray) : Nat → Nat → List Int
  | 0, _ => []
  | b + 1, pos => if pos < s.size then ((Utf8.decode s pos).1 : Int) :: rns s b (pos + (Utf8.decode s pos).2) else []
theorem rns_end (s : ByteArray) (b pos : Nat) (h : ¬ pos < s.size) : rns s b pos = [] := by
  cases b with
  | zero => rfl
  | succ b => simp [rns, h]
theorem rns_one (s : ByteArray) (b pos : Nat) (h : pos < s.size) (hb : s.size ≤ pos + b) : ∃ b', rns s b pos = ((Utf8.decode s pos).1 : Int) :: rns s b' (pos + (Utf8.decode s pos).2) ∧ s.size ≤ pos + (Utf8.decode s pos).2 + b' := by
  cases b with
  | zero => omega
  | succ b => exact ⟨b, by simp [rns, h], by have := width_pos s pos h; omega⟩
theorem rns_len (s : ByteArray) : ∀ b pos, (rns s b pos).length ≤ b := by
  intro b
  induction b with
  | zero => intro pos; simp [rns]
  | succ b ih =>
    intro pos
    unfold rns
    split
    · simp; exact ih _
    · simp
def runesOf (s : ByteArray) : List Int := rns s s.size 0
def isLetter (c : Int) : Bool := decide (48 ≤ c ∧ c ≤ 57) || decide (97 ≤ c ∧ c ≤ 122) || decide (c = 45) || decide (192 ≤ c ∧ c ≤ 591 ∧ c ≠ 215 ∧ c ≠ 247)
def nameE (s : ByteArray) : Int := if 1 ≤ (runesOf s).length ∧ (runesOf s).length ≤ 16 ∧ (runesOf s).all isLetter = true then 0 else 50

set_option maxHeartbeats 400000 in
theorem letterA (c : Int) (w : World) : Calls Try.prog 85 #[.int .i32 c] w fun e w' => e = .returned (.bool (isLetter c)) ∧ w = w' := by
  go_enter Try.func85, Try.ntmps85
  go_wp2
  all_goals (go_ret; refine ⟨ret_bool ?_, rfl⟩; unfold isLetter; rw [Bool.eq_iff_iff]; simp_all <;> omega)
set_option maxHeartbeats 400000 in
theorem letterB (c : Int) (w : World) : Calls Try.prog 94 #[.int .i32 c] w fun e w' => e = .returned (.bool (isLetter c)) ∧ w = w' := by
  go_enter Try.func94, Try.ntmps94
  go_wp2
  all_goals (go_ret; refine ⟨ret_bool ?_, rfl⟩; unfold isLetter; rw [Bool.eq_iff_iff]; simp_all <;> omega)
theorem below_iter (w : World) (s : ByteArray) (pos : Nat) : Below w.heap.size w (w.iter s pos) := (Below.refl _ w).alloc (Nat.le_refl _) _
end Go.Proofs.Ytagpclgappcnbaa.Be
