import Derived.Test.YtojdgmeefnaejaaLib
namespace Go.Proofs.Ytojdgmeefnaejaa
open Go.RowKit

/-! ### what is computed, in whole numbers -/
structure RuleD where
  first : Int
  min : Int
  max : Int
  half : Int
  quart : Int
structure MeanD where
  value : Int
  at_ : Int
def ruleV (r : RuleD) : Value := .agg #[.int .i64 r.first, .int .i64 r.min, .int .i64 r.max, .int .i64 r.half, .int .i64 r.quart]
def meanV (m : MeanD) : Value := .agg #[.int .i64 m.value, .int .i64 m.at_]
def RuleOk (r : RuleD) : Prop := 1 ≤ r.min ∧ r.min ≤ r.first ∧ r.first ≤ r.max ∧ r.max ≤ 1099511627776 ∧ 0 ≤ r.half ∧ r.half ≤ 1048576 ∧ 1 ≤ r.quart ∧ r.quart ≤ 64
def MeanOk (r : RuleD) (m : MeanD) : Prop := RuleOk r ∧ 0 ≤ m.value ∧ m.value ≤ 16 * r.max ∧ 0 ≤ m.at_ ∧ m.at_ ≤ 4611686018427387903

def inB (a n b : Int) : Bool := decide (a ≤ n ∧ n ≤ b)

def clip (a n b : Int) : Int := if n < a then a else if b < n then b else n
theorem clip_bd (a n b : Int) (h : a ≤ b) : a ≤ clip a n b ∧ clip a n b ≤ b := by unfold clip; split <;> (try split) <;> omega
theorem ret_int {k : IntKind} {a b : Int} (h : a = b) : Ending.returned (.int k a) = .returned (.int k b) := by rw [h]
theorem ret_bool {a b : Bool} (h : a = b) : Ending.returned (.bool a) = .returned (.bool b) := by rw [h]

theorem in_any (a n b : Int) (h : a ≤ b) (w : World) : Calls Try.prog 22 #[.int .i64 a, .int .i64 n, .int .i64 b] w fun e w' => e = .returned (.bool (inB a n b)) ∧ w = w' := by
  go_enter Try.func22, Try.ntmps22
  go_wp2
  all_goals go_ret
  all_goals
    refine ⟨ret_bool ?_, rfl⟩
    apply Bool.eq_iff_iff.2
    simp only [inB, beq_iff_eq, decide_eq_true_eq, true_iff]
    omega
theorem in_yes (a n b : Int) (h1 : a ≤ n) (h2 : n ≤ b) (w : World) : Calls Try.prog 22 #[.int .i64 a, .int .i64 n, .int .i64 b] w fun e w' => e = .returned (.bool true) ∧ w = w' :=
  (in_any a n b (by omega) w).mono fun _ _ ⟨he, hw⟩ => ⟨by rw [he]; exact ret_bool (by simp [inB]; omega), hw⟩
theorem in_no (a n b : Int) (hab : a ≤ b) (h : n < a ∨ b < n) (w : World) : Calls Try.prog 22 #[.int .i64 a, .int .i64 n, .int .i64 b] w fun e w' => e = .returned (.bool false) ∧ w = w' :=
  (in_any a n b hab w).mono fun _ _ ⟨he, hw⟩ => ⟨by rw [he]; exact ret_bool (by simp [inB]; omega), hw⟩
theorem between_any (a n b : Int) (h : a ≤ b) (w : World) : Calls Try.prog 25 #[.int .i64 a, .int .i64 n, .int .i64 b] w fun e w' => e = .returned (.int .i64 (clip a n b)) ∧ w = w' := by
  go_enter Try.func25, Try.ntmps25
  go_wp2
  all_goals go_ret
  all_goals
    refine ⟨ret_int ?_, rfl⟩
    unfold clip
    omega
set_option maxRecDepth 100000 in
set_option maxHeartbeats 1000000 in
theorem check_ok (r : RuleD) (w : World) (h : RuleOk r) : Calls Try.prog 12 #[ruleV r] w fun e w' => e = .returned (.int .i64 0) ∧ Below w.heap.size w w' := by
  obtain ⟨h1, h2, h3, h4, h5, h6, h7, h8⟩ := h
  unfold ruleV
  go_enter Try.func12, Try.ntmps12
  go_wp2_with ((go_at_call 22; refine (in_yes _ _ _ (by omega) (by omega) _).mono ?_; rintro e w' ⟨rfl, rfl⟩))
  go_ret
  exact ⟨rfl, (Below.refl _ _).alloc (Nat.le_refl _) _⟩
set_option maxRecDepth 100000 in
set_option maxHeartbeats 1000000 in
theorem check_bad (r : RuleD) (w : World) (h : ¬ RuleOk r) : Calls Try.prog 12 #[ruleV r] w fun e w' => e = .returned (.int .i64 130) ∧ Below w.heap.size w w' := by
  have HB := Lib.hid h
  clear h
  unfold ruleV
  go_enter Try.func12, Try.ntmps12
  go_wp2_with ((go_at_call 22; refine (in_any _ _ _ (by decide) _).mono ?_; rintro e w' ⟨rfl, rfl⟩))
  all_goals first
    | (go_ret; exact ⟨rfl, (Below.refl _ _).alloc (Nat.le_refl _) _⟩)
    | (exfalso; apply HB.out; simp_all [RuleOk, inB]; done)
    | (exfalso; apply HB.out; simp_all [RuleOk, inB]; omega)
end Go.Proofs.Ytojdgmeefnaejaa
