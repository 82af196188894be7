import Derived.Test.YtagpclgappcnbaaGreatLib
import Derived.Test.YtagpclgappcnbaaGreatShelf
namespace Go.Proofs.YtagpclgappcnbaaGreat.Me
open Go.RowKit

/-! ### what is computed, in whole numbers -/
structure RuleD where
  first : Int
  min : Int
  max : Int
  half : Int
  quart : Int
structure MeanD where
  value : Int
  at_ : Int
def ruleV (r : RuleD) : Value := .agg #[.int .i64 r.first, .int .i64 r.min, .int .i64 r.max, .int .i64 r.half, .int .i64 r.quart]
def meanV (m : MeanD) : Value := .agg #[.int .i64 m.value, .int .i64 m.at_]
def RuleOk (r : RuleD) : Prop := 1 ≤ r.min ∧ r.min ≤ r.first ∧ r.first ≤ r.max ∧ r.max ≤ 1099511627776 ∧ 0 ≤ r.half ∧ r.half ≤ 1048576 ∧ 1 ≤ r.quart ∧ r.quart ≤ 64
def MeanOk (r : RuleD) (m : MeanD) : Prop := RuleOk r ∧ 0 ≤ m.value ∧ m.value ≤ 16 * r.max ∧ 0 ≤ m.at_ ∧ m.at_ ≤ 4611686018427387903

def inB (a n b : Int) : Bool := decide (a ≤ n ∧ n ≤ b)

def clip (a n b : Int) : Int := if n < a then a else if b < n then b else n
theorem clip_bd (a n b : Int) (h : a ≤ b) : a ≤ clip a n b ∧ clip a n b ≤ b := by unfold clip; split <;> (try split) <;> omega
theorem ret_int {k : IntKind} {a b : Int} (h : a = b) : Ending.returned (.int k a) = .returned (.int k b) := by rw [h]
theorem ret_bool {a b : Bool} (h : a = b) : Ending.returned (.bool a) = .returned (.bool b) := by rw [h]

theorem in_any (a n b : Int) (h : a ≤ b) (w : World) : Calls Tryz.prog 67 #[.int .i64 a, .int .i64 n, .int .i64 b] w fun e w' => e = .returned (.bool (inB a n b)) ∧ w = w' := by
  go_enter Tryz.func67, Tryz.ntmps67
  go_wp2
  all_goals go_ret
  all_goals
    refine ⟨ret_bool ?_, rfl⟩
    apply Bool.eq_iff_iff.2
    simp only [inB, beq_iff_eq, decide_eq_true_eq, true_iff]
    omega
theorem in_yes (a n b : Int) (h1 : a ≤ n) (h2 : n ≤ b) (w : World) : Calls Tryz.prog 67 #[.int .i64 a, .int .i64 n, .int .i64 b] w fun e w' => e = .returned (.bool true) ∧ w = w' :=
  (in_any a n b (by omega) w).mono fun _ _ ⟨he, hw⟩ => ⟨by rw [he]; exact ret_bool (by simp [inB]; omega), hw⟩
theorem in_no (a n b : Int) (hab : a ≤ b) (h : n < a ∨ b < n) (w : World) : Calls Tryz.prog 67 #[.int .i64 a, .int .i64 n, .int .i64 b] w fun e w' => e = .returned (.bool false) ∧ w = w' :=
  (in_any a n b hab w).mono fun _ _ ⟨he, hw⟩ => ⟨by rw [he]; exact ret_bool (by simp [inB]; omega), hw⟩
theorem between_any (a n b : Int) (h : a ≤ b) (w : World) : Calls Tryz.prog 102 #[.int .i64 a, .int .i64 n, .int .i64 b] w fun e w' => e = .returned (.int .i64 (clip a n b)) ∧ w = w' := by
  go_enter Tryz.func102, Tryz.ntmps102
  go_wp2
  all_goals go_ret
  all_goals
    refine ⟨ret_int ?_, rfl⟩
    unfold clip
    omega
set_option maxRecDepth 100000 in
set_option maxHeartbeats 1000000 in
theorem check_ok (r : RuleD) (w : World) (h : RuleOk r) : Calls Tryz.prog 30 #[ruleV r] w fun e w' => e = .returned (.int .i64 0) ∧ Below w.heap.size w w' := by
  obtain ⟨h1, h2, h3, h4, h5, h6, h7, h8⟩ := h
  unfold ruleV
  go_enter Tryz.func30, Tryz.ntmps30
  go_wp2_with ((go_at_call 67; refine (in_yes _ _ _ (by omega) (by omega) _).mono ?_; rintro e w' ⟨rfl, rfl⟩))
  go_ret
  exact ⟨rfl, (Below.refl _ _).alloc (Nat.le_refl _) _⟩
set_option maxRecDepth 100000 in
set_option maxHeartbeats 1000000 in
theorem check_bad (r : RuleD) (w : World) (h : ¬ RuleOk r) : Calls Tryz.prog 30 #[ruleV r] w fun e w' => e = .returned (.int .i64 130) ∧ Below w.heap.size w w' := by
  have HB := Lib.hid h
  clear h
  unfold ruleV
  go_enter Tryz.func30, Tryz.ntmps30
  go_wp2_with ((go_at_call 67; refine (in_any _ _ _ (by decide) _).mono ?_; rintro e w' ⟨rfl, rfl⟩))
  all_goals first
    | (go_ret; exact ⟨rfl, (Below.refl _ _).alloc (Nat.le_refl _) _⟩)
    | (exfalso; apply HB.out; simp_all [RuleOk, inB]; done)
    | (exfalso; apply HB.out; simp_all [RuleOk, inB]; omega)
end Go.Proofs.YtagpclgappcnbaaGreat.Me
namespace Go.Proofs.YtagpclgappcnbaaGreat.Me
open Go.RowKit
theorem ret_two {k : IntKind} {a b a' b' : Int} (h : a = a') (h' : b = b') : Ending.returned (.tuple #[.int k a, .int k b]) = .returned (.tuple #[.int k a', .int k b']) := by rw [h, h']
theorem or_add (a b k : Nat) (h : b < 2 ^ k) : (a * 2 ^ k) ||| b = a * 2 ^ k + b := by
  rw [Nat.mul_comm, ← Nat.two_pow_add_eq_or_of_lt h]
theorem or43 (x : Int) (h0 : 0 ≤ x) (h1 : x < 8796093022208) : bits BinOp.or IntKind.u64 8796093022208 x = 8796093022208 + x := by
  rw [u64_or _ _ (by decide) (by decide) h0 (by omega)]
  have := or_add 1 x.toNat 43 (by omega)
  simp at this
  show (((8796093022208 : Nat) ||| x.toNat : Nat) : Int) = _
  rw [this]
  omega
theorem and_a : bits BinOp.and IntKind.u64 9223372036854775808 4294967295 = 0 := by kernel_rfl
theorem and_b : bits BinOp.and IntKind.u64 9223380832947798016 4294967295 = 0 := by kernel_rfl
theorem div_small (lo y : Int) (h0 : 0 ≤ lo) (h1 : lo ≤ 18446744073709551615) (h2 : 1 ≤ y) (h3 : y ≤ 18446744073709551615) (w : World) :
    Calls Tryz.prog 136 #[.int .u64 0, .int .u64 lo, .int .u64 y] w fun e w' => e = .returned (.tuple #[.int .u64 (lo / y), .int .u64 (lo % y)]) ∧ Below w.heap.size w w' := by
  have g1 : (y == 0) = false := by simp; omega
  go_enter Tryz.func136, Tryz.ntmps136
  go_wp2_with fail
  go_region
  all_goals (go_wp2; go_ret2; exact ⟨rfl, (Below.refl _ _).drew⟩)
theorem lz_a (w : World) : Calls Tryz.prog 139 #[.int .u64 1048576] w fun e w' => e = .returned (.int .i64 43) ∧ w' = w := Tryz.bits_LeadingZeros64 1048576 w (by decide) (by decide)
theorem lz_b (w : World) : Calls Tryz.prog 139 #[.int .u64 1048577] w fun e w' => e = .returned (.int .i64 43) ∧ w' = w := Tryz.bits_LeadingZeros64 1048577 w (by decide) (by decide)
theorem wrapU (x : Int) : IntKind.u64.wrap x = x % 18446744073709551616 := by simp [IntKind.wrap, IntKind.signed, IntKind.bits]
set_option maxRecDepth 100000 in
set_option maxHeartbeats 1000000 in
theorem div_a (lo : Int) (h0 : 0 ≤ lo) (h1 : lo ≤ 18446744073709551615) (w : World) :
    Calls Tryz.prog 136 #[.int .u64 1, .int .u64 lo, .int .u64 1048576] w fun e w' => e = .returned (.tuple #[.int .u64 ((18446744073709551616 + lo) / 1048576), .int .u64 ((18446744073709551616 + lo) % 1048576)]) ∧ Below w.heap.size w w' := by
  obtain ⟨u, l, q, rh, q0, r0, r1, bu0, bu1, bl0, bl1, r2, r3, r4, r5, r6, bq0, bq1, brh0, brh1, r8, r9, r10, bq2, bq3, br0, br1, r11, r12, hfin1, hfin2⟩ : ∃ u l q rh q0 r0 : Int, lo / 2097152 = u ∧ 0 ≤ u ∧ u < 8796093022208 ∧ 0 ≤ l ∧ l < 2097152 ∧ IntKind.u64.wrap (lo * 8796093022208) = l * 8796093022208 ∧ l * 8796093022208 / 4294967296 = l * 2048 ∧
      bits BinOp.and IntKind.u64 (l * 8796093022208) 4294967295 = 0 ∧ (8796093022208 + u) / 2147483648 = q ∧ 8796093022208 + u - q * 2147483648 = rh ∧ 0 ≤ q ∧ q < 8192 ∧ 0 ≤ rh ∧ rh < 2147483648 ∧
      IntKind.u64.wrap (IntKind.u64.wrap (IntKind.u64.wrap ((8796093022208 + u) * 4294967296) + l * 2048) - IntKind.u64.wrap (q * 9223372036854775808)) = rh * 4294967296 + l * 2048 ∧
      (rh * 4294967296 + l * 2048) / 2147483648 = q0 ∧ (rh * 4294967296 + l * 2048) - q0 * 2147483648 = r0 ∧ 0 ≤ q0 ∧ q0 < 4294967296 ∧ 0 ≤ r0 ∧ r0 < 2147483648 ∧
      IntKind.u64.wrap (IntKind.u64.wrap (IntKind.u64.wrap ((rh * 4294967296 + l * 2048) * 4294967296)) - IntKind.u64.wrap (q0 * 9223372036854775808)) = r0 * 4294967296 ∧ r0 * 4294967296 / 8796093022208 = r0 / 2048 ∧
      (18446744073709551616 + lo) / 1048576 = q * 4294967296 + q0 ∧ (18446744073709551616 + lo) % 1048576 = r0 / 2048 := by
    refine ⟨lo / 2097152, lo % 2097152, (8796093022208 + lo / 2097152) / 2147483648, (8796093022208 + lo / 2097152) - (8796093022208 + lo / 2097152) / 2147483648 * 2147483648, _, _, rfl, by omega, by omega, by omega, by omega, ?_, by omega, ?_, rfl, rfl, by omega, by omega, by omega, by omega, ?_, rfl, rfl, by omega, by omega, by omega, by omega, ?_, by omega, by omega, by omega⟩
    · rw [wrapU]; omega
    · rw [u64_and _ _ (by omega) (by omega) (by decide) (by decide)]
      have : ((4294967295 : Int).toNat) = 2 ^ 32 - 1 := by decide
      rw [this, Nat.and_two_pow_sub_one_eq_mod]
      omega
    · simp only [wrapU]; omega
    · simp only [wrapU]; omega
  rw [hfin1, hfin2]
  clear hfin1 hfin2
  have e1 := and_a
  have e2 := or43 u (by omega) (by omega)
  go_enter Tryz.func136, Tryz.ntmps136
  go_wp2_with fail
  refine (lz_a _).mono ?_
  rintro e w' ⟨rfl, hw⟩
  go_wp2_with fail
  clear e1 e2
  refine wp_loop_once ?_
  go_wp2_with fail
  refine wp_loop_once ?_
  go_wp2_with fail

  go_ret2
  exact ⟨rfl, Below.refl _ _⟩
set_option maxRecDepth 100000 in
set_option maxHeartbeats 1000000 in
theorem div_b (lo : Int) (h0 : 0 ≤ lo) (h1 : lo ≤ 18446744073709551615) (w : World) :
    Calls Tryz.prog 136 #[.int .u64 1, .int .u64 lo, .int .u64 1048577] w fun e w' => e = .returned (.tuple #[.int .u64 ((18446744073709551616 + lo) / 1048577), .int .u64 ((18446744073709551616 + lo) % 1048577)]) ∧ Below w.heap.size w w' := by
  obtain ⟨u, l, q, rh, q0, r0, r1, bu0, bu1, bl0, bl1, r2, r3, r4, r5, r6, bq0, bq1, brh0, brh1, r8, r9, r10, bq2, bq3, br0, br1, r11, r12, hfin1, hfin2⟩ : ∃ u l q rh q0 r0 : Int, lo / 2097152 = u ∧ 0 ≤ u ∧ u < 8796093022208 ∧ 0 ≤ l ∧ l < 2097152 ∧ IntKind.u64.wrap (lo * 8796093022208) = l * 8796093022208 ∧ l * 8796093022208 / 4294967296 = l * 2048 ∧
      bits BinOp.and IntKind.u64 (l * 8796093022208) 4294967295 = 0 ∧ (8796093022208 + u) / 2147485696 = q ∧ 8796093022208 + u - q * 2147485696 = rh ∧ 0 ≤ q ∧ q < 8192 ∧ 0 ≤ rh ∧ rh < 2147485696 ∧
      IntKind.u64.wrap (IntKind.u64.wrap (IntKind.u64.wrap ((8796093022208 + u) * 4294967296) + l * 2048) - IntKind.u64.wrap (q * 9223380832947798016)) = rh * 4294967296 + l * 2048 ∧
      (rh * 4294967296 + l * 2048) / 2147485696 = q0 ∧ (rh * 4294967296 + l * 2048) - q0 * 2147485696 = r0 ∧ 0 ≤ q0 ∧ q0 < 4294967296 ∧ 0 ≤ r0 ∧ r0 < 2147485696 ∧
      IntKind.u64.wrap (IntKind.u64.wrap (IntKind.u64.wrap ((rh * 4294967296 + l * 2048) * 4294967296)) - IntKind.u64.wrap (q0 * 9223380832947798016)) = r0 * 4294967296 ∧ r0 * 4294967296 / 8796093022208 = r0 / 2048 ∧
      (18446744073709551616 + lo) / 1048577 = q * 4294967296 + q0 ∧ (18446744073709551616 + lo) % 1048577 = r0 / 2048 := by
    refine ⟨lo / 2097152, lo % 2097152, (8796093022208 + lo / 2097152) / 2147485696, (8796093022208 + lo / 2097152) - (8796093022208 + lo / 2097152) / 2147485696 * 2147485696, _, _, rfl, by omega, by omega, by omega, by omega, ?_, by omega, ?_, rfl, rfl, by omega, by omega, by omega, by omega, ?_, rfl, rfl, by omega, by omega, by omega, by omega, ?_, by omega, by omega, by omega⟩
    · rw [wrapU]; omega
    · rw [u64_and _ _ (by omega) (by omega) (by decide) (by decide)]
      have : ((4294967295 : Int).toNat) = 2 ^ 32 - 1 := by decide
      rw [this, Nat.and_two_pow_sub_one_eq_mod]
      omega
    · simp only [wrapU]; omega
    · simp only [wrapU]; omega
  rw [hfin1, hfin2]
  clear hfin1 hfin2
  have e1 := and_b
  have e2 := or43 u (by omega) (by omega)
  go_enter Tryz.func136, Tryz.ntmps136
  go_wp2_with fail
  refine (lz_b _).mono ?_
  rintro e w' ⟨rfl, hw⟩
  go_wp2_with fail
  clear e1 e2
  refine wp_loop_once ?_
  go_wp2_with fail
  refine wp_loop_once ?_
  go_wp2_with fail

  go_ret2
  exact ⟨rfl, Below.refl _ _⟩
end Go.Proofs.YtagpclgappcnbaaGreat.Me
namespace Go.Proofs.YtagpclgappcnbaaGreat.Me
open Go.RowKit
theorem div_any (p y : Nat) (hy : 1 ≤ y) (hy' : y ≤ 1048577) (h : p < 18446744073709551616 ∨ (p < 36893488147419103232 ∧ (y = 1048576 ∨ y = 1048577))) (w : World) :
    Calls Tryz.prog 136 #[.int .u64 ((p / 18446744073709551616 : Nat) : Int), .int .u64 ((p % 18446744073709551616 : Nat) : Int), .int .u64 (y : Int)] w fun e w' => e = .returned (.tuple #[.int .u64 ((p / y : Nat) : Int), .int .u64 ((p % y : Nat) : Int)]) ∧ Below w.heap.size w w' := by
  by_cases hp : p < 18446744073709551616
  · have e1 : p / 18446744073709551616 = 0 := by omega
    have e2 : p % 18446744073709551616 = p := by omega
    rw [e1, e2]
    have := div_small (p : Int) (y : Int) (by omega) (by omega) (by omega) (by omega) w
    rw [← Int.natCast_ediv, ← Int.natCast_emod] at this
    exact this
  · rcases h with h | ⟨h1, h2⟩
    · exact absurd h hp
    · have e1 : p / 18446744073709551616 = 1 := by omega
      rw [e1]
      rcases h2 with rfl | rfl
      · have := div_a ((p % 18446744073709551616 : Nat) : Int) (by omega) (by omega) w
        rw [show (18446744073709551616 + ((p % 18446744073709551616 : Nat) : Int)) / 1048576 = ((p / 1048576 : Nat) : Int) from by omega,
          show (18446744073709551616 + ((p % 18446744073709551616 : Nat) : Int)) % 1048576 = ((p % 1048576 : Nat) : Int) from by omega] at this
        exact this
      · have := div_b ((p % 18446744073709551616 : Nat) : Int) (by omega) (by omega) w
        rw [show (18446744073709551616 + ((p % 18446744073709551616 : Nat) : Int)) / 1048577 = ((p / 1048577 : Nat) : Int) from by omega,
          show (18446744073709551616 + ((p % 18446744073709551616 : Nat) : Int)) % 1048577 = ((p % 1048577 : Nat) : Int) from by omega] at this
        exact this
theorem prod_bd {w d y : Nat} (h2 : w ≤ y) (h3 : y ≤ 1048577) (h4 : d ≤ 17592186044416) :
    w * d < 18446744073709551616 ∨ (w * d < 36893488147419103232 ∧ (y = 1048576 ∨ y = 1048577)) := by
  have h5 : w * d ≤ w * 17592186044416 := Nat.mul_le_mul_left _ h4
  omega
theorem quo_le {w d y : Nat} (hy : 1 ≤ y) (h2 : w ≤ y) : w * d / y ≤ d := by
  have : w * d ≤ y * d := Nat.mul_le_mul_right _ h2
  calc w * d / y ≤ y * d / y := Nat.div_le_div_right this
    _ = d := Nat.mul_div_cancel_left _ (by omega)
set_option maxRecDepth 100000 in
set_option maxHeartbeats 1000000 in
theorem share_pos (w d y : Nat) (hy : 1 ≤ y) (h2 : w ≤ y) (h3 : y ≤ 1048577) (h4 : d ≤ 17592186044416)  (W : World) :
    Calls Tryz.prog 129 #[.int .i64 w, .int .i64 d, .int .i64 y] W fun e w' => e = .returned (.int .i64 ((w * d / y : Nat) : Int)) ∧ Below W.heap.size W w' := by
  have hp := prod_bd h2 h3 h4
  have hq : w * d / y ≤ 17592186044416 := Nat.le_trans (quo_le hy h2) h4
  have HP := Lib.hid hp
  clear hp
  generalize hQ : w * d / y = Q at hq ⊢
  generalize hR : w * d % y = R at *
  have HQ := Lib.hid hQ
  have HR := Lib.hid hR
  clear hQ hR
  have hm : max (d : Int) (-(d : Int)) = d := by omega
  go_enter Tryz.func129, Tryz.ntmps129
  go_wp2_with fail
  refine (Tryz.bits_Mul64 w d (by omega) (by omega) _).mono ?_
  rintro e w1 ⟨rfl, hw1⟩
  clear hm
  go_wp2_with fail
  refine (div_any (w * d) y hy h3 HP.out _).mono ?_
  rintro e w2 ⟨rfl, hb⟩
  rw [HQ.out, HR.out]
  subst hw1
  go_wp2_with fail
  go_ret
  exact ⟨rfl, hb⟩
set_option maxRecDepth 100000 in
set_option maxHeartbeats 1000000 in
theorem share_neg0 (w d y : Nat) (hy : 1 ≤ y) (h2 : w ≤ y) (h3 : y ≤ 1048577) (h4 : d ≤ 17592186044416) (hd : 1 ≤ d) (hr : w * d % y = 0) (W : World) :
    Calls Tryz.prog 129 #[.int .i64 w, .int .i64 (-(d : Int)), .int .i64 y] W fun e w' => e = .returned (.int .i64 (-((w * d / y : Nat) : Int))) ∧ Below W.heap.size W w' := by
  have hp := prod_bd h2 h3 h4
  have hq : w * d / y ≤ 17592186044416 := Nat.le_trans (quo_le hy h2) h4
  have HP := Lib.hid hp
  clear hp
  generalize hQ : w * d / y = Q at hq ⊢
  generalize hR : w * d % y = R at *
  have HQ := Lib.hid hQ
  have HR := Lib.hid hR
  clear hQ hR
  have hm : max (-(d : Int)) (d : Int) = d := by omega
  go_enter Tryz.func129, Tryz.ntmps129
  go_wp2_with fail
  refine (Tryz.bits_Mul64 w d (by omega) (by omega) _).mono ?_
  rintro e w1 ⟨rfl, hw1⟩
  clear hm
  go_wp2_with fail
  refine (div_any (w * d) y hy h3 HP.out _).mono ?_
  rintro e w2 ⟨rfl, hb⟩
  rw [HQ.out, HR.out]
  subst hw1
  go_wp2_with fail
  go_ret
  exact ⟨rfl, hb⟩
set_option maxRecDepth 100000 in
set_option maxHeartbeats 1000000 in
theorem share_neg1 (w d y : Nat) (hy : 1 ≤ y) (h2 : w ≤ y) (h3 : y ≤ 1048577) (h4 : d ≤ 17592186044416) (hd : 1 ≤ d) (hr : 0 < w * d % y) (W : World) :
    Calls Tryz.prog 129 #[.int .i64 w, .int .i64 (-(d : Int)), .int .i64 y] W fun e w' => e = .returned (.int .i64 (-((w * d / y : Nat) : Int) - 1)) ∧ Below W.heap.size W w' := by
  have hp := prod_bd h2 h3 h4
  have hq : w * d / y ≤ 17592186044416 := Nat.le_trans (quo_le hy h2) h4
  have HP := Lib.hid hp
  clear hp
  have hry : w * d % y < y := Nat.mod_lt _ (by omega)
  generalize hQ : w * d / y = Q at hq ⊢
  generalize hR : w * d % y = R at *
  have HQ := Lib.hid hQ
  have HR := Lib.hid hR
  clear hQ hR
  have hm : max (-(d : Int)) (d : Int) = d := by omega
  go_enter Tryz.func129, Tryz.ntmps129
  go_wp2_with fail
  refine (Tryz.bits_Mul64 w d (by omega) (by omega) _).mono ?_
  rintro e w1 ⟨rfl, hw1⟩
  clear hm
  go_wp2_with fail
  refine (div_any (w * d) y hy h3 HP.out _).mono ?_
  rintro e w2 ⟨rfl, hb⟩
  rw [HQ.out, HR.out]
  subst hw1
  go_wp2_with fail
  go_ret
  exact ⟨rfl, hb⟩
theorem neg_floor0 (p y : Nat) (hy : 0 < y) (h : p % y = 0) : (-(p : Int)) / y = -((p / y : Nat) : Int) := by
  have h1 : y * (p / y) + p % y = p := Nat.div_add_mod p y
  have h2 : ((y : Int) * ((p / y : Nat) : Int)) = p := by rw [h] at h1; exact_mod_cast h1
  exact ((Int.ediv_emod_unique (a := -(p : Int)) (b := y) (r := 0) (q := -((p / y : Nat) : Int)) (by omega)).2 ⟨by rw [Int.mul_neg, h2]; omega, by omega, by omega⟩).1
theorem neg_floor1 (p y : Nat) (hy : 0 < y) (h : 0 < p % y) : (-(p : Int)) / y = -((p / y : Nat) : Int) - 1 := by
  have h1 : y * (p / y) + p % y = p := Nat.div_add_mod p y
  have h3 : p % y < y := Nat.mod_lt _ hy
  have h2 : ((y : Int) * ((p / y : Nat) : Int)) + ((p % y : Nat) : Int) = p := by exact_mod_cast h1
  exact ((Int.ediv_emod_unique (a := -(p : Int)) (b := y) (r := (y : Int) - ((p % y : Nat) : Int)) (q := -((p / y : Nat) : Int) - 1) (by omega)).2 ⟨by rw [Int.mul_sub, Int.mul_neg, Int.mul_one]; omega, by omega, by omega⟩).1
theorem share_any (w diff y : Int) (h1 : 1 ≤ w) (h2 : w ≤ y) (h3 : y ≤ 1048577) (h4 : -17592186044416 ≤ diff) (h5 : diff ≤ 17592186044416) (W : World) :
    Calls Tryz.prog 129 #[.int .i64 w, .int .i64 diff, .int .i64 y] W fun e w' => e = .returned (.int .i64 (w * diff / y)) ∧ Below W.heap.size W w' := by
  obtain ⟨wn, rfl⟩ := Int.eq_ofNat_of_zero_le (show 0 ≤ w by omega)
  obtain ⟨yn, rfl⟩ := Int.eq_ofNat_of_zero_le (show 0 ≤ y by omega)
  by_cases hd : 0 ≤ diff
  · obtain ⟨dn, rfl⟩ := Int.eq_ofNat_of_zero_le hd
    have := share_pos wn dn yn (by omega) (by omega) (by omega) (by omega) W
    rwa [Int.natCast_ediv, Int.natCast_mul] at this
  · obtain ⟨dn, hdn⟩ := Int.eq_ofNat_of_zero_le (show 0 ≤ -diff by omega)
    obtain rfl : diff = -(dn : Int) := by omega
    have e : (wn : Int) * -(dn : Int) = -((wn * dn : Nat) : Int) := by rw [Int.mul_neg, Int.natCast_mul]
    rw [e]
    by_cases hr : wn * dn % yn = 0
    · rw [neg_floor0 _ _ (by omega) hr]
      exact share_neg0 wn dn yn (by omega) (by omega) (by omega) (by omega) (by omega) hr W
    · rw [neg_floor1 _ _ (by omega) (by omega)]
      exact share_neg1 wn dn yn (by omega) (by omega) (by omega) (by omega) (by omega) (by omega) W
end Go.Proofs.YtagpclgappcnbaaGreat.Me
namespace Go.Proofs.YtagpclgappcnbaaGreat.Me
open Go.RowKit

set_option maxRecDepth 100000 in
set_option maxHeartbeats 1000000 in
theorem may_rule (r : RuleD) (m : MeanD) (w : World) (h : ¬ RuleOk r) : Calls Tryz.prog 101 #[ruleV r, meanV m] w fun e w' => e = .returned (.int .i64 130) ∧ Below w.heap.size w w' := by
  have HB := Lib.hid h
  clear h
  unfold ruleV meanV
  go_enter Tryz.func101, Tryz.ntmps101
  go_wp2_with fail
  refine (check_bad r _ HB.out).mono ?_
  rintro e w1 ⟨rfl, hb⟩
  go_wp2_with fail
  go_ret
  exact ⟨rfl, (((Below.refl _ _).alloc (Nat.le_refl _) _).alloc (by simp) _).trans (hb.mono (by simp; omega))⟩
set_option maxRecDepth 100000 in
set_option maxHeartbeats 1000000 in
theorem may_any (r : RuleD) (m : MeanD) (w : World) (h : RuleOk r) : Calls Tryz.prog 101 #[ruleV r, meanV m] w fun e w' => e = .returned (.int .i64 (if 0 ≤ m.value ∧ m.value ≤ 16 * r.max ∧ 0 ≤ m.at_ ∧ m.at_ ≤ 4611686018427387903 then 0 else 130)) ∧ Below w.heap.size w w' := by
  have hr := h
  obtain ⟨h1, h2, h3, h4, h5, h6, h7, h8⟩ := h
  unfold meanV
  go_enter Tryz.func101, Tryz.ntmps101
  unfold ruleV
  go_wp2_with fail
  refine (check_ok r _ hr).mono ?_
  rintro e w1 ⟨rfl, hb⟩
  clear hr
  have hz : w.heap.size + 1 < w1.heap.size := by have := hb.size; simp at this; omega
  have o1 : obj w1 w.heap.size = some (.cells #[.int .i64 r.first, .int .i64 r.min, .int .i64 r.max, .int .i64 r.half, .int .i64 r.quart] 23 (0, 0)) := (obj_below hb (by simp; omega)).trans (by rw [obj_alloc_past _ _ _ (by simp)]; exact obj_alloc_at _ _ _ rfl)
  have o2 : obj w1 (w.heap.size + 1) = some (.cells #[.int .i64 m.value, .int .i64 m.at_] 54 (0, 0)) := (obj_below hb (by simp)).trans (obj_alloc_at _ _ _ (by simp))
  have c2 : w1.cell? ⟨w.heap.size, 2, none⟩ = some (.int .i64 r.max) := cell_at o1 2
  have d0 : w1.cell? ⟨w.heap.size + 1, 0, none⟩ = some (.int .i64 m.value) := cell_at o2 0
  have d1 : w1.cell? ⟨w.heap.size + 1, 1, none⟩ = some (.int .i64 m.at_) := cell_at o2 1
  have hB : Below w.heap.size w w1 := (((Below.refl _ _).alloc (Nat.le_refl _) _).alloc (by simp) _).trans (hb.mono (by simp; omega))
  clear hb
  go_wp2_with ((go_at_call 67; refine (in_any _ _ _ (by omega) _).mono ?_; rintro e w' ⟨rfl, rfl⟩))
  all_goals (go_ret; refine ⟨ret_int ?_, hB⟩; simp_all [inB]; try omega)

/-! ### whole numbers -/
theorem floor_pos {w d y : Int} (hw : 0 ≤ w) (hwy : w ≤ y) (hy : 1 ≤ y) (hd : 0 ≤ d) : 0 ≤ w * d / y ∧ w * d / y ≤ d := by
  constructor
  · exact Int.ediv_nonneg (Int.mul_nonneg hw hd) (by omega)
  · apply Int.ediv_le_of_le_mul (by omega)
    rw [Int.mul_comm d y]
    exact Int.mul_le_mul_of_nonneg_right hwy hd
theorem floor_neg {w d y : Int} (hw : 0 ≤ w) (hwy : w ≤ y) (hy : 1 ≤ y) (hd : d ≤ 0) : d ≤ w * d / y ∧ w * d / y ≤ 0 := by
  constructor
  · apply Int.le_ediv_of_mul_le (by omega)
    rw [Int.mul_comm d y]
    have := Int.mul_le_mul_of_nonneg_right hwy (show 0 ≤ -d by omega)
    rw [Int.mul_neg, Int.mul_neg] at this
    omega
  · have h1 : w * d ≤ 0 := by
      have := Int.mul_nonneg hw (show 0 ≤ -d by omega)
      rw [Int.mul_neg] at this
      omega
    exact Int.ediv_le_of_le_mul (by omega) (by omega)
def obsW (r : RuleD) (m : MeanD) (now : Int) : Int := 1 + min r.half (now - m.at_)
def obsD (r : RuleD) (m : MeanD) (took : Int) : Int := 16 * clip 0 took r.max - m.value
def obsV (r : RuleD) (m : MeanD) (took now : Int) : Int := m.value + obsW r m now * obsD r m took / (r.half + 1)
theorem obs_bd {r : RuleD} {m : MeanD} {took now : Int} (hm : MeanOk r m) (h : m.at_ ≤ now) :
    1 ≤ obsW r m now ∧ obsW r m now ≤ r.half + 1 ∧ -17592186044416 ≤ obsD r m took ∧ obsD r m took ≤ 17592186044416 ∧
    -17592186044416 ≤ obsW r m now * obsD r m took / (r.half + 1) ∧ obsW r m now * obsD r m took / (r.half + 1) ≤ 17592186044416 ∧ 0 ≤ obsV r m took now ∧ obsV r m took now ≤ 16 * r.max := by
  obtain ⟨⟨h1, h2, h3, h4, h5, h6, h7, h8⟩, g1, g2, g3, g4⟩ := hm
  have hc := clip_bd 0 took r.max (by omega)
  have hw1 : 1 ≤ obsW r m now := by unfold obsW; omega
  have hw2 : obsW r m now ≤ r.half + 1 := by unfold obsW; omega
  have hD : obsD r m took = 16 * clip 0 took r.max - m.value := rfl
  have hV : obsV r m took now = m.value + obsW r m now * obsD r m took / (r.half + 1) := rfl
  by_cases hd : 0 ≤ obsD r m took
  · have := floor_pos (w := obsW r m now) (y := r.half + 1) (by omega) hw2 (by omega) hd
    omega
  · have := floor_neg (w := obsW r m now) (y := r.half + 1) (by omega) hw2 (by omega) (by omega : obsD r m took ≤ 0)
    omega
def newV (r : RuleD) : Int := if r.min < r.first then (if 16 * r.max < 64 * (r.first - 1) / r.quart + 1 then 16 * r.max else 64 * (r.first - 1) / r.quart + 1) else 0
def tmoV (r : RuleD) (m : MeanD) : Int := clip r.min ((m.value * r.quart + 63) / 64) r.max

set_option maxRecDepth 100000 in
set_option maxHeartbeats 1000000 in
theorem rcheck_ok (r : RuleD) (w : World) (h : RuleOk r) : Calls Tryz.prog 32 #[ruleV r] w fun e w' => e = .returned (.int .i64 0) ∧ Below w.heap.size w w' := by
  obtain ⟨h1, h2, h3, h4, h5, h6, h7, h8⟩ := h
  unfold ruleV
  go_enter Tryz.func32, Tryz.ntmps32
  go_wp2
  go_ret
  exact ⟨rfl, (Below.refl _ _).alloc (Nat.le_refl _) _⟩
set_option maxRecDepth 100000 in
set_option maxHeartbeats 1000000 in
theorem rcheck_bad (r : RuleD) (w : World) (h : ¬ RuleOk r) : Calls Tryz.prog 32 #[ruleV r] w fun e w' => e = .returned (.int .i64 130) ∧ Below w.heap.size w w' := by
  have HB := Lib.hid h
  clear h
  unfold ruleV
  go_enter Tryz.func32, Tryz.ntmps32
  go_wp2
  all_goals first
    | (go_ret; exact ⟨rfl, (Below.refl _ _).alloc (Nat.le_refl _) _⟩)
    | (exfalso; apply HB.out; simp_all [RuleOk]; done)
    | (exfalso; apply HB.out; simp_all [RuleOk]; omega)
def mayV (r : RuleD) (m : MeanD) : Int := if 0 ≤ m.value ∧ m.value ≤ 16 * r.max ∧ 0 ≤ m.at_ ∧ m.at_ ≤ 4611686018427387903 then 0 else 130
theorem may_ok (r : RuleD) (m : MeanD) (w : World) (h : MeanOk r m) : Calls Tryz.prog 101 #[ruleV r, meanV m] w fun e w' => e = .returned (.int .i64 0) ∧ Below w.heap.size w w' :=
  (may_any r m w h.1).mono fun _ _ ⟨he, hb⟩ => ⟨by rw [he, if_pos h.2], hb⟩
theorem may_bad (r : RuleD) (m : MeanD) (w : World) (h : ¬ MeanOk r m) : Calls Tryz.prog 101 #[ruleV r, meanV m] w fun e w' => e = .returned (.int .i64 130) ∧ Below w.heap.size w w' := by
  by_cases hr : RuleOk r
  · exact (may_any r m w hr).mono fun _ _ ⟨he, hb⟩ => ⟨by rw [he, if_neg (fun h2 => h ⟨hr, h2⟩)], hb⟩
  · exact may_rule r m w hr
set_option maxRecDepth 100000 in
set_option maxHeartbeats 1000000 in
theorem rmay_rule (r : RuleD) (m : MeanD) (w : World) (h : ¬ RuleOk r) : Calls Tryz.prog 91 #[ruleV r, meanV m] w fun e w' => e = .returned (.int .i64 130) ∧ Below w.heap.size w w' := by
  have HB := Lib.hid h
  clear h
  unfold ruleV meanV
  go_enter Tryz.func91, Tryz.ntmps91
  go_wp2_with fail
  refine (rcheck_bad r _ HB.out).mono ?_
  rintro e w1 ⟨rfl, hb⟩
  go_wp2_with fail
  go_ret
  exact ⟨rfl, (((Below.refl _ _).alloc (Nat.le_refl _) _).alloc (by simp) _).trans (hb.mono (by simp; omega))⟩
set_option maxRecDepth 100000 in
set_option maxHeartbeats 1000000 in
theorem rmay_any (r : RuleD) (m : MeanD) (w : World) (h : RuleOk r) : Calls Tryz.prog 91 #[ruleV r, meanV m] w fun e w' => e = .returned (.int .i64 (if 0 ≤ m.value ∧ m.value ≤ 16 * r.max ∧ 0 ≤ m.at_ ∧ m.at_ ≤ 4611686018427387903 then 0 else 130)) ∧ Below w.heap.size w w' := by
  have hr := h
  obtain ⟨h1, h2, h3, h4, h5, h6, h7, h8⟩ := h
  unfold meanV
  go_enter Tryz.func91, Tryz.ntmps91
  unfold ruleV
  go_wp2_with fail
  refine (rcheck_ok r _ hr).mono ?_
  rintro e w1 ⟨rfl, hb⟩
  clear hr
  have hz : w.heap.size + 1 < w1.heap.size := by have := hb.size; simp at this; omega
  have o1 : obj w1 w.heap.size = some (.cells #[.int .i64 r.first, .int .i64 r.min, .int .i64 r.max, .int .i64 r.half, .int .i64 r.quart] 23 (0, 0)) := (obj_below hb (by simp; omega)).trans (by rw [obj_alloc_past _ _ _ (by simp)]; exact obj_alloc_at _ _ _ rfl)
  have o2 : obj w1 (w.heap.size + 1) = some (.cells #[.int .i64 m.value, .int .i64 m.at_] 54 (0, 0)) := (obj_below hb (by simp)).trans (obj_alloc_at _ _ _ (by simp))
  have c2 : w1.cell? ⟨w.heap.size, 2, none⟩ = some (.int .i64 r.max) := cell_at o1 2
  have d0 : w1.cell? ⟨w.heap.size + 1, 0, none⟩ = some (.int .i64 m.value) := cell_at o2 0
  have d1 : w1.cell? ⟨w.heap.size + 1, 1, none⟩ = some (.int .i64 m.at_) := cell_at o2 1
  have hB : Below w.heap.size w w1 := (((Below.refl _ _).alloc (Nat.le_refl _) _).alloc (by simp) _).trans (hb.mono (by simp; omega))
  clear hb
  go_wp2
  all_goals (go_ret; refine ⟨ret_int ?_, hB⟩; simp_all; try omega)
theorem rmay_ok (r : RuleD) (m : MeanD) (w : World) (h : MeanOk r m) : Calls Tryz.prog 91 #[ruleV r, meanV m] w fun e w' => e = .returned (.int .i64 0) ∧ Below w.heap.size w w' :=
  (rmay_any r m w h.1).mono fun _ _ ⟨he, hb⟩ => ⟨by rw [he, if_pos h.2], hb⟩
theorem rmay_bad (r : RuleD) (m : MeanD) (w : World) (h : ¬ MeanOk r m) : Calls Tryz.prog 91 #[ruleV r, meanV m] w fun e w' => e = .returned (.int .i64 130) ∧ Below w.heap.size w w' := by
  by_cases hr : RuleOk r
  · exact (rmay_any r m w hr).mono fun _ _ ⟨he, hb⟩ => ⟨by rw [he, if_neg (fun h2 => h ⟨hr, h2⟩)], hb⟩
  · exact rmay_rule r m w hr
end Go.Proofs.YtagpclgappcnbaaGreat.Me
namespace Go.Proofs.YtagpclgappcnbaaGreat.Me
open Go.RowKit

set_option maxRecDepth 100000 in
set_option maxHeartbeats 1000000 in
theorem tmo_bad (r : RuleD) (m : MeanD) (w : World) (h : ¬ MeanOk r m) : Calls Tryz.prog 58 #[ruleV r, meanV m] w fun e w' => e = .returned (.int .i64 0) ∧ Below w.heap.size w w' := by
  have HB := Lib.hid h
  clear h
  unfold ruleV meanV
  go_enter Tryz.func58, Tryz.ntmps58
  go_wp2_with fail
  refine (may_bad r m _ HB.out).mono ?_
  rintro e w1 ⟨rfl, hb⟩
  go_wp2_with fail
  go_ret
  exact ⟨rfl, (((Below.refl _ _).alloc (Nat.le_refl _) _).alloc (by simp) _).trans (hb.mono (by simp; omega))⟩
theorem mul_bd {a b : Int} {x y : Int} (h0 : 0 ≤ a) (h1 : a ≤ x) (h2 : 0 ≤ b) (h3 : b ≤ y) : 0 ≤ a * b ∧ a * b ≤ x * y :=
  ⟨Int.mul_nonneg h0 h2, Int.mul_le_mul h1 h3 h2 (by omega)⟩
set_option maxRecDepth 100000 in
set_option maxHeartbeats 1000000 in
theorem tmo_ok (r : RuleD) (m : MeanD) (w : World) (h : MeanOk r m) : Calls Tryz.prog 58 #[ruleV r, meanV m] w fun e w' => e = .returned (.int .i64 (tmoV r m)) ∧ Below w.heap.size w w' := by
  have HB := Lib.hid h
  obtain ⟨⟨h1, h2, h3, h4, h5, h6, h7, h8⟩, g1, g2, g3, g4⟩ := h
  have hmul := mul_bd (x := 17592186044416) (y := 64) g1 (by omega) (show 0 ≤ r.quart by omega) h8
  obtain ⟨k1, k2⟩ := hmul
  simp only [Int.reduceMul] at k2
  unfold meanV ruleV
  go_enter Tryz.func58, Tryz.ntmps58
  go_wp2_with fail
  refine (may_ok r m _ HB.out).mono ?_
  rintro e w1 ⟨rfl, hb⟩
  have hz : w.heap.size + 1 < w1.heap.size := by have := hb.size; simp at this; omega
  have o1 : obj w1 w.heap.size = some (.cells #[.int .i64 r.first, .int .i64 r.min, .int .i64 r.max, .int .i64 r.half, .int .i64 r.quart] 23 (0, 0)) := (obj_below hb (by simp; omega)).trans (by rw [obj_alloc_past _ _ _ (by simp)]; exact obj_alloc_at _ _ _ rfl)
  have o2 : obj w1 (w.heap.size + 1) = some (.cells #[.int .i64 m.value, .int .i64 m.at_] 54 (0, 0)) := (obj_below hb (by simp)).trans (obj_alloc_at _ _ _ (by simp))
  have c1 : w1.cell? ⟨w.heap.size, 1, none⟩ = some (.int .i64 r.min) := cell_at o1 1
  have c2 : w1.cell? ⟨w.heap.size, 2, none⟩ = some (.int .i64 r.max) := cell_at o1 2
  have c4 : w1.cell? ⟨w.heap.size, 4, none⟩ = some (.int .i64 r.quart) := cell_at o1 4
  have d0 : w1.cell? ⟨w.heap.size + 1, 0, none⟩ = some (.int .i64 m.value) := cell_at o2 0
  have hB : Below w.heap.size w w1 := (((Below.refl _ _).alloc (Nat.le_refl _) _).alloc (by simp) _).trans (hb.mono (by simp; omega))
  clear hb
  go_wp2_with fail
  refine (between_any _ _ _ (by omega) _).mono ?_
  rintro e w' ⟨rfl, rfl⟩
  go_wp2_with fail
  go_ret
  exact ⟨ret_int (by unfold tmoV; rw [show m.value * r.quart + 64 - 1 = m.value * r.quart + 63 from by omega]), hB⟩
set_option maxRecDepth 100000 in
set_option maxHeartbeats 1000000 in
theorem obs_ok (r : RuleD) (m : MeanD) (took now : Int) (w : World) (h : MeanOk r m) (hn1 : m.at_ ≤ now) (hn2 : now ≤ 4611686018427387903) : Calls Tryz.prog 104 #[ruleV r, meanV m, .int .i64 took, .int .i64 now] w fun e w' => e = .returned (.tuple #[meanV ⟨obsV r m took now, now⟩, .int .i64 0]) ∧ Below w.heap.size w w' := by
  have HB := Lib.hid h
  obtain ⟨⟨h1, h2, h3, h4, h5, h6, h7, h8⟩, g1, g2, g3, g4⟩ := h
  unfold meanV ruleV
  go_enter Tryz.func104, Tryz.ntmps104
  go_wp2_with fail
  refine (may_ok r m _ HB.out).mono ?_
  rintro e w1 ⟨rfl, hb⟩
  have hz : w.heap.size + 2 < w1.heap.size := by have := hb.size; simp at this; omega
  have o1 : obj w1 w.heap.size = some (.cells #[.int .i64 r.first, .int .i64 r.min, .int .i64 r.max, .int .i64 r.half, .int .i64 r.quart] 23 (0, 0)) := (obj_below hb (by simp; omega)).trans (by rw [obj_alloc_past _ _ _ (by simp; omega), obj_alloc_past _ _ _ (by simp)]; exact obj_alloc_at _ _ _ rfl)
  have o2 : obj w1 (w.heap.size + 1) = some (.cells #[.int .i64 m.value, .int .i64 m.at_] 54 (0, 0)) := (obj_below hb (by simp)).trans (by rw [obj_alloc_past _ _ _ (by simp)]; exact obj_alloc_at _ _ _ (by simp))
  have o3 : obj w1 (w.heap.size + 2) = some (.cells #[.int .i64 0, .int .i64 0] 54 (0, 0)) := (obj_below hb (by simp)).trans (obj_alloc_at _ _ _ (by simp))
  have c2 : w1.cell? ⟨w.heap.size, 2, none⟩ = some (.int .i64 r.max) := cell_at o1 2
  have c3 : w1.cell? ⟨w.heap.size, 3, none⟩ = some (.int .i64 r.half) := cell_at o1 3
  have d0 : w1.cell? ⟨w.heap.size + 1, 0, none⟩ = some (.int .i64 m.value) := cell_at o2 0
  have d1 : w1.cell? ⟨w.heap.size + 1, 1, none⟩ = some (.int .i64 m.at_) := cell_at o2 1
  have f0 : w1.cell? ⟨w.heap.size + 1 + 1, 0, none⟩ = some (.int .i64 0) := cell_at o3 0
  have f1 : w1.cell? ⟨w.heap.size + 1 + 1, 1, none⟩ = some (.int .i64 0) := cell_at o3 1
  have ff : ∀ i, w1.frozen? ⟨w.heap.size + 1 + 1, i, none⟩ = false := frozen_at o3
  have hB : Below w.heap.size w w1 := ((((Below.refl _ _).alloc (Nat.le_refl _) _).alloc (by simp) _).alloc (by simp; omega) _).trans (hb.mono (by simp; omega))
  clear hb o1 o2
  have hs0 : w.heap.size < w1.heap.size := by omega
  have hs1 : w.heap.size + 1 < w1.heap.size := by omega
  have hs2 : w.heap.size + 1 + 1 < w1.heap.size := by omega
  go_wp2_with ((go_at_call 67; refine (in_yes _ _ _ (by omega) (by omega) _).mono ?_; rintro e w' ⟨rfl, rfl⟩))
  have hcl := clip_bd 0 took r.max (by omega)
  go_quiet ((go_at_call 102; exact Calls.quiet_of_same ((between_any _ _ _ (by omega) _).mono fun _ _ ⟨he, hw⟩ => ⟨he, hw.symm⟩)))
  go_wp2_with fail
  have hbd := obs_bd (took := took) HB.out hn1
  simp only [obsW, obsD, obsV] at hbd
  obtain ⟨x1, x2, x3, x4, x5, x6, x7, x8⟩ := hbd
  refine wp_region_later_tail w1 (below_drewN (Below.refl _ _) _) 11 (by kernel_rfl) (by kernel_rfl) ?_
  simp only [List.take_succ_cons, List.take_zero, List.drop_succ_cons, List.drop_zero]
  repeat (go_big_quiet_step ((go_at_call 129; exact Calls.later (share_any _ _ _ (by omega) (by omega) (by omega) (by omega) (by omega) _))))
  refine wpQuiet_nil ?_
  intro _ hx
  obtain ⟨⟨w3, hb3⟩, hx⟩ := hx
  subst hx
  rename_i w3
  have hz3 := hb3.size
  have o3' := (obj_below hb3 hs2).trans o3
  have f0' : w3.cell? ⟨w.heap.size + 1 + 1, 0, none⟩ = some (.int .i64 0) := cell_at o3' 0
  have f1' : w3.cell? ⟨w.heap.size + 1 + 1, 1, none⟩ = some (.int .i64 0) := cell_at o3' 1
  have ff' : ∀ i, w3.frozen? ⟨w.heap.size + 1 + 1, i, none⟩ = false := frozen_at o3'
  have hB3 : Below w.heap.size w w3 := hB.trans (hb3.mono hB.size)
  have hz3' : w1.heap.size ≤ w3.heap.size := hz3
  clear hb3
  go_wp2_with fail
  have q := obj_setCell_at (.int .i64 now) (i := 1) (obj_setCell_at (.int .i64 (obsV r m took now)) (i := 0) o3')
  have q0 := cell_at q 0
  have q1 := cell_at q 1
  simp only [obsV, obsW, obsD] at q0 q1
  simp at q0 q1
  refine bodyPost_ret (v := .tuple #[meanV ⟨obsV r m took now, now⟩, .int .i64 0]) (by simp [results, Tryz.results104, go_sem, meanV, obsV, obsW, obsD, q0, q1]) rfl ⟨rfl, ?_⟩
  exact (hB3.setCell (by simp; omega) _).setCell (by simp; omega) _
set_option maxRecDepth 100000 in
set_option maxHeartbeats 1000000 in
theorem obs_bad (r : RuleD) (m : MeanD) (took now : Int) (w : World) (h : ¬ MeanOk r m) : Calls Tryz.prog 104 #[ruleV r, meanV m, .int .i64 took, .int .i64 now] w fun e w' => e = .returned (.tuple #[meanV ⟨0, 0⟩, .int .i64 130]) ∧ Below w.heap.size w w' := by
  have HB := Lib.hid h
  clear h
  unfold meanV ruleV
  go_enter Tryz.func104, Tryz.ntmps104
  go_wp2_with fail
  refine (may_bad r m _ HB.out).mono ?_
  rintro e w1 ⟨rfl, hb⟩
  have hz : w.heap.size + 2 < w1.heap.size := by have := hb.size; simp at this; omega
  have o3 : obj w1 (w.heap.size + 1 + 1) = some (.cells #[.int .i64 0, .int .i64 0] 54 (0, 0)) := (obj_below hb (by simp)).trans (obj_alloc_at _ _ _ (by simp))
  have f0 : w1.cell? ⟨w.heap.size + 1 + 1, 0, none⟩ = some (.int .i64 0) := cell_at o3 0
  have f1 : w1.cell? ⟨w.heap.size + 1 + 1, 1, none⟩ = some (.int .i64 0) := cell_at o3 1
  have ff : ∀ i, w1.frozen? ⟨w.heap.size + 1 + 1, i, none⟩ = false := frozen_at o3
  have hB : Below w.heap.size w w1 := ((((Below.refl _ _).alloc (Nat.le_refl _) _).alloc (by simp) _).alloc (by simp; omega) _).trans (hb.mono (by simp; omega))
  clear hb
  go_wp2_with fail
  have q := obj_setCell_at (.int .i64 0) (i := 1) (obj_setCell_at (.int .i64 0) (i := 0) o3)
  have q0 := cell_at q 0
  have q1 := cell_at q 1
  simp at q0 q1
  refine bodyPost_ret (v := .tuple #[meanV ⟨0, 0⟩, .int .i64 130]) (by simp [results, Tryz.results104, go_sem, meanV, q0, q1]) rfl ⟨rfl, ?_⟩
  exact (hB.setCell (by simp; omega) _).setCell (by simp; omega) _
set_option maxRecDepth 100000 in
set_option maxHeartbeats 1000000 in
theorem obs_past (r : RuleD) (m : MeanD) (took now : Int) (w : World) (h : MeanOk r m) (hn : ¬ (m.at_ ≤ now ∧ now ≤ 4611686018427387903)) : Calls Tryz.prog 104 #[ruleV r, meanV m, .int .i64 took, .int .i64 now] w fun e w' => e = .returned (.tuple #[meanV ⟨0, 0⟩, .int .i64 131]) ∧ Below w.heap.size w w' := by
  have HB := Lib.hid h
  obtain ⟨⟨h1, h2, h3, h4, h5, h6, h7, h8⟩, g1, g2, g3, g4⟩ := h
  unfold meanV ruleV
  go_enter Tryz.func104, Tryz.ntmps104
  go_wp2_with fail
  refine (may_ok r m _ HB.out).mono ?_
  rintro e w1 ⟨rfl, hb⟩
  have hz : w.heap.size + 2 < w1.heap.size := by have := hb.size; simp at this; omega
  have o2 : obj w1 (w.heap.size + 1) = some (.cells #[.int .i64 m.value, .int .i64 m.at_] 54 (0, 0)) := (obj_below hb (by simp)).trans (by rw [obj_alloc_past _ _ _ (by simp)]; exact obj_alloc_at _ _ _ (by simp))
  have o3 : obj w1 (w.heap.size + 1 + 1) = some (.cells #[.int .i64 0, .int .i64 0] 54 (0, 0)) := (obj_below hb (by simp)).trans (obj_alloc_at _ _ _ (by simp))
  have d1 : w1.cell? ⟨w.heap.size + 1, 1, none⟩ = some (.int .i64 m.at_) := cell_at o2 1
  have f0 : w1.cell? ⟨w.heap.size + 1 + 1, 0, none⟩ = some (.int .i64 0) := cell_at o3 0
  have f1 : w1.cell? ⟨w.heap.size + 1 + 1, 1, none⟩ = some (.int .i64 0) := cell_at o3 1
  have ff : ∀ i, w1.frozen? ⟨w.heap.size + 1 + 1, i, none⟩ = false := frozen_at o3
  have hB : Below w.heap.size w w1 := ((((Below.refl _ _).alloc (Nat.le_refl _) _).alloc (by simp) _).alloc (by simp; omega) _).trans (hb.mono (by simp; omega))
  clear hb
  go_wp2_with ((go_at_call 67; refine (in_no _ _ _ (by omega) (by omega) _).mono ?_; rintro e w' ⟨rfl, rfl⟩))
  have q := obj_setCell_at (.int .i64 0) (i := 1) (obj_setCell_at (.int .i64 0) (i := 0) o3)
  have q0 := cell_at q 0
  have q1 := cell_at q 1
  simp at q0 q1
  refine bodyPost_ret (v := .tuple #[meanV ⟨0, 0⟩, .int .i64 131]) (by simp [results, Tryz.results104, go_sem, meanV, q0, q1]) rfl ⟨rfl, ?_⟩
  exact (hB.setCell (by simp; omega) _).setCell (by simp; omega) _
end Go.Proofs.YtagpclgappcnbaaGreat.Me
namespace Go.Proofs.YtagpclgappcnbaaGreat.Me
open Go.RowKit

theorem rem64 (n : Int) (h : 0 ≤ n) : Int.tmod n 64 = n % 64 := Int.tmod_eq_emod_of_nonneg h
set_option maxRecDepth 100000 in
set_option maxHeartbeats 1000000 in
theorem raw_any (r : RuleD) (v : Int) (w : World) (hq1 : 1 ≤ r.quart) (hq2 : r.quart ≤ 64) (h1 : 0 ≤ v) (h2 : v ≤ 17592186044416) : Calls Tryz.prog 70 #[ruleV r, .int .i64 v] w fun e w' => e = .returned (.int .i64 ((v * r.quart + 63) / 64)) ∧ Below w.heap.size w w' := by
  obtain ⟨k1, k2⟩ := mul_bd (x := 17592186044416) (y := 64) h1 h2 (show 0 ≤ r.quart by omega) hq2
  simp only [Int.reduceMul] at k2
  unfold ruleV
  go_enter Tryz.func70, Tryz.ntmps70
  go_wp2_with fail
  all_goals (go_ret; refine ⟨ret_int ?_, (Below.refl _ _).alloc (Nat.le_refl _) _⟩; simp_all; omega)
set_option maxRecDepth 100000 in
set_option maxHeartbeats 1000000 in
theorem new_bad (r : RuleD) (now : Int) (w : World) (h : ¬ RuleOk r) : Calls Tryz.prog 22 #[ruleV r, .int .i64 now] w fun e w' => e = .returned (.tuple #[meanV ⟨0, 0⟩, .int .i64 130]) ∧ Below w.heap.size w w' := by
  have HB := Lib.hid h
  clear h
  unfold ruleV
  go_enter Tryz.func22, Tryz.ntmps22
  go_wp2_with fail
  refine (check_bad r _ HB.out).mono ?_
  rintro e w1 ⟨rfl, hb⟩
  have hz : w.heap.size + 1 < w1.heap.size := by have := hb.size; simp at this; omega
  have o3 : obj w1 (w.heap.size + 1) = some (.cells #[.int .i64 0, .int .i64 0] 54 (0, 0)) := (obj_below hb (by simp)).trans (obj_alloc_at _ _ _ (by simp))
  have f0 : w1.cell? ⟨w.heap.size + 1, 0, none⟩ = some (.int .i64 0) := cell_at o3 0
  have f1 : w1.cell? ⟨w.heap.size + 1, 1, none⟩ = some (.int .i64 0) := cell_at o3 1
  have ff : ∀ i, w1.frozen? ⟨w.heap.size + 1, i, none⟩ = false := frozen_at o3
  have hB : Below w.heap.size w w1 := (((Below.refl _ _).alloc (Nat.le_refl _) _).alloc (by simp) _).trans (hb.mono (by simp; omega))
  clear hb
  go_wp2_with fail
  have q := obj_setCell_at (.int .i64 0) (i := 1) (obj_setCell_at (.int .i64 0) (i := 0) o3)
  have q0 := cell_at q 0
  have q1 := cell_at q 1
  simp at q0 q1
  refine bodyPost_ret (v := .tuple #[meanV ⟨0, 0⟩, .int .i64 130]) (by simp [results, Tryz.results22, go_sem, meanV, q0, q1]) rfl ⟨rfl, ?_⟩
  exact (hB.setCell (by simp) _).setCell (by simp) _
set_option maxRecDepth 100000 in
set_option maxHeartbeats 1000000 in
theorem new_past (r : RuleD) (now : Int) (w : World) (h : RuleOk r) (hn : ¬ (0 ≤ now ∧ now ≤ 4611686018427387903)) : Calls Tryz.prog 22 #[ruleV r, .int .i64 now] w fun e w' => e = .returned (.tuple #[meanV ⟨0, 0⟩, .int .i64 131]) ∧ Below w.heap.size w w' := by
  have HB := Lib.hid h
  clear h
  unfold ruleV
  go_enter Tryz.func22, Tryz.ntmps22
  go_wp2_with fail
  refine (check_ok r _ HB.out).mono ?_
  rintro e w1 ⟨rfl, hb⟩
  have hz : w.heap.size + 1 < w1.heap.size := by have := hb.size; simp at this; omega
  have o3 : obj w1 (w.heap.size + 1) = some (.cells #[.int .i64 0, .int .i64 0] 54 (0, 0)) := (obj_below hb (by simp)).trans (obj_alloc_at _ _ _ (by simp))
  have f0 : w1.cell? ⟨w.heap.size + 1, 0, none⟩ = some (.int .i64 0) := cell_at o3 0
  have f1 : w1.cell? ⟨w.heap.size + 1, 1, none⟩ = some (.int .i64 0) := cell_at o3 1
  have ff : ∀ i, w1.frozen? ⟨w.heap.size + 1, i, none⟩ = false := frozen_at o3
  have hB : Below w.heap.size w w1 := (((Below.refl _ _).alloc (Nat.le_refl _) _).alloc (by simp) _).trans (hb.mono (by simp; omega))
  clear hb
  go_wp2_with ((go_at_call 67; refine (in_no _ _ _ (by omega) (by omega) _).mono ?_; rintro e w' ⟨rfl, rfl⟩))
  have q := obj_setCell_at (.int .i64 0) (i := 1) (obj_setCell_at (.int .i64 0) (i := 0) o3)
  have q0 := cell_at q 0
  have q1 := cell_at q 1
  simp at q0 q1
  refine bodyPost_ret (v := .tuple #[meanV ⟨0, 0⟩, .int .i64 131]) (by simp [results, Tryz.results22, go_sem, meanV, q0, q1]) rfl ⟨rfl, ?_⟩
  exact (hB.setCell (by simp) _).setCell (by simp) _
set_option maxRecDepth 100000 in
set_option maxHeartbeats 1000000 in
theorem new_ok (r : RuleD) (now : Int) (w : World) (h : RuleOk r) (hn1 : 0 ≤ now) (hn2 : now ≤ 4611686018427387903) : Calls Tryz.prog 22 #[ruleV r, .int .i64 now] w fun e w' => e = .returned (.tuple #[meanV ⟨newV r, now⟩, .int .i64 0]) ∧ Below w.heap.size w w' := by
  have HB := Lib.hid h
  obtain ⟨h1, h2, h3, h4, h5, h6, h7, h8⟩ := h
  unfold ruleV
  go_enter Tryz.func22, Tryz.ntmps22
  go_wp2_with fail
  refine (check_ok r _ HB.out).mono ?_
  rintro e w1 ⟨rfl, hb⟩
  have hz : w.heap.size + 1 < w1.heap.size := by have := hb.size; simp at this; omega
  have o1 : obj w1 w.heap.size = some (.cells #[.int .i64 r.first, .int .i64 r.min, .int .i64 r.max, .int .i64 r.half, .int .i64 r.quart] 23 (0, 0)) := (obj_below hb (by simp; omega)).trans (by rw [obj_alloc_past _ _ _ (by simp)]; exact obj_alloc_at _ _ _ rfl)
  have o3 : obj w1 (w.heap.size + 1) = some (.cells #[.int .i64 0, .int .i64 0] 54 (0, 0)) := (obj_below hb (by simp)).trans (obj_alloc_at _ _ _ (by simp))
  have c0 : w1.cell? ⟨w.heap.size, 0, none⟩ = some (.int .i64 r.first) := cell_at o1 0
  have c1 : w1.cell? ⟨w.heap.size, 1, none⟩ = some (.int .i64 r.min) := cell_at o1 1
  have c2 : w1.cell? ⟨w.heap.size, 2, none⟩ = some (.int .i64 r.max) := cell_at o1 2
  have c4 : w1.cell? ⟨w.heap.size, 4, none⟩ = some (.int .i64 r.quart) := cell_at o1 4
  have f0 : w1.cell? ⟨w.heap.size + 1, 0, none⟩ = some (.int .i64 0) := cell_at o3 0
  have f1 : w1.cell? ⟨w.heap.size + 1, 1, none⟩ = some (.int .i64 0) := cell_at o3 1
  have ff : ∀ i, w1.frozen? ⟨w.heap.size + 1, i, none⟩ = false := frozen_at o3
  have hB : Below w.heap.size w w1 := (((Below.refl _ _).alloc (Nat.le_refl _) _).alloc (by simp) _).trans (hb.mono (by simp; omega))
  clear hb o1
  have hs0 : w.heap.size < w1.heap.size := by omega
  have hs1 : w.heap.size + 1 < w1.heap.size := by omega
  have hq := floor_pos (w := 1) (d := 64 * (r.first - 1)) (y := r.quart) (by omega) (by omega) (by omega) (by omega)
  rw [Int.one_mul] at hq
  obtain ⟨hq0, hq1⟩ := hq
  go_wp2_with ((go_at_call 67; refine (in_yes _ _ _ (by omega) (by omega) _).mono ?_; rintro e w' ⟨rfl, rfl⟩))
  · refine wp_region_quiet_tail 13 (by kernel_rfl) (by kernel_rfl) ?_
    simp only [List.take_succ_cons, List.take_zero, List.drop_succ_cons, List.drop_zero]
    repeat (go_big_quiet_step (fail))
    refine wpQuiet_nil ?_
    go_wp2_with fail
    have hV : newV r = min (64 * (r.first - 1) / r.quart + 1) (16 * r.max) := by
      unfold newV
      rw [if_pos (by assumption)]
      split <;> omega
    have q := obj_setCell_at (.int .i64 now) (i := 1) (obj_setCell_at (.int .i64 (min (64 * (r.first - 1) / r.quart + 1) (16 * r.max))) (i := 0) o3)
    have q' := (obj_alloc_past _ (.cells #[.int .i64 (min (64 * (r.first - 1) / r.quart + 1) (16 * r.max)), .int .i64 now] 54 (0, 0)) _ (by simpa using hs1)).trans q
    have q0 := cell_at q' 0
    have q1 := cell_at q' 1
    simp at q0 q1
    refine bodyPost_ret (v := .tuple #[meanV ⟨newV r, now⟩, .int .i64 0]) (by simp [results, Tryz.results22, go_sem, meanV, hV, q0, q1]) rfl ⟨rfl, ?_⟩
    exact (((hB.setCell (by simp) _).setCell (by simp) _).alloc (by simp; omega) _).drew
  · have hV : newV r = 0 := by
      unfold newV
      rw [if_neg (by first | assumption | simp_all)]
    have q := obj_setCell_at (.int .i64 now) (i := 1) (obj_setCell_at (.int .i64 0) (i := 0) o3)
    have q' := (obj_alloc_past _ (.cells #[.int .i64 0, .int .i64 now] 54 (0, 0)) _ (by simpa using hs1)).trans q
    have q0 := cell_at q' 0
    have q1 := cell_at q' 1
    simp at q0 q1
    refine bodyPost_ret (v := .tuple #[meanV ⟨newV r, now⟩, .int .i64 0]) (by simp [results, Tryz.results22, go_sem, meanV, hV, q0, q1]) rfl ⟨rfl, ?_⟩
    exact ((hB.setCell (by simp) _).setCell (by simp) _).alloc (by simp; omega) _
end Go.Proofs.YtagpclgappcnbaaGreat.Me
namespace Go.Proofs.YtagpclgappcnbaaGreat.Me
open Go.RowKit

set_option maxRecDepth 100000 in
set_option maxHeartbeats 1000000 in
theorem rtmo_bad (r : RuleD) (m : MeanD) (w : World) (h : ¬ MeanOk r m) : Calls Tryz.prog 47 #[ruleV r, meanV m] w fun e w' => e = .returned (.int .i64 0) ∧ Below w.heap.size w w' := by
  have HB := Lib.hid h
  clear h
  unfold ruleV meanV
  go_enter Tryz.func47, Tryz.ntmps47
  go_wp2_with fail
  refine (rmay_bad r m _ HB.out).mono ?_
  rintro e w1 ⟨rfl, hb⟩
  go_wp2_with fail
  go_ret
  exact ⟨rfl, (((Below.refl _ _).alloc (Nat.le_refl _) _).alloc (by simp) _).trans (hb.mono (by simp; omega))⟩
set_option maxRecDepth 100000 in
set_option maxHeartbeats 1000000 in
theorem rtmo_ok (r : RuleD) (m : MeanD) (w : World) (h : MeanOk r m) : Calls Tryz.prog 47 #[ruleV r, meanV m] w fun e w' => e = .returned (.int .i64 (tmoV r m)) ∧ Below w.heap.size w w' := by
  have HB := Lib.hid h
  obtain ⟨⟨h1, h2, h3, h4, h5, h6, h7, h8⟩, g1, g2, g3, g4⟩ := h
  obtain ⟨k1, k2⟩ := mul_bd (x := 17592186044416) (y := 64) g1 (by omega) (show 0 ≤ r.quart by omega) h8
  simp only [Int.reduceMul] at k2
  unfold meanV ruleV
  go_enter Tryz.func47, Tryz.ntmps47
  go_wp2_with fail
  refine (rmay_ok r m _ HB.out).mono ?_
  rintro e w1 ⟨rfl, hb⟩
  have hz : w.heap.size + 1 < w1.heap.size := by have := hb.size; simp at this; omega
  have o1 : obj w1 w.heap.size = some (.cells #[.int .i64 r.first, .int .i64 r.min, .int .i64 r.max, .int .i64 r.half, .int .i64 r.quart] 23 (0, 0)) := (obj_below hb (by simp; omega)).trans (by rw [obj_alloc_past _ _ _ (by simp)]; exact obj_alloc_at _ _ _ rfl)
  have o2 : obj w1 (w.heap.size + 1) = some (.cells #[.int .i64 m.value, .int .i64 m.at_] 54 (0, 0)) := (obj_below hb (by simp)).trans (obj_alloc_at _ _ _ (by simp))
  have c0 : w1.cell? ⟨w.heap.size, 0, none⟩ = some (.int .i64 r.first) := cell_at o1 0
  have c1 : w1.cell? ⟨w.heap.size, 1, none⟩ = some (.int .i64 r.min) := cell_at o1 1
  have c2 : w1.cell? ⟨w.heap.size, 2, none⟩ = some (.int .i64 r.max) := cell_at o1 2
  have c3 : w1.cell? ⟨w.heap.size, 3, none⟩ = some (.int .i64 r.half) := cell_at o1 3
  have c4 : w1.cell? ⟨w.heap.size, 4, none⟩ = some (.int .i64 r.quart) := cell_at o1 4
  have d0 : w1.cell? ⟨w.heap.size + 1, 0, none⟩ = some (.int .i64 m.value) := cell_at o2 0
  have hB : Below w.heap.size w w1 := (((Below.refl _ _).alloc (Nat.le_refl _) _).alloc (by simp) _).trans (hb.mono (by simp; omega))
  have hs0 : w.heap.size < w1.heap.size := by omega
  have hs1 : w.heap.size + 1 < w1.heap.size := by omega
  clear hb
  go_wp2_with fail
  refine wp_region_later w1 (Below.refl _ _) (by kernel_rfl) (by kernel_rfl) ?_
  repeat (go_big_quiet_step ((go_at_call 70; exact Calls.later (raw_any r _ _ (by omega) (by omega) (by omega) (by omega)))))
  refine wpQuiet_nil ?_
  intro _ hx
  obtain ⟨⟨w3, hb3⟩, hx⟩ := hx
  subst hx
  rename_i w3
  have hB3 : Below w.heap.size w w3 := hB.trans (hb3.mono hB.size)
  go_wp2_with fail
  go_ret
  exact ⟨ret_int (by unfold tmoV clip; omega), hB3⟩
set_option maxRecDepth 100000 in
set_option maxHeartbeats 1000000 in
theorem robs_bad (r : RuleD) (m : MeanD) (took now : Int) (w : World) (h : ¬ MeanOk r m) : Calls Tryz.prog 78 #[ruleV r, meanV m, .int .i64 took, .int .i64 now] w fun e w' => e = .returned (.tuple #[meanV ⟨0, 0⟩, .int .i64 130]) ∧ Below w.heap.size w w' := by
  have HB := Lib.hid h
  clear h
  unfold meanV ruleV
  go_enter Tryz.func78, Tryz.ntmps78
  go_wp2_with fail
  refine (rmay_bad r m _ HB.out).mono ?_
  rintro e w1 ⟨rfl, hb⟩
  have hz : w.heap.size + 2 < w1.heap.size := by have := hb.size; simp at this; omega
  have o3 : obj w1 (w.heap.size + 1 + 1) = some (.cells #[.int .i64 0, .int .i64 0] 54 (0, 0)) := (obj_below hb (by simp)).trans (obj_alloc_at _ _ _ (by simp))
  have f0 : w1.cell? ⟨w.heap.size + 1 + 1, 0, none⟩ = some (.int .i64 0) := cell_at o3 0
  have f1 : w1.cell? ⟨w.heap.size + 1 + 1, 1, none⟩ = some (.int .i64 0) := cell_at o3 1
  have ff : ∀ i, w1.frozen? ⟨w.heap.size + 1 + 1, i, none⟩ = false := frozen_at o3
  have hB : Below w.heap.size w w1 := ((((Below.refl _ _).alloc (Nat.le_refl _) _).alloc (by simp) _).alloc (by simp; omega) _).trans (hb.mono (by simp; omega))
  clear hb
  go_wp2_with fail
  have q := obj_setCell_at (.int .i64 0) (i := 1) (obj_setCell_at (.int .i64 0) (i := 0) o3)
  have q0 := cell_at q 0
  have q1 := cell_at q 1
  simp at q0 q1
  refine bodyPost_ret (v := .tuple #[meanV ⟨0, 0⟩, .int .i64 130]) (by simp [results, Tryz.results78, go_sem, meanV, q0, q1]) rfl ⟨rfl, ?_⟩
  exact (hB.setCell (by simp; omega) _).setCell (by simp; omega) _
set_option maxRecDepth 100000 in
set_option maxHeartbeats 1000000 in
theorem robs_past (r : RuleD) (m : MeanD) (took now : Int) (w : World) (h : MeanOk r m) (hn : ¬ (m.at_ ≤ now ∧ now ≤ 4611686018427387903)) : Calls Tryz.prog 78 #[ruleV r, meanV m, .int .i64 took, .int .i64 now] w fun e w' => e = .returned (.tuple #[meanV ⟨0, 0⟩, .int .i64 131]) ∧ Below w.heap.size w w' := by
  have HB := Lib.hid h
  obtain ⟨⟨h1, h2, h3, h4, h5, h6, h7, h8⟩, g1, g2, g3, g4⟩ := h
  unfold meanV ruleV
  go_enter Tryz.func78, Tryz.ntmps78
  go_wp2_with fail
  refine (rmay_ok r m _ HB.out).mono ?_
  rintro e w1 ⟨rfl, hb⟩
  have hz : w.heap.size + 2 < w1.heap.size := by have := hb.size; simp at this; omega
  have o2 : obj w1 (w.heap.size + 1) = some (.cells #[.int .i64 m.value, .int .i64 m.at_] 54 (0, 0)) := (obj_below hb (by simp)).trans (by rw [obj_alloc_past _ _ _ (by simp)]; exact obj_alloc_at _ _ _ (by simp))
  have o3 : obj w1 (w.heap.size + 1 + 1) = some (.cells #[.int .i64 0, .int .i64 0] 54 (0, 0)) := (obj_below hb (by simp)).trans (obj_alloc_at _ _ _ (by simp))
  have d1 : w1.cell? ⟨w.heap.size + 1, 1, none⟩ = some (.int .i64 m.at_) := cell_at o2 1
  have f0 : w1.cell? ⟨w.heap.size + 1 + 1, 0, none⟩ = some (.int .i64 0) := cell_at o3 0
  have f1 : w1.cell? ⟨w.heap.size + 1 + 1, 1, none⟩ = some (.int .i64 0) := cell_at o3 1
  have ff : ∀ i, w1.frozen? ⟨w.heap.size + 1 + 1, i, none⟩ = false := frozen_at o3
  have hB : Below w.heap.size w w1 := ((((Below.refl _ _).alloc (Nat.le_refl _) _).alloc (by simp) _).alloc (by simp; omega) _).trans (hb.mono (by simp; omega))
  clear hb
  by_cases hlt : now < m.at_ <;> go_wp2_with fail
  all_goals
    have q := obj_setCell_at (.int .i64 0) (i := 1) (obj_setCell_at (.int .i64 0) (i := 0) o3)
    have q0 := cell_at q 0
    have q1 := cell_at q 1
    simp at q0 q1
    refine bodyPost_ret (v := .tuple #[meanV ⟨0, 0⟩, .int .i64 131]) (by simp [results, Tryz.results78, go_sem, meanV, q0, q1]) rfl ⟨rfl, ?_⟩
    exact (hB.setCell (by simp; omega) _).setCell (by simp; omega) _
end Go.Proofs.YtagpclgappcnbaaGreat.Me
namespace Go.Proofs.YtagpclgappcnbaaGreat.Me
open Go.RowKit

theorem split_floor {D B W q t : Int} (hB : 1 ≤ B) (hB2 : B ≤ 1048577) (hD : B * q + t = D) (h1 : -17592186044416 ≤ D) (h2 : D ≤ 17592186044416) (ht0 : 0 ≤ t) (htB : t < B) (hW : 1 ≤ W) (hW2 : W ≤ B) :
    q * W + t * W / B = W * D / B ∧ 0 ≤ t * W ∧ t * W ≤ 1099513724929 ∧ 0 ≤ t * W / B ∧ t * W / B ≤ 1099513724929 := by
  have e : W * D / B = q * W + t * W / B := by
    subst hD
    rw [show W * (B * q + t) = t * W + B * (q * W) from by rw [Int.mul_add, Int.mul_comm W t, ← Int.mul_assoc, Int.mul_comm W B, Int.mul_assoc, Int.mul_comm W q]; omega, Int.add_mul_ediv_left _ _ (by omega)]
    omega
  obtain ⟨a, b⟩ := mul_bd (x := 1048577) (y := 1048577) ht0 (by omega) (show 0 ≤ W by omega) (by omega)
  simp only [Int.reduceMul] at b
  have c := Int.ediv_nonneg a (show 0 ≤ B by omega)
  have d : t * W / B ≤ t * W := Int.ediv_le_self _ a
  exact ⟨e.symm, a, b, c, by omega⟩
theorem trunc_neg {D B : Int} (hB : 1 ≤ B) (h : D < 0) : D ≤ D.tdiv B ∧ D.tdiv B ≤ 0 ∧ -B < D.tmod B ∧ D.tmod B ≤ 0 ∧ B * D.tdiv B + D.tmod B = D := by
  have e : D = -(-D) := by omega
  have n : 0 ≤ -D := by omega
  have q : D.tdiv B = -((-D) / B) := by rw [e, Int.neg_tdiv, Int.tdiv_eq_ediv_of_nonneg n, Int.neg_neg]
  have t : D.tmod B = -((-D) % B) := by rw [e, Int.neg_tmod, Int.tmod_eq_emod_of_nonneg n, Int.neg_neg]
  have a := Int.ediv_nonneg n (show 0 ≤ B by omega)
  have b : (-D) / B ≤ -D := Int.ediv_le_self _ n
  have c := Int.emod_nonneg (-D) (show B ≠ 0 by omega)
  have d := Int.emod_lt_of_pos (-D) (show 0 < B by omega)
  exact ⟨by omega, by omega, by omega, by omega, Int.mul_tdiv_add_tmod D B⟩
theorem floor_all {D B : Int} (hB : 1 ≤ B) (h : 0 ≤ D) : 0 ≤ D / B ∧ D / B ≤ D ∧ 0 ≤ D % B ∧ D % B < B ∧ B * (D / B) + D % B = D :=
  ⟨Int.ediv_nonneg h (by omega), Int.ediv_le_self _ h, Int.emod_nonneg D (by omega), Int.emod_lt_of_pos D (by omega), Int.mul_ediv_add_emod D B⟩
set_option maxRecDepth 100000 in
set_option maxHeartbeats 1000000 in
theorem robs_ok (r : RuleD) (m : MeanD) (took now : Int) (w : World) (h : MeanOk r m) (hn1 : m.at_ ≤ now) (hn2 : now ≤ 4611686018427387903) : Calls Tryz.prog 78 #[ruleV r, meanV m, .int .i64 took, .int .i64 now] w fun e w' => e = .returned (.tuple #[meanV ⟨obsV r m took now, now⟩, .int .i64 0]) ∧ Below w.heap.size w w' := by
  have HB := Lib.hid h
  obtain ⟨⟨h1, h2, h3, h4, h5, h6, h7, h8⟩, g1, g2, g3, g4⟩ := h
  unfold meanV ruleV
  go_enter Tryz.func78, Tryz.ntmps78
  go_wp2_with fail
  refine (rmay_ok r m _ HB.out).mono ?_
  rintro e w1 ⟨rfl, hb⟩
  have hz : w.heap.size + 2 < w1.heap.size := by have := hb.size; simp at this; omega
  have o1 : obj w1 w.heap.size = some (.cells #[.int .i64 r.first, .int .i64 r.min, .int .i64 r.max, .int .i64 r.half, .int .i64 r.quart] 23 (0, 0)) := (obj_below hb (by simp; omega)).trans (by rw [obj_alloc_past _ _ _ (by simp; omega), obj_alloc_past _ _ _ (by simp)]; exact obj_alloc_at _ _ _ rfl)
  have o2 : obj w1 (w.heap.size + 1) = some (.cells #[.int .i64 m.value, .int .i64 m.at_] 54 (0, 0)) := (obj_below hb (by simp)).trans (by rw [obj_alloc_past _ _ _ (by simp)]; exact obj_alloc_at _ _ _ (by simp))
  have o3 : obj w1 (w.heap.size + 2) = some (.cells #[.int .i64 0, .int .i64 0] 54 (0, 0)) := (obj_below hb (by simp)).trans (obj_alloc_at _ _ _ (by simp))
  have c2 : w1.cell? ⟨w.heap.size, 2, none⟩ = some (.int .i64 r.max) := cell_at o1 2
  have c3 : w1.cell? ⟨w.heap.size, 3, none⟩ = some (.int .i64 r.half) := cell_at o1 3
  have d0 : w1.cell? ⟨w.heap.size + 1, 0, none⟩ = some (.int .i64 m.value) := cell_at o2 0
  have d1 : w1.cell? ⟨w.heap.size + 1, 1, none⟩ = some (.int .i64 m.at_) := cell_at o2 1
  have f0 : w1.cell? ⟨w.heap.size + 1 + 1, 0, none⟩ = some (.int .i64 0) := cell_at o3 0
  have f1 : w1.cell? ⟨w.heap.size + 1 + 1, 1, none⟩ = some (.int .i64 0) := cell_at o3 1
  have ff : ∀ i, w1.frozen? ⟨w.heap.size + 1 + 1, i, none⟩ = false := frozen_at o3
  have hB : Below w.heap.size w w1 := ((((Below.refl _ _).alloc (Nat.le_refl _) _).alloc (by simp) _).alloc (by simp; omega) _).trans (hb.mono (by simp; omega))
  clear hb o1 o2
  have hs0 : w.heap.size < w1.heap.size := by omega
  have hs1 : w.heap.size + 1 < w1.heap.size := by omega
  have hs2 : w.heap.size + 1 + 1 < w1.heap.size := by omega
  have hcl := clip_bd 0 took r.max (by omega)
  have hce : min (max took 0) r.max = clip 0 took r.max := by unfold clip; omega
  have hbd := obs_bd (took := took) HB.out hn1
  have hDe : 16 * clip 0 took r.max - m.value = obsD r m took := rfl
  have hWe : 1 + min r.half (now - m.at_) = obsW r m now := rfl
  have hVe : m.value + obsW r m now * obsD r m took / (r.half + 1) = obsV r m took now := rfl
  go_wp2_with fail
  go_quiet (fail)
  go_wp2_with fail
  clear hDe hWe
  generalize obsD r m took = D at *
  generalize obsW r m now = W at *
  obtain ⟨x1, x2, x3, x4, x5, x6, x7, x8⟩ := hbd
  by_cases hd : 0 ≤ D
  · obtain ⟨y1, y2, y3, y4, y5⟩ := floor_all (B := r.half + 1) (by omega) hd
    go_quiet (fail)
    go_wp2_with fail
    go_wp2_with fail
    generalize D / (r.half + 1) = q at *
    generalize D % (r.half + 1) = t at *
    obtain ⟨z1, z2, z3, z4, z5⟩ := split_floor (B := r.half + 1) (D := D) (W := W) (q := q) (t := t) (by omega) (by omega) (by omega) (by omega) (by omega) (by omega) (by omega) (by omega) (by omega)
    rw [← z1] at hVe x5 x6
    refine wp_region_quiet_tail 14 (by kernel_rfl) (by kernel_rfl) ?_
    simp only [List.take_succ_cons, List.take_zero, List.drop_succ_cons, List.drop_zero]
    repeat (go_big_quiet_step (fail))
    refine wpQuiet_nil ?_
    go_wp2_with fail
    rw [show m.value + q * W + t * W / (r.half + 1) = obsV r m took now from by omega]
    have o4 : ∀ k, obj (w1.drewN k) (w.heap.size + 1 + 1) = some (.cells #[.int .i64 0, .int .i64 0] 54 (0, 0)) := fun _ => o3
    have q0 := fun k => cell_at (obj_setCell_at (.int .i64 now) (i := 1) (obj_setCell_at (.int .i64 (obsV r m took now)) (i := 0) (o4 k))) 0
    have q1 := fun k => cell_at (obj_setCell_at (.int .i64 now) (i := 1) (obj_setCell_at (.int .i64 (obsV r m took now)) (i := 0) (o4 k))) 1
    simp at q0 q1
    refine bodyPost_ret (v := .tuple #[meanV ⟨obsV r m took now, now⟩, .int .i64 0]) (by simp [results, Tryz.results78, go_sem, meanV, q0, q1]) rfl ⟨rfl, ?_⟩
    exact ((hB.trans (below_drewN (Below.refl _ _) _)).setCell (by simp; omega) _).setCell (by simp; omega) _
  · obtain ⟨y1, y2, y3, y4, y5⟩ := trunc_neg (B := r.half + 1) (by omega) (show D < 0 by omega)
    by_cases ht : D.tmod (r.half + 1) < 0
    · go_quiet (fail)
      go_wp2_with fail
      generalize hq : D.tdiv (r.half + 1) - 1 = q at *
      generalize ht' : D.tmod (r.half + 1) + (r.half + 1) = t at *
      have y6 : (r.half + 1) * q + t = D := by
        rw [← hq, Int.mul_sub, Int.mul_one]; omega
      obtain ⟨z1, z2, z3, z4, z5⟩ := split_floor (B := r.half + 1) (D := D) (W := W) (q := q) (t := t) (by omega) (by omega) (by omega) (by omega) (by omega) (by omega) (by omega) (by omega) (by omega)
      rw [← z1] at hVe x5 x6
      refine wp_region_quiet_tail 14 (by kernel_rfl) (by kernel_rfl) ?_
      simp only [List.take_succ_cons, List.take_zero, List.drop_succ_cons, List.drop_zero]
      repeat (go_big_quiet_step (fail))
      refine wpQuiet_nil ?_
      go_wp2_with fail
      rw [show m.value + q * W + t * W / (r.half + 1) = obsV r m took now from by omega]
      have o4 : ∀ k, obj (w1.drewN k) (w.heap.size + 1 + 1) = some (.cells #[.int .i64 0, .int .i64 0] 54 (0, 0)) := fun _ => o3
      have q0 := fun k => cell_at (obj_setCell_at (.int .i64 now) (i := 1) (obj_setCell_at (.int .i64 (obsV r m took now)) (i := 0) (o4 k))) 0
      have q1 := fun k => cell_at (obj_setCell_at (.int .i64 now) (i := 1) (obj_setCell_at (.int .i64 (obsV r m took now)) (i := 0) (o4 k))) 1
      simp at q0 q1
      refine bodyPost_ret (v := .tuple #[meanV ⟨obsV r m took now, now⟩, .int .i64 0]) (by simp [results, Tryz.results78, go_sem, meanV, q0, q1]) rfl ⟨rfl, ?_⟩
      exact ((hB.trans (below_drewN (Below.refl _ _) _)).setCell (by simp; omega) _).setCell (by simp; omega) _
    · go_quiet (fail)
      go_wp2_with fail
      generalize D.tdiv (r.half + 1) = q at *
      generalize D.tmod (r.half + 1) = t at *
      obtain ⟨z1, z2, z3, z4, z5⟩ := split_floor (B := r.half + 1) (D := D) (W := W) (q := q) (t := t) (by omega) (by omega) (by omega) (by omega) (by omega) (by omega) (by omega) (by omega) (by omega)
      rw [← z1] at hVe x5 x6
      refine wp_region_quiet_tail 14 (by kernel_rfl) (by kernel_rfl) ?_
      simp only [List.take_succ_cons, List.take_zero, List.drop_succ_cons, List.drop_zero]
      repeat (go_big_quiet_step (fail))
      refine wpQuiet_nil ?_
      go_wp2_with fail
      rw [show m.value + q * W + t * W / (r.half + 1) = obsV r m took now from by omega]
      have o4 : ∀ k, obj (w1.drewN k) (w.heap.size + 1 + 1) = some (.cells #[.int .i64 0, .int .i64 0] 54 (0, 0)) := fun _ => o3
      have q0 := fun k => cell_at (obj_setCell_at (.int .i64 now) (i := 1) (obj_setCell_at (.int .i64 (obsV r m took now)) (i := 0) (o4 k))) 0
      have q1 := fun k => cell_at (obj_setCell_at (.int .i64 now) (i := 1) (obj_setCell_at (.int .i64 (obsV r m took now)) (i := 0) (o4 k))) 1
      simp at q0 q1
      refine bodyPost_ret (v := .tuple #[meanV ⟨obsV r m took now, now⟩, .int .i64 0]) (by simp [results, Tryz.results78, go_sem, meanV, q0, q1]) rfl ⟨rfl, ?_⟩
      exact ((hB.trans (below_drewN (Below.refl _ _) _)).setCell (by simp; omega) _).setCell (by simp; omega) _
end Go.Proofs.YtagpclgappcnbaaGreat.Me
namespace Go.Proofs.YtagpclgappcnbaaGreat.Me
open Go.RowKit

theorem newV_bd {r : RuleD} (h : RuleOk r) : 0 ≤ newV r ∧ newV r ≤ 16 * r.max := by
  obtain ⟨h1, h2, h3, h4, h5, h6, h7, h8⟩ := h
  have := floor_pos (w := 1) (d := 64 * (r.first - 1)) (y := r.quart) (by omega) (by omega) (by omega) (by omega)
  rw [Int.one_mul] at this
  unfold newV
  split
  · split <;> omega
  · omega
theorem newV_iff {r : RuleD} (h : RuleOk r) (v : Int) (h0 : 0 ≤ v) (hv : v < 16 * r.max) : r.first ≤ max ((v * r.quart + 63) / 64) r.min ↔ newV r ≤ v := by
  obtain ⟨h1, h2, h3, h4, h5, h6, h7, h8⟩ := h
  have key := Int.ediv_lt_iff_lt_mul (a := 64 * (r.first - 1)) (b := v) (show 0 < r.quart by omega)
  unfold newV
  split
  · generalize v * r.quart = X at *
    generalize 64 * (r.first - 1) / r.quart = Y at *
    split <;> omega
  · omega
set_option maxRecDepth 100000 in
set_option maxHeartbeats 1000000 in
theorem rnew_bad (r : RuleD) (now : Int) (w : World) (h : ¬ RuleOk r) : Calls Tryz.prog 28 #[ruleV r, .int .i64 now] w fun e w' => e = .returned (.tuple #[meanV ⟨0, 0⟩, .int .i64 130]) ∧ Below w.heap.size w w' := by
  have HB := Lib.hid h
  clear h
  unfold ruleV
  go_enter Tryz.func28, Tryz.ntmps28
  go_wp2_with fail
  refine (rcheck_bad r _ HB.out).mono ?_
  rintro e w1 ⟨rfl, hb⟩
  have hz : w.heap.size + 1 < w1.heap.size := by have := hb.size; simp at this; omega
  have o3 : obj w1 (w.heap.size + 1) = some (.cells #[.int .i64 0, .int .i64 0] 54 (0, 0)) := (obj_below hb (by simp)).trans (obj_alloc_at _ _ _ (by simp))
  have f0 : w1.cell? ⟨w.heap.size + 1, 0, none⟩ = some (.int .i64 0) := cell_at o3 0
  have f1 : w1.cell? ⟨w.heap.size + 1, 1, none⟩ = some (.int .i64 0) := cell_at o3 1
  have ff : ∀ i, w1.frozen? ⟨w.heap.size + 1, i, none⟩ = false := frozen_at o3
  have hB : Below w.heap.size w w1 := (((Below.refl _ _).alloc (Nat.le_refl _) _).alloc (by simp) _).trans (hb.mono (by simp; omega))
  clear hb
  go_wp2_with fail
  have q := obj_setCell_at (.int .i64 0) (i := 1) (obj_setCell_at (.int .i64 0) (i := 0) o3)
  have q0 := cell_at q 0
  have q1 := cell_at q 1
  simp at q0 q1
  refine bodyPost_ret (v := .tuple #[meanV ⟨0, 0⟩, .int .i64 130]) (by simp [results, Tryz.results28, go_sem, meanV, q0, q1]) rfl ⟨rfl, ?_⟩
  exact (hB.setCell (by simp) _).setCell (by simp) _
set_option maxRecDepth 100000 in
set_option maxHeartbeats 1000000 in
theorem rnew_past (r : RuleD) (now : Int) (w : World) (h : RuleOk r) (hn : ¬ (0 ≤ now ∧ now ≤ 4611686018427387903)) : Calls Tryz.prog 28 #[ruleV r, .int .i64 now] w fun e w' => e = .returned (.tuple #[meanV ⟨0, 0⟩, .int .i64 131]) ∧ Below w.heap.size w w' := by
  have HB := Lib.hid h
  clear h
  unfold ruleV
  go_enter Tryz.func28, Tryz.ntmps28
  go_wp2_with fail
  refine (rcheck_ok r _ HB.out).mono ?_
  rintro e w1 ⟨rfl, hb⟩
  have hz : w.heap.size + 1 < w1.heap.size := by have := hb.size; simp at this; omega
  have o3 : obj w1 (w.heap.size + 1) = some (.cells #[.int .i64 0, .int .i64 0] 54 (0, 0)) := (obj_below hb (by simp)).trans (obj_alloc_at _ _ _ (by simp))
  have f0 : w1.cell? ⟨w.heap.size + 1, 0, none⟩ = some (.int .i64 0) := cell_at o3 0
  have f1 : w1.cell? ⟨w.heap.size + 1, 1, none⟩ = some (.int .i64 0) := cell_at o3 1
  have ff : ∀ i, w1.frozen? ⟨w.heap.size + 1, i, none⟩ = false := frozen_at o3
  have hB : Below w.heap.size w w1 := (((Below.refl _ _).alloc (Nat.le_refl _) _).alloc (by simp) _).trans (hb.mono (by simp; omega))
  clear hb
  by_cases hlt : now < 0 <;> go_wp2_with fail
  all_goals
    have q := obj_setCell_at (.int .i64 0) (i := 1) (obj_setCell_at (.int .i64 0) (i := 0) o3)
    have q0 := cell_at q 0
    have q1 := cell_at q 1
    simp at q0 q1
    refine bodyPost_ret (v := .tuple #[meanV ⟨0, 0⟩, .int .i64 131]) (by simp [results, Tryz.results28, go_sem, meanV, q0, q1]) rfl ⟨rfl, ?_⟩
    exact (hB.setCell (by simp) _).setCell (by simp) _
set_option maxRecDepth 100000 in
set_option maxHeartbeats 1000000 in
theorem rnew_ok (r : RuleD) (now : Int) (w : World) (h : RuleOk r) (hn1 : 0 ≤ now) (hn2 : now ≤ 4611686018427387903) : Calls Tryz.prog 28 #[ruleV r, .int .i64 now] w fun e w' => e = .returned (.tuple #[meanV ⟨newV r, now⟩, .int .i64 0]) ∧ Below w.heap.size w w' := by
  have HB := Lib.hid h
  obtain ⟨h1, h2, h3, h4, h5, h6, h7, h8⟩ := h
  unfold ruleV
  go_enter Tryz.func28, Tryz.ntmps28
  go_wp2_with fail
  refine (rcheck_ok r _ HB.out).mono ?_
  rintro e w1 ⟨rfl, hb⟩
  have hz : w.heap.size + 1 < w1.heap.size := by have := hb.size; simp at this; omega
  have o1 : obj w1 w.heap.size = some (.cells #[.int .i64 r.first, .int .i64 r.min, .int .i64 r.max, .int .i64 r.half, .int .i64 r.quart] 23 (0, 0)) := (obj_below hb (by simp; omega)).trans (by rw [obj_alloc_past _ _ _ (by simp)]; exact obj_alloc_at _ _ _ rfl)
  have o3 : obj w1 (w.heap.size + 1) = some (.cells #[.int .i64 0, .int .i64 0] 54 (0, 0)) := (obj_below hb (by simp)).trans (obj_alloc_at _ _ _ (by simp))
  have c0 : w1.cell? ⟨w.heap.size, 0, none⟩ = some (.int .i64 r.first) := cell_at o1 0
  have c1 : w1.cell? ⟨w.heap.size, 1, none⟩ = some (.int .i64 r.min) := cell_at o1 1
  have c2 : w1.cell? ⟨w.heap.size, 2, none⟩ = some (.int .i64 r.max) := cell_at o1 2
  have c4 : w1.cell? ⟨w.heap.size, 4, none⟩ = some (.int .i64 r.quart) := cell_at o1 4
  have f0 : w1.cell? ⟨w.heap.size + 1, 0, none⟩ = some (.int .i64 0) := cell_at o3 0
  have f1 : w1.cell? ⟨w.heap.size + 1, 1, none⟩ = some (.int .i64 0) := cell_at o3 1
  have ff : ∀ i, w1.frozen? ⟨w.heap.size + 1, i, none⟩ = false := frozen_at o3
  have hB : Below w.heap.size w w1 := (((Below.refl _ _).alloc (Nat.le_refl _) _).alloc (by simp) _).trans (hb.mono (by simp; omega))
  clear hb
  have hs0 : w.heap.size < w1.heap.size := by omega
  have hs1 : w.heap.size + 1 < w1.heap.size := by omega
  have HR : Hid (RuleOk r) := HB
  by_cases hlt : now < 0
  · omega
  go_wp2_with fail
  go_quiet (fail)
  go_wp2_with fail
  go_loopw [7, 8] (fun v7 v8 wr => ∃ lo hi : Int, v7 = .int .i64 lo ∧ v8 = .int .i64 hi ∧ 0 ≤ lo ∧ lo ≤ newV r ∧ newV r ≤ hi ∧ hi ≤ 16 * r.max ∧ obj wr w.heap.size = some (.cells #[.int .i64 r.first, .int .i64 r.min, .int .i64 r.max, .int .i64 r.half, .int .i64 r.quart] 23 (0, 0)) ∧ obj wr (w.heap.size + 1) = some (.cells #[.int .i64 0, .int .i64 0] 54 (0, 0)) ∧ Below w.heap.size w wr) (fun lo hi _ => (intOf hi - intOf lo).toNat)
  case atStart => exact ⟨0, 16 * r.max, rfl, rfl, by omega, (newV_bd HR.out).1, (newV_bd HR.out).2, by omega, o1, o3, hB.trans (below_drewN (Below.refl _ _) _)⟩
  case round =>
    obtain ⟨lo, hi, rfl, rfl, l1, l2, l3, l4, l5, l6, l7⟩ := hrel
    clear c0 c1 c2 c4 f0 f1 ff
    have ll := lt_of_obj l6
    have ll0 := lt_of_obj l5
    clear hs0 hs1 hz hB o3
    have c0 : wr.cell? ⟨w.heap.size, 0, none⟩ = some (.int .i64 r.first) := cell_at l5 0
    have c1 : wr.cell? ⟨w.heap.size, 1, none⟩ = some (.int .i64 r.min) := cell_at l5 1
    have c2 : wr.cell? ⟨w.heap.size, 2, none⟩ = some (.int .i64 r.max) := cell_at l5 2
    have c3 : wr.cell? ⟨w.heap.size, 3, none⟩ = some (.int .i64 r.half) := cell_at l5 3
    have c4 : wr.cell? ⟨w.heap.size, 4, none⟩ = some (.int .i64 r.quart) := cell_at l5 4
    have f0 : wr.cell? ⟨w.heap.size + 1, 0, none⟩ = some (.int .i64 0) := cell_at l6 0
    have f1 : wr.cell? ⟨w.heap.size + 1, 1, none⟩ = some (.int .i64 0) := cell_at l6 1
    have ff : ∀ i, wr.frozen? ⟨w.heap.size + 1, i, none⟩ = false := frozen_at l6
    by_cases hlh : lo < hi
    · go_wp2_with fail
      refine wp_region_later wr (Below.refl _ _) (by kernel_rfl) (by kernel_rfl) ?_
      repeat (go_big_quiet_step ((go_at_call 70; exact Calls.later (raw_any r _ _ (by omega) (by omega) (by omega) (by omega)))))
      refine wpQuiet_nil ?_
      intro _ hx
      obtain ⟨⟨w3, hb3⟩, hx⟩ := hx
      subst hx
      rename_i w3
      go_wp2_with fail
      all_goals
        have hi3 := newV_iff HR.out ((lo + hi) / 2) (by omega) (by omega)
        have l5' := (obj_below hb3 ll0).trans l5
        have l6' := (obj_below hb3 ll).trans l6
        have l7' := l7.trans (hb3.mono l7.size)
        go_roundw
        case rel => exact ⟨_, _, rfl, rfl, by omega, by omega, by omega, by omega, l5', l6', l7'⟩
        case measure => simp [intOf]; omega
    · have hlo : lo = newV r := by omega
      subst hlo
      go_wp2_with fail
      have q := obj_setCell_at (.int .i64 now) (i := 1) (obj_setCell_at (.int .i64 (newV r)) (i := 0) l6)
      have q0 := cell_at q 0
      have q1 := cell_at q 1
      simp at q0 q1
      refine bodyPost_ret (v := .tuple #[meanV ⟨newV r, now⟩, .int .i64 0]) (by simp [results, Tryz.results28, go_sem, meanV, q0, q1]) rfl ⟨rfl, ?_⟩
      exact (l7.setCell (by simp) _).setCell (by simp) _
end Go.Proofs.YtagpclgappcnbaaGreat.Me
namespace Go.Proofs.YtagpclgappcnbaaGreat.Me
open Go.RowKit

open Classical in
noncomputable def obsR (r : RuleD) (m : MeanD) (took now : Int) : MeanD × Int :=
  if MeanOk r m then if m.at_ ≤ now ∧ now ≤ 4611686018427387903 then (⟨obsV r m took now, now⟩, 0) else (⟨0, 0⟩, 131) else (⟨0, 0⟩, 130)
theorem obs_any (r : RuleD) (m : MeanD) (took now : Int) (w : World) : Calls Tryz.prog 104 #[ruleV r, meanV m, .int .i64 took, .int .i64 now] w fun e w' => e = .returned (.tuple #[meanV (obsR r m took now).1, .int .i64 (obsR r m took now).2]) ∧ Below w.heap.size w w' := by
  unfold obsR
  by_cases h : MeanOk r m
  · rw [if_pos h]
    by_cases hn : m.at_ ≤ now ∧ now ≤ 4611686018427387903
    · rw [if_pos hn]; exact obs_ok r m took now w h hn.1 hn.2
    · rw [if_neg hn]; exact obs_past r m took now w h hn
  · rw [if_neg h]; exact obs_bad r m took now w h
theorem robs_any (r : RuleD) (m : MeanD) (took now : Int) (w : World) : Calls Tryz.prog 78 #[ruleV r, meanV m, .int .i64 took, .int .i64 now] w fun e w' => e = .returned (.tuple #[meanV (obsR r m took now).1, .int .i64 (obsR r m took now).2]) ∧ Below w.heap.size w w' := by
  unfold obsR
  by_cases h : MeanOk r m
  · rw [if_pos h]
    by_cases hn : m.at_ ≤ now ∧ now ≤ 4611686018427387903
    · rw [if_pos hn]; exact robs_ok r m took now w h hn.1 hn.2
    · rw [if_neg hn]; exact robs_past r m took now w h hn
  · rw [if_neg h]; exact robs_bad r m took now w h
open Classical in
noncomputable def newR (r : RuleD) (now : Int) : MeanD × Int :=
  if RuleOk r then if 0 ≤ now ∧ now ≤ 4611686018427387903 then (⟨newV r, now⟩, 0) else (⟨0, 0⟩, 131) else (⟨0, 0⟩, 130)
theorem new_any (r : RuleD) (now : Int) (w : World) : Calls Tryz.prog 22 #[ruleV r, .int .i64 now] w fun e w' => e = .returned (.tuple #[meanV (newR r now).1, .int .i64 (newR r now).2]) ∧ Below w.heap.size w w' := by
  unfold newR
  by_cases h : RuleOk r
  · rw [if_pos h]
    by_cases hn : 0 ≤ now ∧ now ≤ 4611686018427387903
    · rw [if_pos hn]; exact new_ok r now w h hn.1 hn.2
    · rw [if_neg hn]; exact new_past r now w h hn
  · rw [if_neg h]; exact new_bad r now w h
theorem rnew_any (r : RuleD) (now : Int) (w : World) : Calls Tryz.prog 28 #[ruleV r, .int .i64 now] w fun e w' => e = .returned (.tuple #[meanV (newR r now).1, .int .i64 (newR r now).2]) ∧ Below w.heap.size w w' := by
  unfold newR
  by_cases h : RuleOk r
  · rw [if_pos h]
    by_cases hn : 0 ≤ now ∧ now ≤ 4611686018427387903
    · rw [if_pos hn]; exact rnew_ok r now w h hn.1 hn.2
    · rw [if_neg hn]; exact rnew_past r now w h hn
  · rw [if_neg h]; exact rnew_bad r now w h
open Classical in
noncomputable def tmoR (r : RuleD) (m : MeanD) : Int := if MeanOk r m then tmoV r m else 0
theorem tmo_any (r : RuleD) (m : MeanD) (w : World) : Calls Tryz.prog 58 #[ruleV r, meanV m] w fun e w' => e = .returned (.int .i64 (tmoR r m)) ∧ Below w.heap.size w w' := by
  unfold tmoR
  by_cases h : MeanOk r m
  · rw [if_pos h]; exact tmo_ok r m w h
  · rw [if_neg h]; exact tmo_bad r m w h
theorem rtmo_any (r : RuleD) (m : MeanD) (w : World) : Calls Tryz.prog 47 #[ruleV r, meanV m] w fun e w' => e = .returned (.int .i64 (tmoR r m)) ∧ Below w.heap.size w w' := by
  unfold tmoR
  by_cases h : MeanOk r m
  · rw [if_pos h]; exact rtmo_ok r m w h
  · rw [if_neg h]; exact rtmo_bad r m w h

noncomputable def allR (r : RuleD) (L : Nat → MeanD) : Nat → Nat → MeanD → MeanD × Nat × Int
  | 0, i, m => (m, i, 0)
  | k + 1, i, m => if (obsR r m (L i).value (L i).at_).2 = 0 then allR r L k (i + 1) (obsR r m (L i).value (L i).at_).1 else (m, i, (obsR r m (L i).value (L i).at_).2)

end Go.Proofs.YtagpclgappcnbaaGreat.Me
