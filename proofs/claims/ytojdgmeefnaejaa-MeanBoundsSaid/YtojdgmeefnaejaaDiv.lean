import Derived.Test.YtojdgmeefnaejaaShelf
import Derived.Test.YtojdgmeefnaejaaMean
namespace Go.Proofs.Ytojdgmeefnaejaa
open Go.RowKit
theorem ret_two {k : IntKind} {a b a' b' : Int} (h : a = a') (h' : b = b') : Ending.returned (.tuple #[.int k a, .int k b]) = .returned (.tuple #[.int k a', .int k b']) := by rw [h, h']
theorem or_add (a b k : Nat) (h : b < 2 ^ k) : (a * 2 ^ k) ||| b = a * 2 ^ k + b := by
  rw [Nat.mul_comm, ← Nat.two_pow_add_eq_or_of_lt h]
theorem or43 (x : Int) (h0 : 0 ≤ x) (h1 : x < 8796093022208) : bits BinOp.or IntKind.u64 8796093022208 x = 8796093022208 + x := by
  rw [u64_or _ _ (by decide) (by decide) h0 (by omega)]
  have := or_add 1 x.toNat 43 (by omega)
  simp at this
  show (((8796093022208 : Nat) ||| x.toNat : Nat) : Int) = _
  rw [this]
  omega
theorem and_a : bits BinOp.and IntKind.u64 9223372036854775808 4294967295 = 0 := by kernel_rfl
theorem and_b : bits BinOp.and IntKind.u64 9223380832947798016 4294967295 = 0 := by kernel_rfl
theorem div_small (lo y : Int) (h0 : 0 ≤ lo) (h1 : lo ≤ 18446744073709551615) (h2 : 1 ≤ y) (h3 : y ≤ 18446744073709551615) (w : World) :
    Calls Try.prog 28 #[.int .u64 0, .int .u64 lo, .int .u64 y] w fun e w' => e = .returned (.tuple #[.int .u64 (lo / y), .int .u64 (lo % y)]) ∧ Below w.heap.size w w' := by
  have g1 : (y == 0) = false := by simp; omega
  go_enter Try.func28, Try.ntmps28
  go_wp2_with fail
  go_region
  all_goals (go_wp2; go_ret2; exact ⟨rfl, (Below.refl _ _).drew⟩)
theorem lz_a (w : World) : Calls Try.prog 29 #[.int .u64 1048576] w fun e w' => e = .returned (.int .i64 43) ∧ w' = w := Try.bits_LeadingZeros64 1048576 w (by decide) (by decide)
theorem lz_b (w : World) : Calls Try.prog 29 #[.int .u64 1048577] w fun e w' => e = .returned (.int .i64 43) ∧ w' = w := Try.bits_LeadingZeros64 1048577 w (by decide) (by decide)
theorem wrapU (x : Int) : IntKind.u64.wrap x = x % 18446744073709551616 := by simp [IntKind.wrap, IntKind.signed, IntKind.bits]
set_option maxRecDepth 100000 in
set_option maxHeartbeats 1000000 in
theorem div_a (lo : Int) (h0 : 0 ≤ lo) (h1 : lo ≤ 18446744073709551615) (w : World) :
    Calls Try.prog 28 #[.int .u64 1, .int .u64 lo, .int .u64 1048576] w fun e w' => e = .returned (.tuple #[.int .u64 ((18446744073709551616 + lo) / 1048576), .int .u64 ((18446744073709551616 + lo) % 1048576)]) ∧ Below w.heap.size w w' := by
  obtain ⟨u, l, q, rh, q0, r0, r1, bu0, bu1, bl0, bl1, r2, r3, r4, r5, r6, bq0, bq1, brh0, brh1, r8, r9, r10, bq2, bq3, br0, br1, r11, r12, hfin1, hfin2⟩ : ∃ u l q rh q0 r0 : Int, lo / 2097152 = u ∧ 0 ≤ u ∧ u < 8796093022208 ∧ 0 ≤ l ∧ l < 2097152 ∧ IntKind.u64.wrap (lo * 8796093022208) = l * 8796093022208 ∧ l * 8796093022208 / 4294967296 = l * 2048 ∧
      bits BinOp.and IntKind.u64 (l * 8796093022208) 4294967295 = 0 ∧ (8796093022208 + u) / 2147483648 = q ∧ 8796093022208 + u - q * 2147483648 = rh ∧ 0 ≤ q ∧ q < 8192 ∧ 0 ≤ rh ∧ rh < 2147483648 ∧
      IntKind.u64.wrap (IntKind.u64.wrap (IntKind.u64.wrap ((8796093022208 + u) * 4294967296) + l * 2048) - IntKind.u64.wrap (q * 9223372036854775808)) = rh * 4294967296 + l * 2048 ∧
      (rh * 4294967296 + l * 2048) / 2147483648 = q0 ∧ (rh * 4294967296 + l * 2048) - q0 * 2147483648 = r0 ∧ 0 ≤ q0 ∧ q0 < 4294967296 ∧ 0 ≤ r0 ∧ r0 < 2147483648 ∧
      IntKind.u64.wrap (IntKind.u64.wrap (IntKind.u64.wrap ((rh * 4294967296 + l * 2048) * 4294967296)) - IntKind.u64.wrap (q0 * 9223372036854775808)) = r0 * 4294967296 ∧ r0 * 4294967296 / 8796093022208 = r0 / 2048 ∧
      (18446744073709551616 + lo) / 1048576 = q * 4294967296 + q0 ∧ (18446744073709551616 + lo) % 1048576 = r0 / 2048 := by
    refine ⟨lo / 2097152, lo % 2097152, (8796093022208 + lo / 2097152) / 2147483648, (8796093022208 + lo / 2097152) - (8796093022208 + lo / 2097152) / 2147483648 * 2147483648, _, _, rfl, by omega, by omega, by omega, by omega, ?_, by omega, ?_, rfl, rfl, by omega, by omega, by omega, by omega, ?_, rfl, rfl, by omega, by omega, by omega, by omega, ?_, by omega, by omega, by omega⟩
    · rw [wrapU]; omega
    · rw [u64_and _ _ (by omega) (by omega) (by decide) (by decide)]
      have : ((4294967295 : Int).toNat) = 2 ^ 32 - 1 := by decide
      rw [this, Nat.and_two_pow_sub_one_eq_mod]
      omega
    · simp only [wrapU]; omega
    · simp only [wrapU]; omega
  rw [hfin1, hfin2]
  clear hfin1 hfin2
  have e1 := and_a
  have e2 := or43 u (by omega) (by omega)
  go_enter Try.func28, Try.ntmps28
  go_wp2_with fail
  refine (lz_a _).mono ?_
  rintro e w' ⟨rfl, hw⟩
  go_wp2_with fail
  clear e1 e2
  refine wp_loop_once ?_
  go_wp2_with fail
  refine wp_loop_once ?_
  go_wp2_with fail

  go_ret2
  exact ⟨rfl, Below.refl _ _⟩
set_option maxRecDepth 100000 in
set_option maxHeartbeats 1000000 in
theorem div_b (lo : Int) (h0 : 0 ≤ lo) (h1 : lo ≤ 18446744073709551615) (w : World) :
    Calls Try.prog 28 #[.int .u64 1, .int .u64 lo, .int .u64 1048577] w fun e w' => e = .returned (.tuple #[.int .u64 ((18446744073709551616 + lo) / 1048577), .int .u64 ((18446744073709551616 + lo) % 1048577)]) ∧ Below w.heap.size w w' := by
  obtain ⟨u, l, q, rh, q0, r0, r1, bu0, bu1, bl0, bl1, r2, r3, r4, r5, r6, bq0, bq1, brh0, brh1, r8, r9, r10, bq2, bq3, br0, br1, r11, r12, hfin1, hfin2⟩ : ∃ u l q rh q0 r0 : Int, lo / 2097152 = u ∧ 0 ≤ u ∧ u < 8796093022208 ∧ 0 ≤ l ∧ l < 2097152 ∧ IntKind.u64.wrap (lo * 8796093022208) = l * 8796093022208 ∧ l * 8796093022208 / 4294967296 = l * 2048 ∧
      bits BinOp.and IntKind.u64 (l * 8796093022208) 4294967295 = 0 ∧ (8796093022208 + u) / 2147485696 = q ∧ 8796093022208 + u - q * 2147485696 = rh ∧ 0 ≤ q ∧ q < 8192 ∧ 0 ≤ rh ∧ rh < 2147485696 ∧
      IntKind.u64.wrap (IntKind.u64.wrap (IntKind.u64.wrap ((8796093022208 + u) * 4294967296) + l * 2048) - IntKind.u64.wrap (q * 9223380832947798016)) = rh * 4294967296 + l * 2048 ∧
      (rh * 4294967296 + l * 2048) / 2147485696 = q0 ∧ (rh * 4294967296 + l * 2048) - q0 * 2147485696 = r0 ∧ 0 ≤ q0 ∧ q0 < 4294967296 ∧ 0 ≤ r0 ∧ r0 < 2147485696 ∧
      IntKind.u64.wrap (IntKind.u64.wrap (IntKind.u64.wrap ((rh * 4294967296 + l * 2048) * 4294967296)) - IntKind.u64.wrap (q0 * 9223380832947798016)) = r0 * 4294967296 ∧ r0 * 4294967296 / 8796093022208 = r0 / 2048 ∧
      (18446744073709551616 + lo) / 1048577 = q * 4294967296 + q0 ∧ (18446744073709551616 + lo) % 1048577 = r0 / 2048 := by
    refine ⟨lo / 2097152, lo % 2097152, (8796093022208 + lo / 2097152) / 2147485696, (8796093022208 + lo / 2097152) - (8796093022208 + lo / 2097152) / 2147485696 * 2147485696, _, _, rfl, by omega, by omega, by omega, by omega, ?_, by omega, ?_, rfl, rfl, by omega, by omega, by omega, by omega, ?_, rfl, rfl, by omega, by omega, by omega, by omega, ?_, by omega, by omega, by omega⟩
    · rw [wrapU]; omega
    · rw [u64_and _ _ (by omega) (by omega) (by decide) (by decide)]
      have : ((4294967295 : Int).toNat) = 2 ^ 32 - 1 := by decide
      rw [this, Nat.and_two_pow_sub_one_eq_mod]
      omega
    · simp only [wrapU]; omega
    · simp only [wrapU]; omega
  rw [hfin1, hfin2]
  clear hfin1 hfin2
  have e1 := and_b
  have e2 := or43 u (by omega) (by omega)
  go_enter Try.func28, Try.ntmps28
  go_wp2_with fail
  refine (lz_b _).mono ?_
  rintro e w' ⟨rfl, hw⟩
  go_wp2_with fail
  clear e1 e2
  refine wp_loop_once ?_
  go_wp2_with fail
  refine wp_loop_once ?_
  go_wp2_with fail

  go_ret2
  exact ⟨rfl, Below.refl _ _⟩
end Go.Proofs.Ytojdgmeefnaejaa
