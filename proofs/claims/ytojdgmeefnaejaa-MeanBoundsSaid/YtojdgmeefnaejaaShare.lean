import Derived.Test.YtojdgmeefnaejaaDiv
namespace Go.Proofs.Ytojdgmeefnaejaa
open Go.RowKit
theorem div_any (p y : Nat) (hy : 1 ≤ y) (hy' : y ≤ 1048577) (h : p < 18446744073709551616 ∨ (p < 36893488147419103232 ∧ (y = 1048576 ∨ y = 1048577))) (w : World) :
    Calls Try.prog 28 #[.int .u64 ((p / 18446744073709551616 : Nat) : Int), .int .u64 ((p % 18446744073709551616 : Nat) : Int), .int .u64 (y : Int)] w fun e w' => e = .returned (.tuple #[.int .u64 ((p / y : Nat) : Int), .int .u64 ((p % y : Nat) : Int)]) ∧ Below w.heap.size w w' := by
  by_cases hp : p < 18446744073709551616
  · have e1 : p / 18446744073709551616 = 0 := by omega
    have e2 : p % 18446744073709551616 = p := by omega
    rw [e1, e2]
    have := div_small (p : Int) (y : Int) (by omega) (by omega) (by omega) (by omega) w
    rw [← Int.natCast_ediv, ← Int.natCast_emod] at this
    exact this
  · rcases h with h | ⟨h1, h2⟩
    · exact absurd h hp
    · have e1 : p / 18446744073709551616 = 1 := by omega
      rw [e1]
      rcases h2 with rfl | rfl
      · have := div_a ((p % 18446744073709551616 : Nat) : Int) (by omega) (by omega) w
        rw [show (18446744073709551616 + ((p % 18446744073709551616 : Nat) : Int)) / 1048576 = ((p / 1048576 : Nat) : Int) from by omega,
          show (18446744073709551616 + ((p % 18446744073709551616 : Nat) : Int)) % 1048576 = ((p % 1048576 : Nat) : Int) from by omega] at this
        exact this
      · have := div_b ((p % 18446744073709551616 : Nat) : Int) (by omega) (by omega) w
        rw [show (18446744073709551616 + ((p % 18446744073709551616 : Nat) : Int)) / 1048577 = ((p / 1048577 : Nat) : Int) from by omega,
          show (18446744073709551616 + ((p % 18446744073709551616 : Nat) : Int)) % 1048577 = ((p % 1048577 : Nat) : Int) from by omega] at this
        exact this
theorem prod_bd {w d y : Nat} (h2 : w ≤ y) (h3 : y ≤ 1048577) (h4 : d ≤ 17592186044416) :
    w * d < 18446744073709551616 ∨ (w * d < 36893488147419103232 ∧ (y = 1048576 ∨ y = 1048577)) := by
  have h5 : w * d ≤ w * 17592186044416 := Nat.mul_le_mul_left _ h4
  omega
theorem quo_le {w d y : Nat} (hy : 1 ≤ y) (h2 : w ≤ y) : w * d / y ≤ d := by
  have : w * d ≤ y * d := Nat.mul_le_mul_right _ h2
  calc w * d / y ≤ y * d / y := Nat.div_le_div_right this
    _ = d := Nat.mul_div_cancel_left _ (by omega)
set_option maxRecDepth 100000 in
set_option maxHeartbeats 1000000 in
theorem share_pos (w d y : Nat) (hy : 1 ≤ y) (h2 : w ≤ y) (h3 : y ≤ 1048577) (h4 : d ≤ 17592186044416)  (W : World) :
    Calls Try.prog 26 #[.int .i64 w, .int .i64 d, .int .i64 y] W fun e w' => e = .returned (.int .i64 ((w * d / y : Nat) : Int)) ∧ Below W.heap.size W w' := by
  have hp := prod_bd h2 h3 h4
  have hq : w * d / y ≤ 17592186044416 := Nat.le_trans (quo_le hy h2) h4
  have HP := Lib.hid hp
  clear hp
  generalize hQ : w * d / y = Q at hq ⊢
  generalize hR : w * d % y = R at *
  have HQ := Lib.hid hQ
  have HR := Lib.hid hR
  clear hQ hR
  have hm : max (d : Int) (-(d : Int)) = d := by omega
  go_enter Try.func26, Try.ntmps26
  go_wp2_with fail
  refine (Try.bits_Mul64 w d (by omega) (by omega) _).mono ?_
  rintro e w1 ⟨rfl, hw1⟩
  clear hm
  go_wp2_with fail
  refine (div_any (w * d) y hy h3 HP.out _).mono ?_
  rintro e w2 ⟨rfl, hb⟩
  rw [HQ.out, HR.out]
  subst hw1
  go_wp2_with fail
  go_ret
  exact ⟨rfl, hb⟩
set_option maxRecDepth 100000 in
set_option maxHeartbeats 1000000 in
theorem share_neg0 (w d y : Nat) (hy : 1 ≤ y) (h2 : w ≤ y) (h3 : y ≤ 1048577) (h4 : d ≤ 17592186044416) (hd : 1 ≤ d) (hr : w * d % y = 0) (W : World) :
    Calls Try.prog 26 #[.int .i64 w, .int .i64 (-(d : Int)), .int .i64 y] W fun e w' => e = .returned (.int .i64 (-((w * d / y : Nat) : Int))) ∧ Below W.heap.size W w' := by
  have hp := prod_bd h2 h3 h4
  have hq : w * d / y ≤ 17592186044416 := Nat.le_trans (quo_le hy h2) h4
  have HP := Lib.hid hp
  clear hp
  generalize hQ : w * d / y = Q at hq ⊢
  generalize hR : w * d % y = R at *
  have HQ := Lib.hid hQ
  have HR := Lib.hid hR
  clear hQ hR
  have hm : max (-(d : Int)) (d : Int) = d := by omega
  go_enter Try.func26, Try.ntmps26
  go_wp2_with fail
  refine (Try.bits_Mul64 w d (by omega) (by omega) _).mono ?_
  rintro e w1 ⟨rfl, hw1⟩
  clear hm
  go_wp2_with fail
  refine (div_any (w * d) y hy h3 HP.out _).mono ?_
  rintro e w2 ⟨rfl, hb⟩
  rw [HQ.out, HR.out]
  subst hw1
  go_wp2_with fail
  go_ret
  exact ⟨rfl, hb⟩
set_option maxRecDepth 100000 in
set_option maxHeartbeats 1000000 in
theorem share_neg1 (w d y : Nat) (hy : 1 ≤ y) (h2 : w ≤ y) (h3 : y ≤ 1048577) (h4 : d ≤ 17592186044416) (hd : 1 ≤ d) (hr : 0 < w * d % y) (W : World) :
    Calls Try.prog 26 #[.int .i64 w, .int .i64 (-(d : Int)), .int .i64 y] W fun e w' => e = .returned (.int .i64 (-((w * d / y : Nat) : Int) - 1)) ∧ Below W.heap.size W w' := by
  have hp := prod_bd h2 h3 h4
  have hq : w * d / y ≤ 17592186044416 := Nat.le_trans (quo_le hy h2) h4
  have HP := Lib.hid hp
  clear hp
  have hry : w * d % y < y := Nat.mod_lt _ (by omega)
  generalize hQ : w * d / y = Q at hq ⊢
  generalize hR : w * d % y = R at *
  have HQ := Lib.hid hQ
  have HR := Lib.hid hR
  clear hQ hR
  have hm : max (-(d : Int)) (d : Int) = d := by omega
  go_enter Try.func26, Try.ntmps26
  go_wp2_with fail
  refine (Try.bits_Mul64 w d (by omega) (by omega) _).mono ?_
  rintro e w1 ⟨rfl, hw1⟩
  clear hm
  go_wp2_with fail
  refine (div_any (w * d) y hy h3 HP.out _).mono ?_
  rintro e w2 ⟨rfl, hb⟩
  rw [HQ.out, HR.out]
  subst hw1
  go_wp2_with fail
  go_ret
  exact ⟨rfl, hb⟩
theorem neg_floor0 (p y : Nat) (hy : 0 < y) (h : p % y = 0) : (-(p : Int)) / y = -((p / y : Nat) : Int) := by
  have h1 : y * (p / y) + p % y = p := Nat.div_add_mod p y
  have h2 : ((y : Int) * ((p / y : Nat) : Int)) = p := by rw [h] at h1; exact_mod_cast h1
  exact ((Int.ediv_emod_unique (a := -(p : Int)) (b := y) (r := 0) (q := -((p / y : Nat) : Int)) (by omega)).2 ⟨by rw [Int.mul_neg, h2]; omega, by omega, by omega⟩).1
theorem neg_floor1 (p y : Nat) (hy : 0 < y) (h : 0 < p % y) : (-(p : Int)) / y = -((p / y : Nat) : Int) - 1 := by
  have h1 : y * (p / y) + p % y = p := Nat.div_add_mod p y
  have h3 : p % y < y := Nat.mod_lt _ hy
  have h2 : ((y : Int) * ((p / y : Nat) : Int)) + ((p % y : Nat) : Int) = p := by exact_mod_cast h1
  exact ((Int.ediv_emod_unique (a := -(p : Int)) (b := y) (r := (y : Int) - ((p % y : Nat) : Int)) (q := -((p / y : Nat) : Int) - 1) (by omega)).2 ⟨by rw [Int.mul_sub, Int.mul_neg, Int.mul_one]; omega, by omega, by omega⟩).1
theorem share_any (w diff y : Int) (h1 : 1 ≤ w) (h2 : w ≤ y) (h3 : y ≤ 1048577) (h4 : -17592186044416 ≤ diff) (h5 : diff ≤ 17592186044416) (W : World) :
    Calls Try.prog 26 #[.int .i64 w, .int .i64 diff, .int .i64 y] W fun e w' => e = .returned (.int .i64 (w * diff / y)) ∧ Below W.heap.size W w' := by
  obtain ⟨wn, rfl⟩ := Int.eq_ofNat_of_zero_le (show 0 ≤ w by omega)
  obtain ⟨yn, rfl⟩ := Int.eq_ofNat_of_zero_le (show 0 ≤ y by omega)
  by_cases hd : 0 ≤ diff
  · obtain ⟨dn, rfl⟩ := Int.eq_ofNat_of_zero_le hd
    have := share_pos wn dn yn (by omega) (by omega) (by omega) (by omega) W
    rwa [Int.natCast_ediv, Int.natCast_mul] at this
  · obtain ⟨dn, hdn⟩ := Int.eq_ofNat_of_zero_le (show 0 ≤ -diff by omega)
    obtain rfl : diff = -(dn : Int) := by omega
    have e : (wn : Int) * -(dn : Int) = -((wn * dn : Nat) : Int) := by rw [Int.mul_neg, Int.natCast_mul]
    rw [e]
    by_cases hr : wn * dn % yn = 0
    · rw [neg_floor0 _ _ (by omega) hr]
      exact share_neg0 wn dn yn (by omega) (by omega) (by omega) (by omega) (by omega) hr W
    · rw [neg_floor1 _ _ (by omega) (by omega)]
      exact share_neg1 wn dn yn (by omega) (by omega) (by omega) (by omega) (by omega) (by omega) W
end Go.Proofs.Ytojdgmeefnaejaa
