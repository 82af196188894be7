import Derived.Test.YtagpclgappcnbaaBeSeat
import Derived.Test.YtagpclgappcnbaaBeShelf
import Derived.Lib.SliceRun
namespace Go.Proofs.Ytagpclgappcnbaa.Be
open Go.RowKit

/-- vdr.AtLeast, of numbers that are not below 0 -/
def alG (s t n d : Nat) : Bool := decide (1 ≤ d) && decide (t * n ≤ s * d)
theorem hi_lo (a b : Nat) : (decide ((b / 18446744073709551616 : Nat) < (a / 18446744073709551616 : Nat)) || ((a / 18446744073709551616 : Nat) == b / 18446744073709551616) && decide (b % 18446744073709551616 ≤ a % 18446744073709551616)) = decide (b ≤ a) := by
  rw [Bool.eq_iff_iff]
  simp
  omega
theorem wrapU (x : Int) (h0 : 0 ≤ x) (h1 : x < 18446744073709551616) : IntKind.u64.wrap x = x := by
  simp [IntKind.wrap, IntKind.signed, IntKind.bits]; omega
set_option maxHeartbeats 1000000 in
theorem leastA (s t n d : Nat) (hs : s < 9223372036854775808) (ht : t < 9223372036854775808) (hn : n < 9223372036854775808) (hd : d < 9223372036854775808) (w : World) :
    Calls Try.prog 75 #[.int .i64 s, .int .i64 t, .int .i64 n, .int .i64 d] w fun e w' => e = .returned (.bool (alG s t n d)) ∧ w = w' := by
  have w1 := wrapU s (by omega) (by omega)
  have w2 := wrapU t (by omega) (by omega)
  have w3 := wrapU n (by omega) (by omega)
  have w4 := wrapU d (by omega) (by omega)
  by_cases h : 1 ≤ d
  · have hd' : ¬ (d : Int) < 1 := by omega
    have HR := Lib.hid (show alG s t n d = decide (t * n ≤ s * d) by unfold alG; simp [h])
    have HM := Lib.hid (fun W => Try.bits_Mul64 s d (by omega) (by omega) W)
    have HM2 := Lib.hid (fun W => Try.bits_Mul64 t n (by omega) (by omega) W)
    have HE := Lib.hid (hi_lo (s * d) (t * n))
    generalize (s * d / 18446744073709551616 : Nat) = p1 at *
    generalize (s * d % 18446744073709551616 : Nat) = p2 at *
    generalize (t * n / 18446744073709551616 : Nat) = p3 at *
    generalize (t * n % 18446744073709551616 : Nat) = p4 at *
    go_enter Try.func75, Try.ntmps75
    go_wp2_with fail
    refine (HM.out w).mono ?_
    rintro e wa ⟨rfl, rfl⟩
    go_wp2_with fail
    refine (HM2.out _).mono ?_
    rintro e wa ⟨rfl, rfl⟩
    go_wp2
    all_goals (go_ret; refine ⟨ret_bool ?_, rfl⟩; rw [HR.out, ← HE.out, Bool.eq_iff_iff]; simp_all <;> omega)
  · have hd' : (d : Int) < 1 := by omega
    have HR := Lib.hid (show alG s t n d = false by unfold alG; simp [h])
    go_enter Try.func75, Try.ntmps75
    go_wp2
    go_ret
    exact ⟨ret_bool HR.out.symm, rfl⟩

/-! ### rows of seats -/
theorem info50 : (Try.prog.info? 123).map (fun i => (i.zero, i.size, i.bytes)) = some (some (.agg #[.int .i64 0, .int .i64 0, .int .i64 0]), 3, 24) := by kernel_rfl
theorem flatMap_getD {α : Type} {k : Nat} {enc : α → List Value} (hk : ∀ x, (enc x).length = k) : ∀ (xs : List α) (i r : Nat) (h : i < xs.length), r < k → (xs.flatMap enc)[i * k + r]? = (enc xs[i])[r]? := by
  intro xs i r h hr
  have := flatMap_sub hk xs i h
  have e : (((xs.flatMap enc).drop (i * k)).take k)[r]? = (enc xs[i])[r]? := by rw [this]
  rwa [List.getElem?_take_of_lt hr, List.getElem?_drop] at e
theorem row_cells {α : Type} {w : World} {b off k : Nat} {enc : α → List Value} (hk : ∀ x, (enc x).length = k) (h0 : 0 < k) {xs : List α} (h : RowAt w b off k enc xs) {j : Nat} {u : Value} (hj : (xs.flatMap enc)[j]? = some u) : w.cell? ⟨b, off + j, none⟩ = some u := by
  have hlt : j < xs.length * k := by
    rw [← flatMap_len hk]
    exact (List.getElem?_eq_some_iff.1 hj).1
  have hi : j / k < xs.length := Nat.div_lt_of_lt_mul (by rw [Nat.mul_comm]; exact hlt)
  have hr : j % k < k := Nat.mod_lt _ h0
  have e : j / k * k + j % k = j := by rw [Nat.mul_comm]; exact Nat.div_add_mod j k
  have := subOf_cell (h _ hi) hr
  have h5 : ((enc xs[j / k]).toArray)[j % k]? = some u := by
    rw [List.getElem?_toArray, ← flatMap_getD hk xs _ _ hi hr, e]; exact hj
  rw [h5] at this
  rw [← this]
  congr 2
  omega
theorem zeros_flat : ∀ n, (List.replicate n (⟨0, 0, 0⟩ : St)).flatMap stL = List.replicate (n * 3) (Value.int .i64 0) := by
  intro n
  induction n with
  | zero => rfl
  | succ n ih => rw [List.replicate_succ, List.flatMap_cons, ih, show (n + 1) * 3 = n * 3 + 1 + 1 + 1 by omega, List.replicate_succ, List.replicate_succ, List.replicate_succ]; rfl
theorem makeSeats (n : Nat) (h1 : 1 ≤ n) (h2 : n ≤ 32) (w : World) : Calls Try.prog 32 #[.int .i64 n] w fun e w' => ∃ v, e = .returned (.tuple #[v, .int .i64 0]) ∧ OwnS w' w.heap.size 123 3 stL v (List.replicate n ⟨0, 0, 0⟩) ∧ Below w.heap.size w w' := by
  have h3 : ¬ (n : Int) < 1 := by omega
  have h4 : ¬ (32 : Int) < n := by omega
  obtain ⟨i0, hi, hz0, hz1, hz2⟩ := info_parts info50
  obtain ⟨w', hm, hown, hg⟩ := run_makeSlice_full (P := Try.prog) w w.heap.size 71 123 i0 _ 3 Try.underlying71 hi hz0 hz1 .i64 .i64 n (by omega) (by rw [hz2]; omega) (by unfold maxLen; omega) (Nat.le_refl _)
  have hz : (madeCells (Value.agg #[.int .i64 0, .int .i64 0, .int .i64 0]).cells (n * 3)).toList = (List.replicate n (⟨0, 0, 0⟩ : St)).flatMap stL := by
    rw [zeros_flat, List.eq_replicate_iff]
    refine ⟨by simp [madeCells], fun b hb => ?_⟩
    change b ∈ (madeCells #[.int .i64 0, .int .i64 0, .int .i64 0] (n * 3)).toList at hb
    unfold madeCells at hb
    rw [Array.toList_map, List.mem_map] at hb
    obtain ⟨i, _, rfl⟩ := hb
    have : i % 3 = 0 ∨ i % 3 = 1 ∨ i % 3 = 2 := by omega
    change (#[Value.int .i64 0, .int .i64 0, .int .i64 0] : Array Value)[i % 3]! = _
    rcases this with e | e | e <;> rw [e] <;> rfl
  rw [hz] at hown
  have HO := Lib.hid hown
  have HG := Lib.hid hg
  clear hown hz hi hz0 hz1 hz2 hg
  go_enter Try.func32, Try.ntmps32
  go_wp2
  go_ret2
  refine ⟨_, rfl, ⟨by simpa using HO.out, ?_⟩, ?_⟩
  · constructor
    · intro e; cases e
    · intro e; have := congrArg List.length e; simp at this; omega
  · exact ((Below.refl _ w).grown HG.out (Nat.le_refl _) (fun k e => by cases e))
end Go.Proofs.Ytagpclgappcnbaa.Be
