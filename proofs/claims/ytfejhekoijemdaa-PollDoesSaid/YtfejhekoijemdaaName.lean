import Derived.Test.YtfejhekoijemdaaVote
namespace Go.Proofs.Ytfejhekoijemdaa
open Go.RowKit

def nameP (n : Int) : ID := ⟨UInt8.ofNat (n % 5).toNat :: 9 :: List.replicate 30 0, by simp⟩
theorem run_nm0 (w : World) : (buildAgg 37 #[(0, .int .u8 0), (1, .int .u8 9)]).run Try.prog w = .ok (.agg (idL (nameP 0)).toArray) w := by kernel_rfl
theorem run_nm1 (w : World) : (buildAgg 37 #[(0, .int .u8 1), (1, .int .u8 9)]).run Try.prog w = .ok (.agg (idL (nameP 1)).toArray) w := by kernel_rfl
theorem run_nm2 (w : World) : (buildAgg 37 #[(0, .int .u8 2), (1, .int .u8 9)]).run Try.prog w = .ok (.agg (idL (nameP 2)).toArray) w := by kernel_rfl
theorem run_nm3 (w : World) : (buildAgg 37 #[(0, .int .u8 3), (1, .int .u8 9)]).run Try.prog w = .ok (.agg (idL (nameP 3)).toArray) w := by kernel_rfl
theorem run_nm4 (w : World) : (buildAgg 37 #[(0, .int .u8 4), (1, .int .u8 9)]).run Try.prog w = .ok (.agg (idL (nameP 4)).toArray) w := by kernel_rfl
theorem nameP_mod (n : Int) : nameP n = nameP (n % 5) := by
  unfold nameP
  congr 2
  rw [Int.emod_emod_of_dvd n (Int.dvd_refl 5)]
theorem run_nm (n : Int) (w : World) : (buildAgg 37 #[(0, .int .u8 (n % 5)), (1, .int .u8 9)]).run Try.prog w = .ok (.agg (idL (nameP n)).toArray) w := by
  rw [nameP_mod n]
  have h : n % 5 = 0 ∨ n % 5 = 1 ∨ n % 5 = 2 ∨ n % 5 = 3 ∨ n % 5 = 4 := by omega
  rcases h with h | h | h | h | h <;> rw [h]
  · exact run_nm0 w
  · exact run_nm1 w
  · exact run_nm2 w
  · exact run_nm3 w
  · exact run_nm4 w
set_option maxRecDepth 100000 in
theorem name_any (w : World) (n : Int) (h0 : 0 ≤ n) (h1 : n ≤ 255) : Calls Try.prog 15 #[.int .u8 n] w fun e w' => e = .returned (.agg (idL (nameP n)).toArray) ∧ Below w.heap.size w w' := by
  have hb := fun w => run_nm n w
  have e1 : n.tmod 5 = n % 5 := Int.tmod_eq_emod_of_nonneg h0
  have e2 : IntKind.u8.wrap (n % 5) = n % 5 := by simp [IntKind.wrap, IntKind.signed, IntKind.bits]; omega
  go_enter Try.func15, Try.ntmps15
  go_wp2_with fail
  have p4 : subOf (obj (w.alloc (.cells (idL (nameP n)).toArray 37)) w.heap.size) 0 32 = some (idL (nameP n)).toArray := by
    rw [obj_alloc_at _ _ _ rfl, subOf_cells (by simp), subA_all (by simp)]
  refine bodyPost_ret (results_cell rfl _ rfl (by rw [run_load37, p4]; rfl)) rfl ?_
  exact ⟨rfl, (Below.refl _ w).alloc (Nat.le_refl _) _⟩
end Go.Proofs.Ytfejhekoijemdaa
