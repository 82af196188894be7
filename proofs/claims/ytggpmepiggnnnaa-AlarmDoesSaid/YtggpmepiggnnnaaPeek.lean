import Derived.Test.YtggpmepiggnnnaaCut
namespace Go.Proofs.Ytggpmepiggnnnaa
open Go.RowKit

def peekE (L : List Al) : Int := if L.length = 0 then 4 else 0
set_option maxRecDepth 100000 in
theorem peek_any (w : World) (F : Nat → Prop) (hb m : Nat) (sv : Value) (L : List Al) (M : List (Int × Int)) (h : RawAt w F hb m sv L M) :
    Calls Try.prog 30 #[.pointer (some ⟨hb, 0, none⟩)] w fun e w' => e = .returned (.tuple #[alV (at' L 0), .int .i64 (peekE L)]) ∧ Below w.heap.size w w' := by
  have b1 : Below w.heap.size w (w.alloc (.cells #[.int .i64 0, .int .i64 0] 32)) := (Below.refl _ w).alloc (Nat.le_refl _) _
  have HNO := Lib.hid (h.below b1).none
  obtain ⟨oa, cap, rfl, q1, q2, q3⟩ := row_sub h.row
  unfold maxLen at q2
  have c0 : w.cell? ⟨hb, 0, none⟩ = some (.slice oa L.length cap) := cell_at h.box 0
  have hz := h.lt.1
  by_cases h0 : L.length = 0
  · have hL : L = [] := List.eq_nil_of_length_eq_zero h0
    subst hL
    clear h q3
    go_enter Try.func30, Try.ntmps30
    go_wp2_with fail
    refine HNO.out.mono ?_
    rintro e w1 ⟨rfl, rfl⟩
    go_wp2
    have o2 : obj (w.alloc (.cells #[.int .i64 0, .int .i64 0] 32)) w.heap.size = some (.cells #[.int .i64 0, .int .i64 0] 32 (0, 0)) := obj_alloc_at _ _ _ rfl
    refine bodyPost_ret (results_cell_tmp rfl _ rfl (by rw [run_load32, o2]; rfl)) rfl ?_
    exact ⟨rfl, b1⟩
  · obtain ⟨g, cur, rfl, _, _, hg, hcs, htk⟩ := q3 (by omega)
    have s1 := row_get htk hcs q1 (i := 0) (by omega)
    have hat : at' L 0 = L[0]'(by omega) := at'_eq (by omega)
    rw [← hg] at s1
    have hgz := lt_of_obj hg
    have HA := Lib.hid hat
    generalize L[0]'(by omega) = x at *
    obtain ⟨x1, x2⟩ := x
    have HPE := Lib.hid (show peekE L = 0 from if_neg h0)
    have hpos : (0 : Int) < (L.length : Int) := by omega
    clear h htk hcs hat hg
    go_enter Try.func30, Try.ntmps30
    go_wp2_with fail
    refine HNO.out.mono ?_
    rintro e w1 ⟨rfl, rfl⟩
    go_wp2
    have o2 : obj (w.alloc (.cells #[.int .i64 x1, .int .i64 x2] 32)) w.heap.size = some (.cells #[.int .i64 x1, .int .i64 x2] 32 (0, 0)) := obj_alloc_at _ _ _ rfl
    refine bodyPost_ret (results_cell_tmp rfl _ rfl (by rw [run_load32, o2]; rfl)) rfl ?_
    exact ⟨by rw [HA.out, HPE.out]; rfl, (Below.refl _ w).alloc (Nat.le_refl _) _⟩
end Go.Proofs.Ytggpmepiggnnnaa
