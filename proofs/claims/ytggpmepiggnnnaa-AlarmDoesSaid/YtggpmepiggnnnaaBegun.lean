import Derived.Test.YtggpmepiggnnnaaOf
import Derived.Test.YtggpmepiggnnnaaEqual
namespace Go.Proofs.Ytggpmepiggnnnaa
open Go.RowKit

theorem run_three (a b c d e f : Int) (w : World) : (Instr.buildSlice 29 3 #[(0, .agg #[.int .i64 a, .int .i64 b]), (1, .agg #[.int .i64 c, .int .i64 d]), (2, .agg #[.int .i64 e, .int .i64 f])]).run Try.prog w = .ok (.slice (some ⟨w.heap.size, 0, none⟩) 3 3) (w.alloc (.cells #[.int .i64 a, .int .i64 b, .int .i64 c, .int .i64 d, .int .i64 e, .int .i64 f] 32)) := by kernel_rfl
theorem run_two (a b c d : Int) (w : World) : (Instr.buildSlice 29 2 #[(0, .agg #[.int .i64 a, .int .i64 b]), (1, .agg #[.int .i64 c, .int .i64 d])]).run Try.prog w = .ok (.slice (some ⟨w.heap.size, 0, none⟩) 2 2) (w.alloc (.cells #[.int .i64 a, .int .i64 b, .int .i64 c, .int .i64 d] 32)) := by kernel_rfl
theorem begun_order : ordL [(5, 1), (3, 2), (5, 0)] = [(3, 2), (5, 0), (5, 1)] := by decide
theorem begun_ok : OfOK [(5, 1), (3, 2), (5, 0)] := ⟨by decide, by decide, by decide⟩
set_option maxRecDepth 100000 in
set_option maxHeartbeats 1000000 in
theorem begun_any (w : World) : Calls Try.prog 10 #[] w fun e w' => e = .returned (.bool true) ∧ Below w.heap.size w w' := by
  have h3 := run_three
  have h2 := run_two
  have o1 : obj (w.alloc (.cells #[.int .i64 5, .int .i64 1, .int .i64 3, .int .i64 2, .int .i64 5, .int .i64 0] 32)) w.heap.size = some (.cells (([(5, 1), (3, 2), (5, 0)] : List Al).flatMap alL).toArray 32 (0, 0)) := obj_alloc_at _ _ _ rfl
  have HO := Lib.hid (of_hp _ _ [(5, 1), (3, 2), (5, 0)] (SlIn.of_cells alL_length _ o1 (by decide)) begun_ok)
  have b1 : Below w.heap.size w (w.alloc (.cells #[.int .i64 5, .int .i64 1, .int .i64 3, .int .i64 2, .int .i64 5, .int .i64 0] 32)) := (Below.refl _ w).alloc (Nat.le_refl _) _
  rw [begun_order] at HO
  go_enter Try.func10, Try.ntmps10
  go_wp2_with fail
  refine HO.out.mono ?_
  rintro e w2 ⟨⟨hb, F, rfl, hh, hF⟩, bb⟩
  have B2 := Lib.hid (b1.trans (bb.mono (by simp)))
  have HP := Lib.hid (pop_hp w2 F hb _ hh)
  have HF : Hid (∀ n, F n → w.heap.size ≤ n) := Lib.hid (fun n hn => by have := hF n hn; simp at this; omega)
  clear hh bb hF
  go_wp2_with fail
  refine HP.out.mono ?_
  rintro e w3 ⟨rfl, h3', k3⟩
  have B3 := Lib.hid (B2.out.trans (k3.below HF.out B2.out.size))
  have H3 := Lib.hid h3'
  clear h3' k3
  have e1 : at' [((3 : Int), (2 : Int)), (5, 0), (5, 1)] 0 = (3, 2) := rfl
  have e2 : peekE [((3 : Int), (2 : Int)), (5, 0), (5, 1)] = 0 := rfl
  rw [e1, e2]
  have b4 : Below w3.heap.size w3 (w3.alloc (.cells #[.int .i64 3, .int .i64 2] 32)) := (Below.refl _ w3).alloc (Nat.le_refl _) _
  have HD := Lib.hid (due_hp _ F hb [(5, 0), (5, 1)] 5 (H3.out.below b4))
  have B4 := Lib.hid (B3.out.trans (b4.mono B3.out.size))
  clear e1 e2
  go_wp2_with fail
  refine HD.out.mono ?_
  rintro e w5 ⟨⟨v5, rfl, o5, n5⟩, h5, k5⟩
  have B5 := Lib.hid (B4.out.trans (k5.below HF.out B4.out.size))
  have e5 : dueL 5 [((5 : Int), (0 : Int)), (5, 1)] = [(5, 0), (5, 1)] := rfl
  rw [e5] at o5
  have b6 : Below w5.heap.size w5 (w5.alloc (.cells #[.int .i64 5, .int .i64 0, .int .i64 5, .int .i64 1] 32)) := (Below.refl _ w5).alloc (Nat.le_refl _) _
  have o6 : obj (w5.alloc (.cells #[.int .i64 5, .int .i64 0, .int .i64 5, .int .i64 1] 32)) w5.heap.size = some (.cells (([(5, 0), (5, 1)] : List Al).flatMap alL).toArray 32 (0, 0)) := obj_alloc_at _ _ _ rfl
  have HE := Lib.hid (equal_any _ v5 _ [(5, 0), (5, 1)] [(5, 0), (5, 1)] ((o5.slIn alL_length).below b6) (SlIn.of_cells alL_length _ o6 (by decide)))
  have B6 := Lib.hid (B5.out.trans (b6.mono B5.out.size))
  clear e5 o5 n5 h5 k5 b6 o6 b4
  go_wp2_with fail
  refine HE.out.mono ?_
  rintro e w7 ⟨rfl, b7⟩
  have B7 := Lib.hid (B6.out.trans (b7.mono B6.out.size))
  go_wp2
  go_ret
  exact ⟨rfl, B7.out⟩
end Go.Proofs.Ytggpmepiggnnnaa
