import Derived.Test.YtggpmepiggnnnaaModel
namespace Go.Proofs.Ytggpmepiggnnnaa
open Go.RowKit

set_option maxRecDepth 100000 in
set_option maxHeartbeats 1000000 in
theorem pop_hp (w : World) (F : Nat → Prop) (hb : Nat) (W : List Al) (h : Hp w F hb W) :
    Calls Try.prog 17 #[.pointer (some ⟨hb, 0, none⟩)] w fun e w' => e = .returned (.tuple #[alV (at' W 0), .int .i64 (peekE W)]) ∧ Hp w' F hb W.tail ∧ Keeps F w w' := by
  have b1 : Below w.heap.size w (w.alloc (.cells #[.int .i64 0, .int .i64 0] 32)) := (Below.refl _ w).alloc (Nat.le_refl _) _
  have o1 : obj (w.alloc (.cells #[.int .i64 0, .int .i64 0] 32)) w.heap.size = some (.cells #[.int .i64 0, .int .i64 0] 32 (0, 0)) := obj_alloc_at _ _ _ rfl
  have H1 := Lib.hid (h.below b1)
  have HP := Lib.hid (peek_hp _ F hb W H1.out)
  have fz : ¬ F w.heap.size := fun hf => absurd (h.old _ hf) (by omega)
  generalize hx : at' W 0 = x at *
  obtain ⟨x1, x2⟩ := x
  have HX := Lib.hid hx
  clear h hx
  go_enter Try.func17, Try.ntmps17
  go_wp2_with fail
  refine HP.out.mono ?_
  rintro e w2 ⟨rfl, b2⟩
  generalize w.alloc (.cells #[.int .i64 0, .int .i64 0] 32) = w1 at *
  have o2 := (obj_below b2 (lt_of_obj o1)).trans o1
  have z2 := lt_of_obj o2
  have H2 := Lib.hid (H1.out.below b2)
  have K2 := Lib.hid ((Keeps.of_below (F := F) b1).trans (Keeps.of_below (F := F) b2))
  have b3 : Below w2.heap.size w2 (w2.alloc (.cells #[.int .i64 x1, .int .i64 x2] 32)) := (Below.refl _ w2).alloc (Nat.le_refl _) _
  have o3 : obj (w2.alloc (.cells #[.int .i64 x1, .int .i64 x2] 32)) w2.heap.size = some (.cells #[.int .i64 x1, .int .i64 x2] 32 (0, 0)) := obj_alloc_at _ _ _ rfl
  have q3 := (obj_below b3 z2).trans o2
  have fz3 : ¬ F w2.heap.size := fun hf => absurd (H2.out.old _ hf) (by omega)
  have H3 := Lib.hid (H2.out.below b3)
  have K3 := Lib.hid (K2.out.trans (Keeps.of_below (F := F) b3))
  have hzz : w.heap.size ≠ w2.heap.size := by omega
  have hle : w.heap.size ≤ w2.heap.size := Nat.le_of_lt z2
  clear o1 o2 b1 b2
  by_cases h0 : W.length = 0
  · have HE : Hid (peekE W = 4) := Lib.hid (if_pos h0)
    have hW : W = [] := List.eq_nil_of_length_eq_zero h0
    subst hW
    rw [HE.out]
    go_wp2
    have oo : obj ((putObj w2 w.heap.size (.cells #[.int .i64 x1, .int .i64 x2] 32)).alloc (.cells #[.int .i64 x1, .int .i64 x2] 32)) w.heap.size = some (.cells #[.int .i64 x1, .int .i64 x2] 32 (0, 0)) := (obj_alloc_past _ _ _ (by simpa using z2)).trans (obj_putObj_eq _ _ _ z2)
    refine bodyPost_ret (results_cell_tmp rfl _ rfl (by rw [run_load32, oo]; rfl)) rfl ?_
    exact ⟨rfl, (H2.out.putNew fz _).alloc _, (keeps_putNew K2.out (Nat.le_refl _) _).alloc _⟩
  · have HE : Hid (peekE W = 0) := Lib.hid (if_neg h0)
    rw [HE.out]
    have HT := Lib.hid (take0_hp _ F hb W H3.out (by omega))
    go_wp2_with fail
    generalize w2.alloc (.cells #[.int .i64 x1, .int .i64 x2] 32) = w3 at *
    refine HT.out.mono ?_
    rintro e w4 ⟨rfl, h4, k4⟩
    have z3 := lt_of_obj o3
    have z3' := lt_of_obj q3
    have o4 := (k4.block _ z3 fz3).trans o3
    have q4 := (k4.block _ z3' fz).trans q3
    have H4 := Lib.hid h4
    have K4 := Lib.hid (K3.out.trans k4)
    have zz := lt_of_obj q4
    clear h4 k4
    go_wp2
    have oo : obj (putObj w4 w.heap.size (.cells #[.int .i64 x1, .int .i64 x2] 32)) w.heap.size = some (.cells #[.int .i64 x1, .int .i64 x2] 32 (0, 0)) := obj_putObj_eq _ _ _ zz
    refine bodyPost_ret (results_cell_tmp rfl _ rfl (by rw [run_load32, oo]; rfl)) rfl ?_
    exact ⟨by rw [HE.out]; rfl, H4.out.putNew fz _, keeps_putNew K4.out (Nat.le_refl _) _⟩
end Go.Proofs.Ytggpmepiggnnnaa
