import Derived.Test.YtggpmepiggnnnaaPushY
namespace Go.Proofs.Ytggpmepiggnnnaa
open Go.RowKit

set_option maxRecDepth 100000 in
theorem len_any (w : World) (F : Nat → Prop) (hb m : Nat) (sv : Value) (L : List Al) (M : List (Int × Int)) (h : RawAt w F hb m sv L M) :
    Calls Try.prog 12 #[.pointer (some ⟨hb, 0, none⟩)] w fun e w' => e = .returned (.int .i64 L.length) ∧ w' = w := by
  have HNO := Lib.hid h.none
  obtain ⟨oa, cap, rfl, q1, q2, q3⟩ := row_sub h.row
  have c0 : w.cell? ⟨hb, 0, none⟩ = some (.slice oa L.length cap) := cell_at h.box 0
  clear h q3
  go_enter Try.func12, Try.ntmps12
  go_wp2_with fail
  refine HNO.out.mono ?_
  rintro e w1 ⟨rfl, rfl⟩
  go_wp2
  go_ret
  exact ⟨rfl, rfl⟩
theorem Spec.nil : Spec [] [] := ⟨fun j hj => by simp at hj, fun _ _ => rfl, List.nodup_nil⟩
set_option maxRecDepth 100000 in
theorem new_any (w : World) : Calls Try.prog 9 #[] w fun e w' => e = .returned (.pointer (some ⟨w.heap.size + 1, 0, none⟩)) ∧
    RawAt w' (fun n => n = w.heap.size ∨ n = w.heap.size + 1) (w.heap.size + 1) w.heap.size (.slice none 0 0) [] [] ∧ Below w.heap.size w w' := by
  have hmm := @run_makeMap Try.prog
  go_enter Try.func9, Try.ntmps9
  go_wp2
  go_ret
  refine ⟨rfl, ⟨obj_alloc_at _ _ _ (by simp), World.ownsRow_nil _ _ _ _, ⟨#[], 0, (obj_alloc_past _ _ _ (by simp)).trans (obj_alloc_at _ _ _ rfl), trivial⟩, .inr rfl, .inl rfl, fun g hg => by simp [Value.ownBlock] at hg, fun n hn => by rcases hn with rfl | rfl <;> simp <;> omega⟩, ?_⟩
  exact ((Below.refl _ w).alloc (Nat.le_refl _) _).alloc (by simp) _
end Go.Proofs.Ytggpmepiggnnnaa
