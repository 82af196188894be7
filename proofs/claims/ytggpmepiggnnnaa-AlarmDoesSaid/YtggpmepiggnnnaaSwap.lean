import Derived.Test.YtggpmepiggnnnaaLay
namespace Go.Proofs.Ytggpmepiggnnnaa
open Go.RowKit

set_option maxRecDepth 100000 in
set_option maxHeartbeats 1000000 in
theorem swap_any (w : World) (F : Nat → Prop) (hb m : Nat) (sv : Value) (L : List Al) (M : List (Int × Int)) (i k : Nat) (h : RawAt w F hb m sv L M) (hi : i < L.length) (hk : k < L.length) :
    Calls Try.prog 53 #[.pointer (some ⟨hb, 0, none⟩), .int .i64 i, .int .i64 k] w fun e w' => (∃ v, e = .returned v) ∧
      RawAt w' F hb m sv (swapL L i k) (aPut L[i].2 k (aPut L[k].2 i M)) ∧ Keeps F w w' := by
  obtain ⟨oa, cap, rfl, q1, q2, q3⟩ := row_sub h.row
  obtain ⟨g, cur, rfl, hgo, _, hg, hcs, htk⟩ := q3 (by omega)
  unfold maxLen at q2
  have s1 := row_get htk hcs q1 hi
  have s2 := row_get htk hcs q1 hk
  rw [← hg] at s1 s2
  have hgz := lt_of_obj hg
  have hbox := h.box
  have hbz := lt_of_obj hbox
  have c0 : w.cell? ⟨hb, 0, none⟩ = some (.slice (some ⟨g, 0, none⟩) L.length cap) := cell_at hbox 0
  have HSW : Hid (swapL L i k = (L.set i L[k]).set k L[i]) := Lib.hid (by simp [swapL, hi, hk])
  generalize L[i] = x at *
  generalize L[k] = y at *
  obtain ⟨x1, x2⟩ := x
  obtain ⟨y1, y2⟩ := y
  have HH := Lib.hid h
  clear hg htk h q3 hbox
  go_enter Try.func53, Try.ntmps53
  go_wp2
  go_region
  · have o6 : obj ((w.alloc (.cells #[.int .i64 x1, .int .i64 x2] 32)).alloc (.cells #[.int .i64 y1, .int .i64 y2] 32)).drew w.heap.size = some (.cells #[.int .i64 x1, .int .i64 x2] 32 (0, 0)) := (obj_alloc_past _ _ _ (by simp)).trans (obj_alloc_at _ _ _ rfl)
    have o7 : obj ((w.alloc (.cells #[.int .i64 x1, .int .i64 x2] 32)).alloc (.cells #[.int .i64 y1, .int .i64 y2] 32)).drew (w.heap.size + 1) = some (.cells #[.int .i64 y1, .int .i64 y2] 32 (0, 0)) := obj_alloc_at _ _ _ (by simp)
    have bw : Below w.heap.size w ((w.alloc (.cells #[.int .i64 x1, .int .i64 x2] 32)).alloc (.cells #[.int .i64 y1, .int .i64 y2] 32)).drew := (((Below.refl _ w).alloc (Nat.le_refl _) _).alloc (by simp) _).drew
    generalize ((w.alloc (.cells #[.int .i64 x1, .int .i64 x2] 32)).alloc (.cells #[.int .i64 y1, .int .i64 y2] 32)).drew = w1 at *
    have f6 : ¬ F w.heap.size := fun hf => absurd (HH.out.old _ hf) (by omega)
    generalize hb7 : w.heap.size + 1 = b7 at o7 ⊢
    generalize hb6 : w.heap.size = b6 at o6 f6 ⊢
    have z6 := lt_of_obj o6
    have z7 := lt_of_obj o7
    have R1 := Lib.hid (HH.out.below bw)
    go_wp2_with fail
    refine (lay_any w1 F hb m _ L M i (y1, y2) R1.out hi).mono ?_
    rintro e w2 ⟨⟨v2, rfl⟩, r2, k2⟩
    have p6 := (k2.block b6 z6 f6).trans o6
    have y6 := lt_of_obj p6
    have R2 := Lib.hid r2
    have K2 := Lib.hid ((Keeps.of_below bw).trans k2)
    clear r2 k2 o6 o7 z6 z7 c0
    go_wp2_with fail
    refine (lay_any w2 F hb m _ _ _ k (x1, x2) R2.out (by rw [List.length_set]; exact hk)).mono ?_
    rintro e w3 ⟨⟨v3, rfl⟩, r3, k3⟩
    have R3 := Lib.hid r3
    have K3 := Lib.hid (K2.out.trans k3)
    clear r3 k3
    go_wp2
    go_end0
    exact ⟨⟨_, rfl⟩, by rw [HSW.out]; exact R3.out, K3.out⟩
  · have o6 : obj ((w.alloc (.cells #[.int .i64 y1, .int .i64 y2] 32)).alloc (.cells #[.int .i64 x1, .int .i64 x2] 32)).drew (w.heap.size + 1) = some (.cells #[.int .i64 x1, .int .i64 x2] 32 (0, 0)) := obj_alloc_at _ _ _ (by simp)
    have o7 : obj ((w.alloc (.cells #[.int .i64 y1, .int .i64 y2] 32)).alloc (.cells #[.int .i64 x1, .int .i64 x2] 32)).drew w.heap.size = some (.cells #[.int .i64 y1, .int .i64 y2] 32 (0, 0)) := (obj_alloc_past _ _ _ (by simp)).trans (obj_alloc_at _ _ _ rfl)
    have bw : Below w.heap.size w ((w.alloc (.cells #[.int .i64 y1, .int .i64 y2] 32)).alloc (.cells #[.int .i64 x1, .int .i64 x2] 32)).drew := (((Below.refl _ w).alloc (Nat.le_refl _) _).alloc (by simp) _).drew
    generalize ((w.alloc (.cells #[.int .i64 y1, .int .i64 y2] 32)).alloc (.cells #[.int .i64 x1, .int .i64 x2] 32)).drew = w1 at *
    have f6 : ¬ F (w.heap.size + 1) := fun hf => absurd (HH.out.old _ hf) (by omega)
    generalize hb6 : w.heap.size + 1 = b6 at o6 f6 ⊢
    generalize hb7 : w.heap.size = b7 at o7 ⊢
    have z6 := lt_of_obj o6
    have z7 := lt_of_obj o7
    have R1 := Lib.hid (HH.out.below bw)
    go_wp2_with fail
    refine (lay_any w1 F hb m _ L M i (y1, y2) R1.out hi).mono ?_
    rintro e w2 ⟨⟨v2, rfl⟩, r2, k2⟩
    have p6 := (k2.block b6 z6 f6).trans o6
    have y6 := lt_of_obj p6
    have R2 := Lib.hid r2
    have K2 := Lib.hid ((Keeps.of_below bw).trans k2)
    clear r2 k2 o6 o7 z6 z7 c0
    go_wp2_with fail
    refine (lay_any w2 F hb m _ _ _ k (x1, x2) R2.out (by rw [List.length_set]; exact hk)).mono ?_
    rintro e w3 ⟨⟨v3, rfl⟩, r3, k3⟩
    have R3 := Lib.hid r3
    have K3 := Lib.hid (K2.out.trans k3)
    clear r3 k3
    go_wp2
    go_end0
    exact ⟨⟨_, rfl⟩, by rw [HSW.out]; exact R3.out, K3.out⟩
end Go.Proofs.Ytggpmepiggnnnaa
