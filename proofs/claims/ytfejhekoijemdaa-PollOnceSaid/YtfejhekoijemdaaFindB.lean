import Derived.Test.YtfejhekoijemdaaFind
namespace Go.Proofs.Ytfejhekoijemdaa
open Go.RowKit

set_option maxRecDepth 100000 in
set_option maxHeartbeats 1000000 in
/-- (*Set).find -/
theorem find_any (w : World) (M V : Nat → Prop) (b : Nat) (lv : Value) (ps : List (Nat × Nat)) (S : SetM) (h : SetW w M V b lv ps S) (hp : 1 ≤ S.pref) (n : Int) :
    Calls Try.prog 33 #[.pointer (some ⟨b, 0, none⟩), .int .i64 n] w fun e w' => e = .returned (.pointer (ptrO ps (findI n S.l))) ∧ Below w.heap.size w w' := by
  have hw1 := h.alloc (.cells #[.int .i64 n] 2)
  have B1 := Lib.hid ((Below.refl _ w).alloc (Nat.le_refl _) (.cells #[.int .i64 n] 2))
  have hc : (w.alloc (.cells #[.int .i64 n] 2)).cell? ⟨w.heap.size, 0, none⟩ = some (.int .i64 n) := cell_at (obj_alloc_at w _ _ rfl) 0
  have HN := Lib.hid (none_no _ M V b lv ps S hw1 hp)
  have HI := Lib.hid (index_any _ M V b lv ps S hw1 w.heap.size n hc)
  have HW := Lib.hid hw1
  have c3 : (w.alloc (.cells #[.int .i64 n] 2)).cell? ⟨b, 3, none⟩ = some lv := cell_at hw1.box 3
  have hlen := h.len
  cases hf : findI n S.l with
  | none =>
    have hr : findR n S.l = -1 := by unfold findR; rw [hf]
    rw [hr] at HI
    clear h hw1 hf hr
    go_enter Try.func33, Try.ntmps33
    go_wp2_with fail
    refine HN.out.mono ?_
    rintro e w1 ⟨rfl, rfl⟩
    go_wp2_with fail
    refine HI.out.mono ?_
    rintro e w2 ⟨rfl, b2⟩
    go_wp2
    go_ret
    exact ⟨rfl, B1.out.trans (b2.mono B1.out.size)⟩
  | some i =>
    have hr : findR n S.l = i := by unfold findR; rw [hf]
    obtain ⟨hi, _⟩ := findI_lt hf
    have hil : i < ps.length := by omega
    have hP : Hid (ptrO ps (some i) = some ⟨ps[i].1, 0, none⟩) := Lib.hid (by unfold ptrO; simp [hil])
    rw [hr] at HI
    obtain ⟨oa, cap, rfl, h1, h2, h3⟩ := h.row.slIn
    have H3 := Lib.hid h3
    unfold maxLen at h2
    obtain ⟨bb, off, hoa, hbb, hrow⟩ := H3.out (by omega)
    subst hoa
    have hs1 := hrow i hil
    have hz1 : (w.alloc (.cells #[.int .i64 n] 2)).heap.size = w.heap.size + 1 := by simp
    have hbl := h.lt
    have e0 : ∀ W : World, Below (w.heap.size + 1) (w.alloc (.cells #[.int .i64 n] 2)) W → W.cell? ⟨bb, off + i, none⟩ = some (.pointer (some ⟨ps[i].1, 0, none⟩)) ∧ W.cell? ⟨b, 3, none⟩ = some (.slice (some ⟨bb, off, none⟩) ps.length cap) := fun W hb => by
      refine ⟨?_, (World.cell?_of_block (a := ⟨b, 3, none⟩) (obj_below hb (show b < w.heap.size + 1 by omega))).trans c3⟩
      refine (World.cell?_of_block (a := ⟨bb, off + i, none⟩) (obj_below hb (show bb < w.heap.size + 1 by omega))).trans ?_
      refine (World.cell?_of_block (w := w) (a := ⟨bb, off + i, none⟩) (obj_alloc_past _ _ _ hbb)).trans ?_
      have := subOf_cell hs1 (j := 0) (by decide)
      simpa [ptrL, ptrV] using this
    have E0 := Lib.hid e0
    have hil2 : ¬ (i : Int) < 0 := by omega
    clear h hw1 hf hr h3 hrow hs1 e0 hlen
    go_enter Try.func33, Try.ntmps33
    go_wp2_with fail
    refine HN.out.mono ?_
    rintro e w1 ⟨rfl, rfl⟩
    go_wp2_with fail
    refine HI.out.mono ?_
    rintro e w2 ⟨rfl, b2⟩
    obtain ⟨d1, d2⟩ := E0.out w2 (by rw [← hz1]; exact b2)
    go_wp2
    go_ret
    exact ⟨by rw [hP.out]; rfl, B1.out.trans (b2.mono (by omega))⟩
end Go.Proofs.Ytfejhekoijemdaa
