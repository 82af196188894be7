import Derived.Test.YtfejhekoijemdaaCheck
import Derived.Test.YtfejhekoijemdaaPlainA
namespace Go.Proofs.Ytfejhekoijemdaa
open Go.RowKit

set_option maxRecDepth 100000 in
set_option maxHeartbeats 1000000 in
/-- bag.good -/
theorem good_at (w w0 : World) (v : Value) (l : List Vt) (h : SlIn w0 v 33 vtL l) (hb0 : Below w0.heap.size w0 w) : Calls Try.prog 63 #[v] w fun e w' => ∃ oa cap, e = .returned (.slice oa (goodV l).length cap) ∧ SlIn w0 (.slice oa (goodV l).length cap) 33 vtL (goodV l) ∧ Below w.heap.size w w' := by
  have HC := Lib.hid (check_any w v l (h.below hb0))
  clear hb0
  have HSL := Lib.hid h
  obtain ⟨oa, cap, rfl, g1, g2, g3⟩ := h
  clear g3
  by_cases hb : bagE l = 0
  · have hg : goodV l = l := by unfold goodV; rw [if_pos hb]
    rw [hb] at HC
    have HG := Lib.hid hg
    clear hg hb
    go_enter Try.func63, Try.ntmps63
    go_wp2_with fail
    refine HC.out.mono ?_
    rintro e w1 ⟨rfl, b1⟩
    have B1 := Lib.hid b1
    clear b1
    go_wp2
    go_ret
    rw [HG.out]
    exact ⟨oa, cap, rfl, HSL.out, B1.out⟩
  · have hg : goodV l = [] := by unfold goodV; rw [if_neg hb]
    have h70 : bagE l = 70 := by
      unfold bagE at hb ⊢
      split at hb
      · exact absurd rfl hb
      · rename_i h; rw [if_neg h]
    rw [h70] at HC
    have HG := Lib.hid hg
    clear hg hb h70
    go_enter Try.func63, Try.ntmps63
    go_wp2_with fail
    refine HC.out.mono ?_
    rintro e w1 ⟨rfl, b1⟩
    have B1 := Lib.hid b1
    clear b1
    go_wp2
    go_ret
    rw [HG.out]
    exact ⟨none, 0, rfl, ⟨none, 0, rfl, Nat.le_refl _, Nat.zero_le _, fun h => absurd h (Nat.lt_irrefl _)⟩, B1.out⟩
theorem good_any (w : World) (v : Value) (l : List Vt) (h : SlIn w v 33 vtL l) : Calls Try.prog 63 #[v] w fun e w' => ∃ oa cap, e = .returned (.slice oa (goodV l).length cap) ∧ SlIn w (.slice oa (goodV l).length cap) 33 vtL (goodV l) ∧ Below w.heap.size w w' := good_at w w v l h (Below.refl _ _)
end Go.Proofs.Ytfejhekoijemdaa
