import Derived.Test.YtagpclgappcnbaaBeTurn
import Derived.Test.YtagpclgappcnbaaBeStake
namespace Go.Proofs.Ytagpclgappcnbaa.Be
open Go.RowKit

set_option maxRecDepth 100000 in
set_option maxHeartbeats 1000000 in
/-- bench.Replied, of what may be -/
theorem replied_any (w : World) (r : Rul) (v1 v2 : Value) (l : List Vd) (s : List St) (i : Nat) (h : SlIn w v1 2 vdL l) (h2 : SlIn w v2 3 stL s) (hm : mayE r l s = 0) (hi : i < s.length) :
    Calls Try.prog 44 #[ruV r, v1, v2, .int .i64 i] w fun e w' => ∃ v, e = .returned (.tuple #[v, .int .i64 0]) ∧ OwnS w' w.heap.size 123 3 stL v (s.set i ⟨0, 0, s[i].u⟩) ∧ Below w.heap.size w w' := by
  have b1 : Below w.heap.size w (w.alloc (.cells (ruC r) 25)) := (Below.refl _ _).alloc (Nat.le_refl _) _
  have HM := Lib.hid (mayL_any _ r v1 v2 l s (h.below b1) (h2.below b1))
  obtain ⟨_, hc, hl, _⟩ := mayE_0 hm
  obtain ⟨_, hl32, _, _⟩ := chk_32 hc
  have HS2 := Lib.hid h2
  rw [hm] at HM
  obtain ⟨oa, cap, rfl, g1, g2, g3⟩ := h
  unfold maxLen at g2
  obtain ⟨oa2, cap2, rfl, k1, k2, k3⟩ := h2
  unfold maxLen at k2
  have HL := Lib.hid hl
  have hi1 : ¬ (i : Int) < 0 := by omega
  have hi2 : ¬ (l.length : Int) ≤ (i : Int) := by omega
  have B1 := Lib.hid b1
  clear g3 k3 hm hc hl b1
  simp only [ruV, ruC] at *
  go_enter Try.func44, Try.ntmps44
  go_wp2_with fail
  generalize w.alloc (.cells #[.int .i64 r.f, .int .i64 r.lo, .int .i64 r.fo, .int .i64 r.nu, .int .i64 r.de] 25) = w1 at *
  refine HM.out.mono ?_
  rintro e w2 ⟨rfl, b2⟩
  have B2 := Lib.hid (B1.out.trans (b2.mono B1.out.size))
  have HT := Lib.hid (turned_any w2 _ s i (HS2.out.below B2.out) hi (by have := HL.out; omega) 73 #[] eg41 (TurnPost w2 s i ⟨0, 0, s[i].u⟩) (fun W g cap cur q1 q2 q3 q4 q5 q6 q7 => replied_cl w2 s i hi W g cap cur q1 q2 q3 q4 q5 q6 q7))
  clear b2 HM
  go_wp2_with fail
  refine HT.out.mono ?_
  rintro e w3 ⟨g, cap3, rfl, p1, p2⟩
  go_wp2
  go_ret2
  refine ⟨_, rfl, ?_, B2.out.trans (p2.mono B2.out.size)⟩
  exact ⟨⟨p1.1.1, by
    rcases p1.1.2 with h | ⟨g', c', cur, e, hb, h⟩
    · exact .inl h
    · exact .inr ⟨g', c', cur, e, Nat.le_trans B2.out.size hb, h⟩⟩, p1.2⟩
end Go.Proofs.Ytagpclgappcnbaa.Be
