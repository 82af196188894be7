import Derived.Test.YtiknonljdibfgaaWith
import Derived.Test.YtiknonljdibfgaaWays
namespace Go.Proofs.Ytiknonljdibfgaa
open Go.RowKit

set_option maxRecDepth 100000 in
set_option maxHeartbeats 2000000 in
/-- flurryref15.Failed, of one that is benched already -/
theorem failedR_is (w : World) (r : Rul) (v1 v2 : Value) (l : List Vd) (s : List St) (i : Nat) (now : Int) (h : SlIn w v1 2 vdL l) (h2 : SlIn w v2 3 stL s) (hN : ∀ x ∈ l, x.name.size ≤ 300) (hm : mayE r l s = 0) (hi : i < s.length) (hn0 : 0 ≤ now) (hn1 : now ≤ 4611686018427387903) (hnot : isB s (i : Int) now = true) :
    Calls Try.prog 33 #[ruV r, v1, v2, .int .i64 i, .int .i64 now] w fun e w' => ∃ v : Value, e = .returned (.tuple #[v, .bool false, .int .i64 0]) ∧ OwnS w' w.heap.size 50 3 stL v s ∧ Below w.heap.size w w' := by
  have b1 : Below w.heap.size w (w.alloc (.cells (ruC r) 23)) := (Below.refl _ _).alloc (Nat.le_refl _) _
  have o1 : obj (w.alloc (.cells (ruC r) 23)) w.heap.size = some (.cells (ruC r) 23 (0, 0)) := obj_alloc_at _ _ _ rfl
  have HM := Lib.hid (mayR_any _ r v1 v2 l s (h.below b1) (h2.below b1) hN)
  obtain ⟨hre, hc, hl, hall⟩ := mayE_0 hm
  obtain ⟨_, hl32, _, _⟩ := chk_32 hc
  have HS := Lib.hid h
  have HS2 := Lib.hid h2
  have HNN := Lib.hid hN
  have HMM := Lib.hid hm
  have hq := ruleE_n hre
  have hx := mayB_n (mayE_at hm hi)
  rw [hm] at HM
  obtain ⟨oa, cap, rfl, g1, g2, g3⟩ := h
  unfold maxLen at g2
  obtain ⟨oa2, cap2, rfl, k1, k2, k3⟩ := h2
  unfold maxLen at k2
  have HL := Lib.hid hl
  have hi1 : ¬ (i : Int) < 0 := by omega
  have hi2 : ¬ (s.length : Int) ≤ (i : Int) := by omega
  have hi3 : i < l.length := by omega
  have hil : (i : Int) < (l.length : Int) := by omega
  obtain ⟨b, off, rfl, hbb, hrow⟩ := g3 (by omega)
  obtain ⟨b2, off2, rfl, hbb2, hrow2⟩ := k3 (by omega)
  have HR1 := Lib.hid (hrow i hi3)
  have HR2 := Lib.hid (hrow2 i hi)
  have HWA : Hid (wtA l (i : Int) = l[i].wt) := Lib.hid (by unfold wtA; simp [List.getD, hi3])
  have B1 := Lib.hid b1
  have O1 := Lib.hid o1
  have HNOT := Lib.hid hnot
  have HIN := Lib.hid (fun W => in_any now 4611686018427387903 W)
  rw [show (decide (0 ≤ now) && decide (now ≤ 4611686018427387903)) = true by simp; omega] at HIN
  clear g3 k3 hm hc hl b1 o1 hall hrow hrow2 hnot hre
  simp only [ruV, ruC] at *
  go_enter Try.func33, Try.ntmps33
  go_wp2_with fail
  generalize (w.alloc (.cells #[.int .i64 r.f, .int .i64 r.lo, .int .i64 r.fo, .int .i64 r.nu, .int .i64 r.de] 23)) = w1 at *
  refine HM.out.mono ?_
  rintro e w2 ⟨rfl, b2'⟩
  have B2 := Lib.hid (B1.out.trans (b2'.mono B1.out.size))
  have O2 := Lib.hid ((obj_below b2' (lt_of_obj O1.out)).trans O1.out)
  have HIS := Lib.hid (isR_any w2 _ s (i : Int) now (HS2.out.below B2.out))
  rw [HNOT.out] at HIS
  clear b2' HM B1 O1
  go_wp2_with fail
  refine (HIN.out _).mono ?_
  rintro e w3 ⟨rfl, rfl⟩
  go_wp2_with fail
  refine HIS.out.mono ?_
  rintro e w3 ⟨rfl, rfl⟩
  have hs2 := HR2.out
  rw [← obj_below B2.out hbb2] at hs2
  have hbl2 : b2 < w2.heap.size := Nat.lt_of_lt_of_le hbb2 B2.out.size
  have HWI := Lib.hid (with_any w2 _ s i s[i] (HS2.out.below B2.out) hi (by have := HL.out; omega))
  rw [List.set_getElem_self] at HWI
  generalize s[i] = x at hs2 hx HWI
  obtain ⟨xf, xs, xu⟩ := x
  simp only [stL, stV] at hs2 HWI
  clear HIS HNOT HIN HR2
  go_wp2_with fail
  refine HWI.out.mono ?_
  rintro e w9 ⟨v9, rfl, q9, b9⟩
  go_wp2
  refine bodyPost_ret (v := .tuple #[v9, .bool false, .int .i64 0]) (by simp [results, Try.results33, go_sem]) rfl ⟨v9, rfl, q9.rebase B2.out.size, B2.out.trans (b9.mono B2.out.size)⟩
end Go.Proofs.Ytiknonljdibfgaa
