import Derived.Test.YtagpclgappcnbaaBeShr
namespace Go.Proofs.Ytagpclgappcnbaa.Be
open Go.RowKit

/-! ### Failed, of one that is benched already; of any -/
set_option maxRecDepth 100000 in
set_option maxHeartbeats 1000000 in
theorem failed_is (w : World) (r : Rul) (v1 v2 : Value) (l : List Vd) (s : List St) (i : Nat) (now : Int) (h : SlIn w v1 2 vdL l) (h2 : SlIn w v2 3 stL s) (hm : mayE r l s = 0) (hi : i < s.length) (hn0 : 0 ≤ now) (hn1 : now ≤ 4611686018427387903) (hnot : isB s (i : Int) now = true) :
    Calls Try.prog 46 #[ruV r, v1, v2, .int .i64 i, .int .i64 now] w fun e w' => ∃ v : Value, e = .returned (.tuple #[v, .bool false, .int .i64 0]) ∧ OwnS w' w.heap.size 123 3 stL v s ∧ Below w.heap.size w w' := by
  have b1 : Below w.heap.size w ((w.alloc (.cells (ruC r) 25)).alloc (.cells #[.int .i64 now] 2)) := ((Below.refl _ _).alloc (Nat.le_refl _) _).alloc (by simp) _
  have o1 : obj ((w.alloc (.cells (ruC r) 25)).alloc (.cells #[.int .i64 now] 2)) w.heap.size = some (.cells (ruC r) 25 (0, 0)) := (obj_alloc_past _ _ _ (by simp)).trans (obj_alloc_at _ _ _ rfl)
  have o2 : obj ((w.alloc (.cells (ruC r) 25)).alloc (.cells #[.int .i64 now] 2)) (w.heap.size + 1) = some (.cells #[.int .i64 now] 2 (0, 0)) := obj_alloc_at _ _ _ (by simp)
  have HM := Lib.hid (mayL_any _ r v1 v2 l s (h.below b1) (h2.below b1))
  obtain ⟨hre, hc, hl, hall⟩ := mayE_0 hm
  obtain ⟨_, hl32, _, _⟩ := chk_32 hc
  have HS2 := Lib.hid h2
  rw [hm] at HM
  obtain ⟨oa, cap, rfl, g1, g2, g3⟩ := h
  unfold maxLen at g2
  obtain ⟨oa2, cap2, rfl, k1, k2, k3⟩ := h2
  unfold maxLen at k2
  have HL := Lib.hid hl
  have hi1 : ¬ (i : Int) < 0 := by omega
  have hi2 : ¬ (l.length : Int) ≤ (i : Int) := by omega
  have hnn : ¬ now < 0 := by omega
  have hnm : ¬ (4611686018427387903 : Int) < now := by omega
  have B1 := Lib.hid b1
  have HNOT := Lib.hid hnot
  clear g3 k3 hm hc hl b1 hre hall hnot
  simp only [ruV, ruC] at *
  go_enter Try.func46, Try.ntmps46
  go_wp2_with fail
  generalize (w.alloc (.cells #[.int .i64 r.f, .int .i64 r.lo, .int .i64 r.fo, .int .i64 r.nu, .int .i64 r.de] 25)).alloc (.cells #[.int .i64 now] 2) = w1 at *
  refine HM.out.mono ?_
  rintro e w2 ⟨rfl, b2⟩
  have B2 := Lib.hid (B1.out.trans (b2.mono B1.out.size))
  have p1 := (obj_below b2 (lt_of_obj o1)).trans o1
  have p2 := (obj_below b2 (lt_of_obj o2)).trans o2
  have z1 := lt_of_obj p1
  have z2 := lt_of_obj p2
  have q0 : w2.cell? ⟨w.heap.size + 1, 0, none⟩ = some (.int .i64 now) := cell_at p2 0
  have HIS := Lib.hid (is_any w2 _ s (i : Int) now (HS2.out.below B2.out))
  rw [HNOT.out] at HIS
  have HCL := Lib.hid (clone_any w2 _ s (HS2.out.below B2.out) (by omega) (by have := HL.out; omega))
  clear b2 HM o1 o2
  go_wp2_with fail
  refine HIS.out.mono ?_
  rintro e w3 ⟨rfl, rfl⟩
  go_wp2_with fail
  refine HCL.out.mono ?_
  rintro e w3 ⟨v, rfl, q1, q2⟩
  go_wp2
  refine bodyPost_ret (v := .tuple #[v, .bool false, .int .i64 0]) (by simp [results, Try.results46, go_sem]) rfl ⟨v, rfl, ?_, B2.out.trans (q2.mono B2.out.size)⟩
  exact ⟨⟨q1.1.1, by
    rcases q1.1.2 with h | ⟨g', c', cur, e, hb, h⟩
    · exact .inl h
    · exact .inr ⟨g', c', cur, e, Nat.le_trans B2.out.size hb, h⟩⟩, q1.2⟩
def roomF (r : Rul) (l : List Vd) (s : List St) (i : Nat) (now : Int) : Bool := alI (tot l) (IntKind.i64.wrap (stkI l s now + wtA l i)) r.de r.nu
def stepF (r : Rul) (l : List Vd) (s : List St) (i : Nat) (now : Int) : List St := if isB s (i : Int) now = true then s else s.set i (nSeat r (s.getD i ⟨0, 0, 0⟩) now (roomF r l s i now))
def benF (r : Rul) (l : List Vd) (s : List St) (i : Nat) (now : Int) : Bool := if isB s (i : Int) now = true then false else !stays r (s.getD i ⟨0, 0, 0⟩) now (roomF r l s i now)
theorem failed_step (w : World) (r : Rul) (v1 v2 : Value) (l : List Vd) (s : List St) (i : Nat) (now : Int) (h : SlIn w v1 2 vdL l) (h2 : SlIn w v2 3 stL s) (hm : mayE r l s = 0) (hi : i < s.length) (hn0 : 0 ≤ now) (hn1 : now ≤ 4611686018427387903) (hde : r.de < 9223372036854775808) :
    Calls Try.prog 46 #[ruV r, v1, v2, .int .i64 i, .int .i64 now] w fun e w' => ∃ v : Value, e = .returned (.tuple #[v, .bool (benF r l s i now), .int .i64 0]) ∧ OwnS w' w.heap.size 123 3 stL v (stepF r l s i now) ∧ Below w.heap.size w w' := by
  by_cases hb : isB s (i : Int) now = true
  · have e1 : benF r l s i now = false := if_pos hb
    have e2 : stepF r l s i now = s := if_pos hb
    rw [e1, e2]
    exact failed_is w r v1 v2 l s i now h h2 hm hi hn0 hn1 hb
  · have e1 : benF r l s i now = !stays r (s.getD i ⟨0, 0, 0⟩) now (roomF r l s i now) := if_neg hb
    have e2 : stepF r l s i now = s.set i (nSeat r (s.getD i ⟨0, 0, 0⟩) now (roomF r l s i now)) := if_neg hb
    have hg : s.getD i ⟨0, 0, 0⟩ = s[i] := by simp [List.getD, hi]
    rw [e1, e2, hg]
    exact failed_any w r v1 v2 l s i now h h2 hm hi hn0 hn1 (by simpa using hb) hde
theorem isB_lt {s : List St} {i : Nat} {now : Int} (hi : i < s.length) (hn0 : 0 ≤ now) : isB s (i : Int) now = decide (now < s[i].u) := by
  rw [isB_at s i hi]
  rw [Bool.eq_iff_iff]; simp; omega
theorem stepF_len (r : Rul) (l : List Vd) (s : List St) (i : Nat) (now : Int) : (stepF r l s i now).length = s.length := by unfold stepF; split <;> simp
theorem stepF_may {r : Rul} {l : List Vd} {s : List St} {i : Nat} {now : Int} (hm : mayE r l s = 0) (hi : i < s.length) (hn0 : 0 ≤ now) (hn1 : now ≤ 4611686018427387903) : mayE r l (stepF r l s i now) = 0 := by
  unfold stepF
  split
  · exact hm
  · have hg : s.getD i ⟨0, 0, 0⟩ = s[i] := by simp [List.getD, hi]
    rw [hg]
    exact mayE_set hm i (nSeat_may (mayE_0 hm).1 (mayE_at hm hi) hn0 hn1)
/-- what a failure leaves of the share -/
theorem stepF_share {r : Rul} {l : List Vd} {s : List St} {i : Nat} {now : Int} (hm : mayE r l s = 0) (hi : i < s.length) (h : ShareI r l s now) : ShareI r l (stepF r l s i now) now := by
  unfold stepF
  split
  · exact h
  · have hg : s.getD i ⟨0, 0, 0⟩ = s[i] := by simp [List.getD, hi]
    rw [hg]
    obtain ⟨hu1, hu2⟩ := nSeat_u r s[i] now (roomF r l s i now)
    cases hst : stays r s[i] now (roomF r l s i now) with
    | true => exact share_same i hi (hu1 hst) h
    | false => exact share_ben hm i hi _ (hu2 hst).1
theorem stepF_ben {r : Rul} {l : List Vd} {s : List St} {i : Nat} {now : Int} (hm : mayE r l s = 0) (hi : i < s.length) (hn0 : 0 ≤ now) (hn1 : now < 4611686018427387903) (hb : benF r l s i now = true) : isB (stepF r l s i now) (i : Int) now = true := by
  unfold benF at hb
  split at hb
  · cases hb
  · rename_i hnb
    have hg : s.getD i ⟨0, 0, 0⟩ = s[i] := by simp [List.getD, hi]
    rw [hg] at hb
    have hst : stays r s[i] now (roomF r l s i now) = false := by simpa using hb
    have hu := (nSeat_u r s[i] now (roomF r l s i now)).2 hst
    rw [isB_lt (by rw [stepF_len]; exact hi) hn0]
    have hq := ruleE_n (mayE_0 hm).1
    have e : (stepF r l s i now)[i]'(by rw [stepF_len]; exact hi) = nSeat r s[i] now (roomF r l s i now) := by
      unfold stepF
      simp only [if_neg hnb, hg, List.getElem_set_self]
    rw [e, hu.2]
    simp only [decide_eq_true_eq]
    omega
/-- what a failure leaves of the rows -/
theorem stepF_rows {r : Rul} {l : List Vd} {s : List St} {i : Nat} {now : Int} {R : List Int} (hm : mayE r l s = 0) (hi : i < s.length) (hR : RowsI s R) (hiR : i < R.length) :
    (benF r l s i now = false → isB s (i : Int) now = false → RowsI (stepF r l s i now) (R.set i (R[i] + 1))) ∧ (benF r l s i now = true → r.f ≤ R[i] + 1 ∧ RowsI (stepF r l s i now) ((R.set i (R[i] + 1)).set i 0)) := by
  have hg : s.getD i ⟨0, 0, 0⟩ = s[i] := by simp [List.getD, hi]
  have hx := nSeat_f (r := r) (now := now) (room := roomF r l s i now) (mayE_at hm hi)
  have hle := hR.2 i hi hiR
  constructor
  · intro hb hnb
    have hnb' : ¬ isB s (i : Int) now = true := by rw [hnb]; decide
    unfold benF at hb
    rw [if_neg hnb', hg] at hb
    unfold stepF
    rw [if_neg hnb', hg]
    have := hx.1 (by simpa using hb)
    exact hR.set i (by omega)
  · intro hb
    unfold benF at hb
    split at hb
    · cases hb
    · rename_i hnb
      rw [hg] at hb
      have hst : stays r s[i] now (roomF r l s i now) = false := by simpa using hb
      obtain ⟨h1, h2⟩ := hx.2 hst
      refine ⟨by omega, ?_⟩
      unfold stepF
      rw [if_neg hnb, hg, List.set_set]
      exact hR.set i (by omega)
end Go.Proofs.Ytagpclgappcnbaa.Be
