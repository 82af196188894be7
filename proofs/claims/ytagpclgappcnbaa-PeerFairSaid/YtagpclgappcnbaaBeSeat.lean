import Derived.Test.YtagpclgappcnbaaBeChk
import Derived.Test.YtagpclgappcnbaaRange
namespace Go.Proofs.Ytagpclgappcnbaa.Be
open Go.RowKit

/-! ### seats and rules -/
structure St where
  f : Int
  s : Int
  u : Int
@[reducible] def stL (a : St) : List Value := [.int .i64 a.f, .int .i64 a.s, .int .i64 a.u]
@[reducible] def stV (a : St) : Value := .agg #[.int .i64 a.f, .int .i64 a.s, .int .i64 a.u]
theorem stL_length (a : St) : (stL a).length = 3 := rfl
theorem stL_one (a : St) : allOne (stL a).toArray = true := rfl
@[go_sem ↓] theorem hide_load50 (a : Addr) : loadVar 123 a = loadAgg 123 a := rfl
@[go_sem ↓] theorem hide_store50 (a : Addr) (v : Value) : storeVar 123 a v = storeAgg 123 a v := rfl
@[go_sem] theorem run_load50 (b off : Nat) (W : World) : (loadAgg 123 ⟨b, off, none⟩).run Try.prog W = loadRes Try.prog 123 ⟨b, off, none⟩ W (subOf (obj W b) off 3) := run_loadAgg Try.isAgg123 Try.sizeOf123 b off W
@[go_sem] theorem run_store50 (b off : Nat) (cs : Array Value) (W : World) : (storeAgg 123 ⟨b, off, none⟩ (.agg cs)).run Try.prog W = storeRes Try.prog 123 ⟨b, off, none⟩ (.agg cs) W (putOf (obj W b) off 3 cs) := run_storeAgg Try.sizeOf123 b off cs W
structure Rul where
  f : Int
  lo : Int
  fo : Int
  nu : Int
  de : Int
@[reducible] def ruV (r : Rul) : Value := .agg #[.int .i64 r.f, .int .i64 r.lo, .int .i64 r.fo, .int .i64 r.nu, .int .i64 r.de]
@[reducible] def ruC (r : Rul) : Array Value := #[.int .i64 r.f, .int .i64 r.lo, .int .i64 r.fo, .int .i64 r.nu, .int .i64 r.de]
def ruleE (r : Rul) : Int := if r.f < 1 ∨ 1000 < r.f ∨ r.lo < 0 ∨ 1099511627776 < r.lo ∨ r.fo < 1 ∨ 1099511627776 < r.fo ∨ r.de < 1 ∨ r.nu < 0 ∨ r.de < r.nu then 150 else 0
def mayB (x : St) : Bool := !(decide (x.f = 0) && !decide (x.s = 0)) && (decide (0 ≤ x.f) && decide (x.f ≤ 1000) && decide (0 ≤ x.s) && decide (x.s ≤ 4611686018427387903) && decide (0 ≤ x.u) && decide (x.u ≤ 4611686018427387903))
def mayE (r : Rul) (l : List Vd) (s : List St) : Int := if ruleE r = 0 ∧ chk l = 0 ∧ s.length = l.length ∧ s.all mayB = true then 0 else 150
def isB (s : List St) (v now : Int) : Bool := decide (0 ≤ v) && decide (v < s.length) && decide (0 ≤ now) && decide (now < (s.getD v.toNat ⟨0, 0, 0⟩).u)

set_option maxHeartbeats 1000000 in
theorem rule_any (r : Rul) (w : World) : Calls Try.prog 57 #[ruV r] w fun e w' => e = .returned (.int .i64 (ruleE r)) ∧ Below w.heap.size w w' := by
  obtain ⟨a, b, c, d, e⟩ := r
  have hb : Below w.heap.size w (w.alloc (.cells #[.int .i64 a, .int .i64 b, .int .i64 c, .int .i64 d, .int .i64 e] 25)) := (Below.refl _ _).alloc (Nat.le_refl _) _
  have HB := Lib.hid hb
  clear hb
  simp only [ruV]
  by_cases hh : a < 1 ∨ 1000 < a ∨ b < 0 ∨ 1099511627776 < b ∨ c < 1 ∨ 1099511627776 < c ∨ e < 1 ∨ d < 0 ∨ e < d
  · have HR := Lib.hid (show ruleE ⟨a, b, c, d, e⟩ = 150 from if_pos hh)
    have hx : ∃ p1 p2 p3 p4 p5 p6 p7 p8 p9 : Bool, decide (a < 1) = p1 ∧ decide (1000 < a) = p2 ∧ decide (b < 0) = p3 ∧ decide (1099511627776 < b) = p4 ∧ decide (c < 1) = p5 ∧ decide (1099511627776 < c) = p6 ∧ decide (e < 1) = p7 ∧ decide (d < 0) = p8 ∧ decide (e < d) = p9 ∧ (p1 || p2 || p3 || p4 || p5 || p6 || p7 || p8 || p9) = true := ⟨_, _, _, _, _, _, _, _, _, rfl, rfl, rfl, rfl, rfl, rfl, rfl, rfl, rfl, by simpa using (by simpa [or_assoc] using hh)⟩
    obtain ⟨p1, p2, p3, p4, p5, p6, p7, p8, p9, q1, q2, q3, q4, q5, q6, q7, q8, q9, hor⟩ := hx
    clear hh
    cases p1
    · cases p2
      · cases p3
        · cases p4
          · cases p5
            · cases p6
              · cases p7
                · cases p8
                  · cases p9
                    · cases hor
                    · go_enter Try.func57, Try.ntmps57
                      go_wp2
                      go_ret
                      exact ⟨ret_int HR.out.symm, HB.out⟩
                  · go_enter Try.func57, Try.ntmps57
                    go_wp2
                    go_ret
                    exact ⟨ret_int HR.out.symm, HB.out⟩
                · go_enter Try.func57, Try.ntmps57
                  go_wp2
                  go_ret
                  exact ⟨ret_int HR.out.symm, HB.out⟩
              · go_enter Try.func57, Try.ntmps57
                go_wp2
                go_ret
                exact ⟨ret_int HR.out.symm, HB.out⟩
            · go_enter Try.func57, Try.ntmps57
              go_wp2
              go_ret
              exact ⟨ret_int HR.out.symm, HB.out⟩
          · go_enter Try.func57, Try.ntmps57
            go_wp2
            go_ret
            exact ⟨ret_int HR.out.symm, HB.out⟩
        · go_enter Try.func57, Try.ntmps57
          go_wp2
          go_ret
          exact ⟨ret_int HR.out.symm, HB.out⟩
      · go_enter Try.func57, Try.ntmps57
        go_wp2
        go_ret
        exact ⟨ret_int HR.out.symm, HB.out⟩
    · go_enter Try.func57, Try.ntmps57
      go_wp2
      go_ret
      exact ⟨ret_int HR.out.symm, HB.out⟩
  · have HR := Lib.hid (show ruleE ⟨a, b, c, d, e⟩ = 0 from if_neg hh)
    obtain ⟨n1, hh⟩ := not_or.1 hh
    obtain ⟨n2, hh⟩ := not_or.1 hh
    obtain ⟨n3, hh⟩ := not_or.1 hh
    obtain ⟨n4, hh⟩ := not_or.1 hh
    obtain ⟨n5, hh⟩ := not_or.1 hh
    obtain ⟨n6, hh⟩ := not_or.1 hh
    obtain ⟨n7, hh⟩ := not_or.1 hh
    obtain ⟨n8, n9⟩ := not_or.1 hh
    go_enter Try.func57, Try.ntmps57
    go_wp2
    go_ret
    exact ⟨ret_int HR.out.symm, HB.out⟩
set_option maxHeartbeats 1000000 in
theorem may_any (x : St) (w : World) : Calls Try.prog 90 #[stV x] w fun e w' => e = .returned (.bool (mayB x)) ∧ Below w.heap.size w w' := by
  obtain ⟨a, b, c⟩ := x
  have hb : Below w.heap.size w (w.alloc (.cells #[.int .i64 a, .int .i64 b, .int .i64 c] 123)) := (Below.refl _ _).alloc (Nat.le_refl _) _
  have HB := Lib.hid hb
  have ho : obj (w.alloc (.cells #[.int .i64 a, .int .i64 b, .int .i64 c] 123)) w.heap.size = some (.cells #[.int .i64 a, .int .i64 b, .int .i64 c] 123 (0, 0)) := obj_alloc_at _ _ _ rfl
  clear hb
  simp only [stV]
  go_enter Try.func90, Try.ntmps90
  go_wp2
  all_goals (go_ret; refine ⟨ret_bool ?_, (Below.refl _ _).alloc (Nat.le_refl _) _⟩; unfold mayB; rw [Bool.eq_iff_iff]; simp_all <;> omega)
theorem is_any (w : World) (v : Value) (s : List St) (i now : Int) (h : SlIn w v 3 stL s) : Calls Try.prog 35 #[v, .int .i64 i, .int .i64 now] w fun e w' => e = .returned (.bool (isB s i now)) ∧ w = w' := by
  obtain ⟨oa, cap, rfl, g1, g2, g3⟩ := h
  unfold maxLen at g2
  by_cases h1 : 0 ≤ i
  · obtain ⟨k, rfl⟩ := Int.eq_ofNat_of_zero_le h1
    by_cases h2 : k < s.length
    · obtain ⟨b, off, hoa, hbb, hrow⟩ := g3 (by omega)
      subst hoa
      have hs1 := hrow k h2
      have hg : s.getD k ⟨0, 0, 0⟩ = s[k] := by simp [List.getD, h2]
      have HI := Lib.hid (show isB s (k : Int) now = (decide (0 ≤ now) && decide (now < s[k].u)) by unfold isB; simp only [Int.toNat_natCast, hg]; simp [h2])
      generalize s[k] = x at *
      obtain ⟨a, b', c⟩ := x
      have c2 : w.cell? ⟨b, off + k * 3 + 2, none⟩ = some (.int .i64 c) := by have := subOf_cell hs1 (j := 2) (by decide); simpa using this
      clear hs1 hrow g3 hg
      go_enter Try.func35, Try.ntmps35
      go_wp2
      all_goals (go_ret; refine ⟨ret_bool ?_, rfl⟩; rw [HI.out, Bool.eq_iff_iff]; simp_all <;> omega)
    · have HI := Lib.hid (show isB s (k : Int) now = false by unfold isB; simp; omega)
      have h2' : ¬ (k : Int) < (s.length : Int) := by omega
      clear g3
      go_enter Try.func35, Try.ntmps35
      go_wp2
      go_ret
      exact ⟨ret_bool HI.out.symm, rfl⟩
  · have HI := Lib.hid (show isB s i now = false by unfold isB; simp; omega)
    clear g3
    go_enter Try.func35, Try.ntmps35
    go_wp2
    go_ret
    exact ⟨ret_bool HI.out.symm, rfl⟩
end Go.Proofs.Ytagpclgappcnbaa.Be
