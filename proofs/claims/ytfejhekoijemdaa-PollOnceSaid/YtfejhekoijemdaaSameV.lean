import Derived.Test.YtfejhekoijemdaaDoneG
import Derived.Test.YtfejhekoijemdaaName
import Derived.Test.YtfejhekoijemdaaEqVt
namespace Go.Proofs.Ytfejhekoijemdaa
open Go.RowKit

theorem row_vt {w : World} {b off : Nat} {xs : List Vt} (h : RowAt w b off 33 vtL xs) {k : Nat} (hk : k < xs.length) : subOf (obj w b) (off + k * 33) 33 = some (vtL xs[k]).toArray := h k hk
set_option maxRecDepth 100000 in
set_option maxHeartbeats 1000000 in
/-- flurryref18.SameVotes -/
theorem sameV_any (w : World) (u v : Value) (a c : List Vt) (h1 : SlIn w u 33 vtL a) (h2 : SlIn w v 33 vtL c) :
    Calls Try.prog 48 #[u, v] w fun e w' => e = .returned (.bool (decide (a = c))) ∧ Below w.heap.size w w' := by
  obtain ⟨oa, ca, rfl, p1, p2, p3⟩ := h1
  obtain ⟨oc, cc, rfl, q1, q2, q3⟩ := h2
  unfold maxLen at p2 q2
  have P3 := Lib.hid p3
  have Q3 := Lib.hid q3
  clear p3 q3
  by_cases hl : a.length = c.length
  · have HL := Lib.hid hl
    obtain ⟨n, hn⟩ : ∃ n, n = a.length := ⟨_, rfl⟩
    have hn2 : c.length = n := by omega
    have HA := Lib.hid hn
    have HC := Lib.hid hn2
    rw [← hn] at p1 ⊢
    rw [hn2] at q1 ⊢
    clear hl hn hn2
    go_enter Try.func48, Try.ntmps48
    go_wp2_with fail
    go_loopw [5] (fun v5 wr => ∃ k : Nat, k ≤ n ∧ v5 = .int .i64 k ∧ Hid (a.take k = c.take k) ∧ Hid (Below w.heap.size w wr)) (fun i _ => n - (intOf i).toNat)
    case atStart => exact ⟨0, Nat.zero_le _, rfl, Lib.hid rfl, Lib.hid (Below.refl _ _)⟩
    case round =>
      obtain ⟨k, hk, rfl, HE, HB⟩ := hrel
      by_cases hlt : k < n
      · have hka : k < a.length := by rw [← HA.out]; exact hlt
        have hkc : k < c.length := by rw [HC.out]; exact hlt
        obtain ⟨b1, o1, rfl, hb1, hr1⟩ := P3.out (by omega)
        obtain ⟨b2, o2, rfl, hb2, hr2⟩ := Q3.out (by omega)
        have s1 := hr1 k hka
        have s2 := hr2 k hkc
        rw [← obj_below HB.out hb1] at s1
        rw [← obj_below HB.out hb2] at s2
        have hz := HB.out.size
        have l1 : b1 < wr.heap.size := by omega
        have l2 : b2 < wr.heap.size := by omega
        have m1 : o1 + k * 33 + 33 ≤ o1 + k * 33 + 33 := Nat.le_refl _
        have NX : Hid (a[k] = c[k] → a.take (k + 1) = c.take (k + 1)) := Lib.hid (fun e => by rw [List.take_succ_eq_append_getElem hka, List.take_succ_eq_append_getElem hkc, HE.out, e])
        have NO : Hid (¬ a[k] = c[k] → decide (a = c) = false) := Lib.hid (fun e => by simp; rintro rfl; exact e rfl)
        clear hr1 hr2 hb1 hb2
        generalize a[k] = x at *
        generalize c[k] = y at *
        clear hka hkc
        by_cases hxy : x = y
        · have d0 : decide (x = y) = true := by simpa using hxy
          have NX2 := Lib.hid (NX.out hxy)
          clear hxy NX NO
          go_wp2
          go_quiet (fail)
          go_wp2
          go_roundw
          case rel => exact ⟨k + 1, by omega, by go_num, NX2, Lib.hid (below_drewN HB.out _)⟩
          case measure => simp [intOf]; omega
        · have d0 : decide (x = y) = false := by simpa using hxy
          have NO2 := Lib.hid (NO.out hxy)
          clear hxy NX NO
          go_wp2
          go_quiet (fail)
          go_wp2
          go_ret
          exact ⟨ret_bool NO2.out.symm, below_drewN HB.out _⟩
      · have hk' : k = n := by omega
        subst hk'
        have HR : Hid (decide (a = c) = true) := Lib.hid (by
          have e := HE.out
          rw [List.take_of_length_le (by rw [← HA.out]; exact Nat.le_refl _), List.take_of_length_le (by rw [HC.out]; exact Nat.le_refl _)] at e
          simpa using e)
        go_wp2
        go_ret
        exact ⟨ret_bool HR.out.symm, HB.out⟩
  · have e0 : ((a.length : Int) != (c.length : Int)) = true := by simp; omega
    have HR : Hid (decide (a = c) = false) := Lib.hid (by simp; intro e; exact hl (by rw [e]))
    clear hl
    go_enter Try.func48, Try.ntmps48
    go_wp2
    go_ret
    exact ⟨ret_bool HR.out.symm, Below.refl _ _⟩
end Go.Proofs.Ytfejhekoijemdaa
