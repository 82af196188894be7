import Derived.Test.YtggpmepiggnnnaaWide
import Derived.Test.YtggpmepiggnnnaaState
namespace Go.Proofs.Ytggpmepiggnnnaa
open Go.RowKit

set_option maxRecDepth 100000 in
set_option maxHeartbeats 1000000 in
theorem equal_any (w : World) (v1 v2 : Value) (xs ys : List Al) (h : SlIn w v1 2 alL xs) (h' : SlIn w v2 2 alL ys) :
    Calls Try.prog 22 #[v1, v2] w fun e w' => e = .returned (.bool (decide (xs = ys))) ∧ Below w.heap.size w w' := by
  obtain ⟨oa, cap, rfl, h1, h2, h3⟩ := h
  obtain ⟨ob, cap', rfl, h1', h2', h3'⟩ := h'
  unfold maxLen at h2 h2'
  have H3 := Lib.hid h3
  have H3' := Lib.hid h3'
  clear h3 h3'
  by_cases hll : xs.length = ys.length
  · have hb0 : ((xs.length : Int) != (ys.length : Int)) = false := by simp [hll]
    have HLL := Lib.hid hll
    clear hll
    go_enter Try.func22, Try.ntmps22
    go_wp2
    go_loopw [5, 13] (fun _ v13 wr => ∃ k : Nat, k ≤ xs.length ∧ v13 = .int .i64 k ∧ Hid (∀ j (h1 : j < xs.length) (h2 : j < ys.length), j < k → xs[j] = ys[j]) ∧ Below w.heap.size w wr) (fun _ i _ => xs.length - (intOf i).toNat)
    case atStart => exact ⟨0, Nat.zero_le _, rfl, Lib.hid (by omega), Below.refl _ _⟩
    case round =>
      obtain ⟨k, hk, rfl, HK, hb⟩ := hrel
      by_cases hlt : k < xs.length
      · have hlt' : k < ys.length := by have := HLL.out; omega
        obtain ⟨b, off, hoa, hbb, hrow⟩ := H3.out (by omega)
        obtain ⟨b', off', hoa', hbb', hrow'⟩ := H3'.out (by omega)
        subst hoa
        subst hoa'
        have hs1 := hrow k hlt
        have hs2 := hrow' k hlt'
        rw [← obj_below hb hbb] at hs1
        rw [← obj_below hb hbb'] at hs2
        have hbl : b < wr.heap.size := Nat.lt_of_lt_of_le hbb hb.size
        have hbl' : b' < wr.heap.size := Nat.lt_of_lt_of_le hbb' hb.size
        have NX : Hid (xs[k] = ys[k] → ∀ j (h1 : j < xs.length) (h2 : j < ys.length), j < k + 1 → xs[j] = ys[j]) := Lib.hid (fun h j h1 h2 hlt' => by
            by_cases e : j = k
            · subst e; exact h
            · exact HK.out j h1 h2 (by omega))
        have NO : Hid (xs[k] ≠ ys[k] → xs ≠ ys) := Lib.hid (fun h e => h (by subst e; rfl))
        generalize xs[k] = x at *
        generalize ys[k] = y at *
        obtain ⟨x1, x2⟩ := x
        obtain ⟨y1, y2⟩ := y
        clear hrow hrow'
        simp only [alL] at hs1 hs2
        by_cases hxy : x1 = y1 ∧ x2 = y2
        · obtain ⟨rfl, rfl⟩ := hxy
          have HN := Lib.hid (NX.out rfl)
          have e1 : (x1 == x1) = true := by simp
          have e2 : (x2 == x2) = true := by simp
          go_wp2
          go_quiet (fail)
          go_wp2
          go_roundw
          case rel => exact ⟨k + 1, by omega, by go_num, HN, below_drewN hb _⟩
          case measure => simp [intOf]; omega
        · have HN := Lib.hid (NO.out (fun e => hxy (by simpa using e)))
          by_cases e1 : x1 = y1
          · subst e1
            have e2 : (x2 == y2) = false := by simpa using fun e => hxy ⟨rfl, e⟩
            clear hxy
            go_wp2
            go_quiet (fail)
            go_wp2
            go_ret
            exact ⟨ret_bool (by simpa using HN.out), below_drewN hb _⟩
          · have e1' : (x1 == y1) = false := by simpa using e1
            clear hxy e1
            go_wp2
            go_quiet (fail)
            go_wp2
            go_ret
            exact ⟨ret_bool (by simpa using HN.out), below_drewN hb _⟩
      · have hk' : k = xs.length := by omega
        subst hk'
        go_wp2
        go_ret
        exact ⟨ret_bool (by simpa using List.ext_getElem HLL.out (fun j h1 h2 => HK.out j h1 h2 h1)), hb⟩
  · have hb0 : ((xs.length : Int) != (ys.length : Int)) = true := by simp; omega
    have HN : Hid (xs ≠ ys) := Lib.hid (fun e => hll (by rw [e]))
    clear hll
    go_enter Try.func22, Try.ntmps22
    go_wp2
    go_ret
    exact ⟨ret_bool (by simpa using HN.out), Below.refl _ _⟩
end Go.Proofs.Ytggpmepiggnnnaa
