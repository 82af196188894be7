import Derived.Test.YtagpclgappcnbaaBkU
import Derived.Test.YtagpclgappcnbaaBkM
import Derived.Test.YtagpclgappcnbaaBkT
import Derived.BigQuiet
import Derived.LoopTactic
namespace Go.Proofs.Ytagpclgappcnbaa
open Go.RowKit

instance : DecidableEq Ak.AskD := fun a b => decidable_of_iff (a.id = b.id ∧ a.node = b.node ∧ a.kind = b.kind) ⟨fun h => by cases a; cases b; simp_all, fun h => by subst h; exact ⟨rfl, rfl, rfl⟩⟩
theorem sub3 {w : World} {b o : Nat} {x y z : Value} (h : subOf (obj w b) o 3 = some #[x, y, z]) : w.cell? ⟨b, o, none⟩ = some x ∧ w.cell? ⟨b, o + 1, none⟩ = some y ∧ w.cell? ⟨b, o + 2, none⟩ = some z :=
  ⟨by simpa using subOf_cell h (j := 0) (by decide), by simpa using subOf_cell h (j := 1) (by decide), by simpa using subOf_cell h (j := 2) (by decide)⟩
set_option maxRecDepth 100000 in
set_option maxHeartbeats 1000000 in
theorem equalA (w : World) (v1 v2 : Value) (xs ys : List Ak.AskD) (h : SlIn w v1 3 akL xs) (h' : SlIn w v2 3 akL ys) :
    Calls Try.prog 27 #[v1, v2] w fun e w' => e = .returned (.bool (decide (xs = ys))) ∧ Below w.heap.size w w' := by
  obtain ⟨oa, cap, rfl, h1, h2, h3⟩ := h
  obtain ⟨ob, cap', rfl, h1', h2', h3'⟩ := h'
  unfold maxLen at h2 h2'
  have H3 := Lib.hid h3
  have H3' := Lib.hid h3'
  clear h3 h3'
  by_cases hll : xs.length = ys.length
  · have hb0 : ((xs.length : Int) != (ys.length : Int)) = false := by simp [hll]
    have HLL := Lib.hid hll
    clear hll
    go_enter Try.func27, Try.ntmps27
    go_wp2
    go_loopw [5, 13] (fun _ v13 wr => ∃ k : Nat, k ≤ xs.length ∧ v13 = .int .i64 k ∧ Hid (∀ j (h1 : j < xs.length) (h2 : j < ys.length), j < k → xs[j] = ys[j]) ∧ Below w.heap.size w wr) (fun _ i _ => xs.length - (intOf i).toNat)
    case atStart => exact ⟨0, Nat.zero_le _, rfl, Lib.hid (by omega), Below.refl _ _⟩
    case round =>
      obtain ⟨k, hk, rfl, HK, hb⟩ := hrel
      by_cases hlt : k < xs.length
      · have hlt' : k < ys.length := by have := HLL.out; omega
        obtain ⟨b, off, hoa, hbb, hrow⟩ := H3.out (by omega)
        obtain ⟨b', off', hoa', hbb', hrow'⟩ := H3'.out (by omega)
        subst hoa
        subst hoa'
        have hs1 := hrow k hlt
        have hs2 := hrow' k hlt'
        rw [← obj_below hb hbb] at hs1
        rw [← obj_below hb hbb'] at hs2
        have hbl : b < wr.heap.size := Nat.lt_of_lt_of_le hbb hb.size
        have hbl' : b' < wr.heap.size := Nat.lt_of_lt_of_le hbb' hb.size
        have NX : Hid (xs[k] = ys[k] → ∀ j (h1 : j < xs.length) (h2 : j < ys.length), j < k + 1 → xs[j] = ys[j]) := Lib.hid (fun h j h1 h2 hlt' => by
            by_cases e : j = k
            · subst e; exact h
            · exact HK.out j h1 h2 (by omega))
        have NO : Hid (xs[k] ≠ ys[k] → xs ≠ ys) := Lib.hid (fun h e => h (by subst e; rfl))
        generalize xs[k] = x at *
        generalize ys[k] = y at *
        obtain ⟨x1, x2, x3⟩ := x
        obtain ⟨y1, y2, y3⟩ := y
        clear hrow hrow'
        simp only [akL] at hs1 hs2
        obtain ⟨d0, d1, d2⟩ := sub3 hs1
        obtain ⟨d0', d1', d2'⟩ := sub3 hs2
        clear hs1 hs2
        by_cases hxy : x1 = y1 ∧ x2 = y2 ∧ x3 = y3
        · obtain ⟨rfl, rfl, rfl⟩ := hxy
          have HN := Lib.hid (NX.out rfl)
          have e1 : (x1 == x1) = true := by simp
          have e2 : (x2 == x2) = true := by simp
          have e3 : (x3 == x3) = true := by simp
          go_wp2
          go_quiet (fail)
          go_wp2
          go_roundw
          case rel => exact ⟨k + 1, by omega, by go_num, HN, below_drewN hb _⟩
          case measure => simp [intOf]; omega
        · have HN := Lib.hid (NO.out (fun e => hxy (by simpa using e)))
          by_cases e1 : x1 = y1
          · subst e1
            by_cases e2 : x2 = y2
            · subst e2
              have e3 : (x3 == y3) = false := by simpa using fun e => hxy ⟨rfl, rfl, e⟩
              clear hxy
              go_wp2
              go_quiet (fail)
              go_wp2
              go_ret
              exact ⟨ret_bool (by simpa using HN.out), below_drewN hb _⟩
            · have e2' : (x2 == y2) = false := by simpa using e2
              clear hxy e2
              go_wp2
              go_quiet (fail)
              go_wp2
              go_ret
              exact ⟨ret_bool (by simpa using HN.out), below_drewN hb _⟩
          · have e1' : (x1 == y1) = false := by simpa using e1
            clear hxy e1
            go_wp2
            go_quiet (fail)
            go_wp2
            go_ret
            exact ⟨ret_bool (by simpa using HN.out), below_drewN hb _⟩
      · have hk' : k = xs.length := by omega
        subst hk'
        go_wp2
        go_ret
        exact ⟨ret_bool (by simpa using List.ext_getElem HLL.out (fun j h1 h2 => HK.out j h1 h2 h1)), hb⟩
  · have hb0 : ((xs.length : Int) != (ys.length : Int)) = true := by simp; omega
    have HN : Hid (xs ≠ ys) := Lib.hid (fun e => hll (by rw [e]))
    clear hll
    go_enter Try.func27, Try.ntmps27
    go_wp2
    go_ret
    exact ⟨ret_bool (by simpa using HN.out), Below.refl _ _⟩
set_option maxRecDepth 100000 in
theorem benched_none (w : World) (q : Value) (v : Int) (h : NoneB w q) : Calls Try.prog 12 #[q, .int .i64 v] w fun e w' => e = .returned (.bool false) ∧ Below w.heap.size w w' := by
  have H : Hid (∀ y : Later w, Calls Try.prog 34 #[q] y.w fun e w' => e = .returned (.bool true) ∧ Below y.w.heap.size y.w w') := Lib.hid (fun y => (none_none y.w q (h.below y.h)).mono (by rintro e w' ⟨rfl, rfl⟩; exact ⟨rfl, Below.refl _ _⟩))
  obtain ⟨a, rfl⟩ := h.ptr
  clear h
  go_enter Try.func12, Try.ntmps12
  go_wp2_with fail
  refine wp_region_later w (Below.refl _ w) (by kernel_rfl) (by kernel_rfl) ?_
  repeat (go_big_quiet_step (first | (go_at_call 34; with_reducible exact Calls.later (H.out _))))
  refine wpQuiet_nil ?_
  rintro W ⟨y, rfl⟩
  go_wp2
  go_ret
  exact ⟨rfl, y.h⟩
end Go.Proofs.Ytagpclgappcnbaa
