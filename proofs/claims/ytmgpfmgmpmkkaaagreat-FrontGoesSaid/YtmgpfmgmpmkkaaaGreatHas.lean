import Derived.Test.YtmgpfmgmpmkkaaaGreatIdb
namespace Go.Proofs.YtmgpfmgmpmkkaaaGreat
open Go.RowKit

theorem eq_of_take {α : Type} {xs ys : List α} (h : xs.length = ys.length) (hk : ∀ k (h1 : k < xs.length) (h2 : k < ys.length), xs[k] = ys[k]) : xs = ys :=
  List.ext_getElem h hk
set_option maxRecDepth 100000 in
set_option maxHeartbeats 1000000 in
theorem equal_any (w : World) (v1 v2 : Value) (xs ys : List ID) (h : SlIn w v1 32 idL xs) (h' : SlIn w v2 32 idL ys) :
    Calls Tryz.prog 54 #[v1, v2] w fun e w' => e = .returned (.bool (decide (xs = ys))) ∧ Below w.heap.size w w' := by
  obtain ⟨oa, cap, rfl, h1, h2, h3⟩ := h
  obtain ⟨ob, cap', rfl, h1', h2', h3'⟩ := h'
  unfold maxLen at h2 h2'
  have H3 := Lib.hid h3
  have H3' := Lib.hid h3'
  clear h3 h3'
  by_cases hll : xs.length = ys.length
  · have hb0 : ((xs.length : Int) != (ys.length : Int)) = false := by simp [hll]
    have HLL := Lib.hid hll
    clear hll
    go_enter Tryz.func54, Tryz.ntmps54
    go_wp2
    go_loopw [5, 13] (fun _ v13 wr => ∃ k : Nat, k ≤ xs.length ∧ v13 = .int .i64 k ∧ Hid (∀ j (h1 : j < xs.length) (h2 : j < ys.length), j < k → xs[j] = ys[j]) ∧ Below w.heap.size w wr) (fun _ i _ => xs.length - (intOf i).toNat)
    case atStart => exact ⟨0, Nat.zero_le _, rfl, Lib.hid (by omega), Below.refl _ _⟩
    case round =>
      obtain ⟨k, hk, rfl, HK, hb⟩ := hrel
      by_cases hlt : k < xs.length
      · have hlt' : k < ys.length := by have := HLL.out; omega
        obtain ⟨b, off, hoa, hbb, hrow⟩ := H3.out (by omega)
        obtain ⟨b', off', hoa', hbb', hrow'⟩ := H3'.out (by omega)
        subst hoa
        subst hoa'
        have hs1 := hrow k hlt
        have hs2 := hrow' k hlt'
        rw [← obj_below hb hbb] at hs1
        rw [← obj_below hb hbb'] at hs2
        have hbl : b < wr.heap.size := Nat.lt_of_lt_of_le hbb hb.size
        have hbl' : b' < wr.heap.size := Nat.lt_of_lt_of_le hbb' hb.size
        have NX : Hid (xs[k] = ys[k] → ∀ j (h1 : j < xs.length) (h2 : j < ys.length), j < k + 1 → xs[j] = ys[j]) := Lib.hid (fun h j h1 h2 hlt' => by
            by_cases e : j = k
            · subst e; exact h
            · exact HK.out j h1 h2 (by omega))
        have NO : Hid (xs[k] ≠ ys[k] → xs ≠ ys) := Lib.hid (fun h e => h (by subst e; rfl))
        generalize xs[k] = x at *
        generalize ys[k] = y at *
        clear hrow hrow'
        by_cases hxy : x = y
        · have hd : decide (x = y) = true := by simpa using hxy
          have HN := Lib.hid (NX.out hxy)
          clear hxy
          go_wp2
          go_quiet (fail)
          go_wp2
          go_roundw
          case rel => exact ⟨k + 1, by omega, by go_num, HN, below_drewN hb _⟩
          case measure => simp [intOf]; omega
        · have hd : decide (x = y) = false := by simpa using hxy
          have HN := Lib.hid (NO.out hxy)
          clear hxy
          go_wp2
          go_quiet (fail)
          go_wp2
          go_ret
          exact ⟨ret_bool (by simpa using HN.out), below_drewN hb _⟩
      · have hk' : k = xs.length := by omega
        subst hk'
        go_wp2
        go_ret
        exact ⟨ret_bool (by simpa using List.ext_getElem HLL.out (fun j h1 h2 => HK.out j h1 h2 h1)), hb⟩
  · have hb0 : ((xs.length : Int) != (ys.length : Int)) = true := by simp; omega
    have HN : Hid (xs ≠ ys) := Lib.hid (fun e => hll (by rw [e]))
    clear hll
    go_enter Tryz.func54, Tryz.ntmps54
    go_wp2
    go_ret
    exact ⟨ret_bool (by simpa using HN.out), Below.refl _ _⟩

def idxOf (xs : List ID) (a : ID) : Int := if a ∈ xs then (xs.findIdx (· = a) : Nat) else -1
theorem idxOf_nonneg (xs : List ID) (a : ID) : decide (0 ≤ idxOf xs a) = decide (a ∈ xs) := by
  unfold idxOf; split <;> simp_all
theorem idxOf_hit {xs : List ID} {a : ID} {k : Nat} (h : k < xs.length) (hn : ∀ j (hj : j < xs.length), j < k → xs[j] ≠ a) (e : xs[k] = a) : idxOf xs a = k := by
  unfold idxOf
  rw [if_pos (by rw [← e]; simp), List.findIdx_eq h |>.2 ⟨by simpa using e, fun j hj => by simpa using hn j (by omega) hj⟩]
theorem idxOf_miss {xs : List ID} {a : ID} (hn : ∀ j (hj : j < xs.length), j < xs.length → xs[j] ≠ a) : idxOf xs a = -1 := by
  unfold idxOf
  rw [if_neg]
  intro h
  obtain ⟨j, hj, e⟩ := List.getElem_of_mem h
  exact hn j hj hj e
set_option maxRecDepth 100000 in
set_option maxHeartbeats 1000000 in
theorem index_any (w : World) (v : Value) (xs : List ID) (a : ID) (h : SlIn w v 32 idL xs) :
    Calls Tryz.prog 59 #[v, .agg (idL a).toArray] w fun e w' => e = .returned (.int .i64 (idxOf xs a)) ∧ Below w.heap.size w w' := by
  obtain ⟨oa, cap, rfl, h1, h2, h3⟩ := h
  unfold maxLen at h2
  have H3 := Lib.hid h3
  clear h3
  go_enter Tryz.func59, Tryz.ntmps59
  go_wp2
  go_loopw [5, 8] (fun _ v8 wr => ∃ k : Nat, k ≤ xs.length ∧ v8 = .int .i64 k ∧ Hid (∀ j (h1 : j < xs.length), j < k → xs[j] ≠ a) ∧ Below w.heap.size w wr ∧ Hid (obj wr w.heap.size = some (.cells (idL a).toArray 32 (0, 0)))) (fun _ i _ => xs.length - (intOf i).toNat)
  case atStart => exact ⟨0, Nat.zero_le _, rfl, Lib.hid (by omega), (Below.refl _ w).alloc (Nat.le_refl _) _, Lib.hid (obj_alloc_at _ _ _ rfl)⟩
  case round =>
    obtain ⟨k, hk, rfl, HK, hb, O1⟩ := hrel
    have o1 := O1.out
    have hz1 := lt_of_obj o1
    by_cases hlt : k < xs.length
    · obtain ⟨b, off, hoa, hbb, hrow⟩ := H3.out (by omega)
      subst hoa
      have hs1 := hrow k hlt
      rw [← obj_below hb hbb] at hs1
      have hbl : b < wr.heap.size := Nat.lt_of_lt_of_le hbb hb.size
      have NX : Hid (xs[k] ≠ a → ∀ j (h1 : j < xs.length), j < k + 1 → xs[j] ≠ a) := Lib.hid (fun h j h1 hlt' => by
          by_cases e : j = k
          · subst e; exact h
          · exact HK.out j h1 (by omega))
      have NO : Hid (xs[k] = a → idxOf xs a = k) := Lib.hid (fun h => idxOf_hit hlt HK.out h)
      generalize xs[k] = x at *
      clear hrow
      by_cases hxy : a = x
      · have hd : decide (a = x) = true := by simpa using hxy
        have HN := Lib.hid (NO.out hxy.symm)
        clear hxy
        go_wp2
        go_quiet (fail)
        go_wp2
        go_ret
        exact ⟨ret_int HN.out.symm, below_drewN hb _⟩
      · have hd : decide (a = x) = false := by simpa using hxy
        have HN := Lib.hid (NX.out fun e => hxy e.symm)
        clear hxy
        go_wp2
        go_quiet (fail)
        go_wp2
        go_roundw
        case rel => exact ⟨k + 1, by omega, by go_num, HN, below_drewN hb _, Lib.hid o1⟩
        case measure => simp [intOf]; omega
    · have hk' : k = xs.length := by omega
      subst hk'
      go_wp2
      go_ret
      exact ⟨ret_int (idxOf_miss HK.out).symm, hb⟩
set_option maxRecDepth 100000 in
theorem contains_any (w : World) (v : Value) (xs : List ID) (a : ID) (h : SlIn w v 32 idL xs) :
    Calls Tryz.prog 25 #[v, .agg (idL a).toArray] w fun e w' => e = .returned (.bool (decide (a ∈ xs))) ∧ Below w.heap.size w w' := by
  have HI := Lib.hid (index_any (w.alloc (.cells (idL a).toArray 32)) v xs a (h.below ((Below.refl _ w).alloc (Nat.le_refl _) _)))
  have HE := Lib.hid (idxOf_nonneg xs a)
  generalize idxOf xs a = r at *
  clear h
  go_enter Tryz.func25, Tryz.ntmps25
  go_wp2_with fail
  refine HI.out.mono ?_
  rintro e w1 ⟨rfl, hb⟩
  go_wp2
  go_ret
  exact ⟨ret_bool HE.out, ((Below.refl _ w).alloc (Nat.le_refl _) _).trans (hb.mono (by simp))⟩
end Go.Proofs.YtmgpfmgmpmkkaaaGreat
