import Derived.Test.YtiknonljdibfgaaStake
namespace Go.Proofs.Ytiknonljdibfgaa
open Go.RowKit

/-! ### slices.Equal of numbers and of seats, slices.Index, slices.Contains -/
instance : DecidableEq St := fun a b => decidable_of_iff (a.f = b.f ∧ a.s = b.s ∧ a.u = b.u) ⟨fun h => by cases a; cases b; simp_all, fun h => by subst h; exact ⟨rfl, rfl, rfl⟩⟩
set_option maxRecDepth 100000 in
set_option maxHeartbeats 1000000 in
theorem equalI (w : World) (v1 v2 : Value) (xs ys : List Int) (h : SlIn w v1 1 iL xs) (h' : SlIn w v2 1 iL ys) :
    Calls Try.prog 29 #[v1, v2] w fun e w' => e = .returned (.bool (decide (xs = ys))) ∧ Below w.heap.size w w' := by
  obtain ⟨oa, cap, rfl, h1, h2, h3⟩ := h
  obtain ⟨ob, cap', rfl, h1', h2', h3'⟩ := h'
  unfold maxLen at h2 h2'
  have H3 := Lib.hid h3
  have H3' := Lib.hid h3'
  clear h3 h3'
  by_cases hll : xs.length = ys.length
  · have hb0 : ((xs.length : Int) != (ys.length : Int)) = false := by simp [hll]
    have HLL := Lib.hid hll
    clear hll
    go_enter Try.func29, Try.ntmps29
    go_wp2
    go_loopw [5, 13] (fun _ v13 wr => ∃ k : Nat, k ≤ xs.length ∧ v13 = .int .i64 k ∧ Hid (∀ j (h1 : j < xs.length) (h2 : j < ys.length), j < k → xs[j] = ys[j]) ∧ Below w.heap.size w wr) (fun _ i _ => xs.length - (intOf i).toNat)
    case atStart => exact ⟨0, Nat.zero_le _, rfl, Lib.hid (by omega), Below.refl _ _⟩
    case round =>
      obtain ⟨k, hk, rfl, HK, hb⟩ := hrel
      by_cases hlt : k < xs.length
      · have hlt' : k < ys.length := by have := HLL.out; omega
        obtain ⟨b, off, hoa, hbb, hrow⟩ := H3.out (by omega)
        obtain ⟨b', off', hoa', hbb', hrow'⟩ := H3'.out (by omega)
        subst hoa
        subst hoa'
        have hs1 := hrow k hlt
        have hs2 := hrow' k hlt'
        rw [← obj_below hb hbb] at hs1
        rw [← obj_below hb hbb'] at hs2
        have hbl : b < wr.heap.size := Nat.lt_of_lt_of_le hbb hb.size
        have hbl' : b' < wr.heap.size := Nat.lt_of_lt_of_le hbb' hb.size
        have NX : Hid (xs[k] = ys[k] → ∀ j (h1 : j < xs.length) (h2 : j < ys.length), j < k + 1 → xs[j] = ys[j]) := Lib.hid (fun h j h1 h2 hlt' => by
            by_cases e : j = k
            · subst e; exact h
            · exact HK.out j h1 h2 (by omega))
        have NO : Hid (xs[k] ≠ ys[k] → xs ≠ ys) := Lib.hid (fun h e => h (by subst e; rfl))
        generalize xs[k] = x at *
        generalize ys[k] = y at *
        clear hrow hrow'
        rw [Nat.mul_one] at hs1 hs2
        have c1 : wr.cell? ⟨b, off + k, none⟩ = some (.int .i64 x) := by have := subOf_cell hs1 (j := 0) (by decide); simpa using this
        have c2 : wr.cell? ⟨b', off' + k, none⟩ = some (.int .i64 y) := by have := subOf_cell hs2 (j := 0) (by decide); simpa using this
        clear hs1 hs2
        by_cases hxy : x = y
        · subst hxy
          have HN := Lib.hid (NX.out rfl)
          have e1 : (x == x) = true := by simp
          go_wp2
          go_quiet (fail)
          go_wp2
          go_roundw
          case rel => exact ⟨k + 1, by omega, by go_num, HN, below_drewN hb _⟩
          case measure => simp [intOf]; omega
        · have HN := Lib.hid (NO.out hxy)
          have e1' : (x == y) = false := by simpa using hxy
          clear hxy
          go_wp2
          go_quiet (fail)
          go_wp2
          go_ret
          exact ⟨ret_bool (by simpa using HN.out), below_drewN hb _⟩
      · have hk' : k = xs.length := by omega
        subst hk'
        go_wp2
        go_ret
        exact ⟨ret_bool (by simpa using List.ext_getElem HLL.out (fun j h1 h2 => HK.out j h1 h2 h1)), hb⟩
  · have hb0 : ((xs.length : Int) != (ys.length : Int)) = true := by simp; omega
    have HN : Hid (xs ≠ ys) := Lib.hid (fun e => hll (by rw [e]))
    clear hll
    go_enter Try.func29, Try.ntmps29
    go_wp2
    go_ret
    exact ⟨ret_bool (by simpa using HN.out), Below.refl _ _⟩
set_option maxRecDepth 100000 in
set_option maxHeartbeats 1000000 in
theorem equalS (w : World) (v1 v2 : Value) (xs ys : List St) (h : SlIn w v1 3 stL xs) (h' : SlIn w v2 3 stL ys) :
    Calls Try.prog 24 #[v1, v2] w fun e w' => e = .returned (.bool (decide (xs = ys))) ∧ Below w.heap.size w w' := by
  obtain ⟨oa, cap, rfl, h1, h2, h3⟩ := h
  obtain ⟨ob, cap', rfl, h1', h2', h3'⟩ := h'
  unfold maxLen at h2 h2'
  have H3 := Lib.hid h3
  have H3' := Lib.hid h3'
  clear h3 h3'
  by_cases hll : xs.length = ys.length
  · have hb0 : ((xs.length : Int) != (ys.length : Int)) = false := by simp [hll]
    have HLL := Lib.hid hll
    clear hll
    go_enter Try.func24, Try.ntmps24
    go_wp2
    go_loopw [5, 13] (fun _ v13 wr => ∃ k : Nat, k ≤ xs.length ∧ v13 = .int .i64 k ∧ Hid (∀ j (h1 : j < xs.length) (h2 : j < ys.length), j < k → xs[j] = ys[j]) ∧ Below w.heap.size w wr) (fun _ i _ => xs.length - (intOf i).toNat)
    case atStart => exact ⟨0, Nat.zero_le _, rfl, Lib.hid (by omega), Below.refl _ _⟩
    case round =>
      obtain ⟨k, hk, rfl, HK, hb⟩ := hrel
      by_cases hlt : k < xs.length
      · have hlt' : k < ys.length := by have := HLL.out; omega
        obtain ⟨b, off, hoa, hbb, hrow⟩ := H3.out (by omega)
        obtain ⟨b', off', hoa', hbb', hrow'⟩ := H3'.out (by omega)
        subst hoa
        subst hoa'
        have hs1 := hrow k hlt
        have hs2 := hrow' k hlt'
        rw [← obj_below hb hbb] at hs1
        rw [← obj_below hb hbb'] at hs2
        have hbl : b < wr.heap.size := Nat.lt_of_lt_of_le hbb hb.size
        have hbl' : b' < wr.heap.size := Nat.lt_of_lt_of_le hbb' hb.size
        have NX : Hid (xs[k] = ys[k] → ∀ j (h1 : j < xs.length) (h2 : j < ys.length), j < k + 1 → xs[j] = ys[j]) := Lib.hid (fun h j h1 h2 hlt' => by
            by_cases e : j = k
            · subst e; exact h
            · exact HK.out j h1 h2 (by omega))
        have NO : Hid (xs[k] ≠ ys[k] → xs ≠ ys) := Lib.hid (fun h e => h (by subst e; rfl))
        generalize xs[k] = x at *
        generalize ys[k] = y at *
        obtain ⟨x1, x2, x3⟩ := x
        obtain ⟨y1, y2, y3⟩ := y
        clear hrow hrow'
        simp only [stL] at hs1 hs2
        by_cases hxy : x1 = y1 ∧ x2 = y2 ∧ x3 = y3
        · obtain ⟨rfl, rfl, rfl⟩ := hxy
          have HN := Lib.hid (NX.out rfl)
          have e1 : (x1 == x1) = true := by simp
          have e2 : (x2 == x2) = true := by simp
          have e3 : (x3 == x3) = true := by simp
          go_wp2
          go_quiet (fail)
          go_wp2
          go_roundw
          case rel => exact ⟨k + 1, by omega, by go_num, HN, below_drewN hb _⟩
          case measure => simp [intOf]; omega
        · have HN := Lib.hid (NO.out (fun e => hxy (by simpa using e)))
          by_cases e1 : x1 = y1
          · subst e1
            by_cases e2 : x2 = y2
            · subst e2
              have e3 : (x3 == y3) = false := by simpa using fun e => hxy ⟨rfl, rfl, e⟩
              clear hxy
              go_wp2
              go_quiet (fail)
              go_wp2
              go_ret
              exact ⟨ret_bool (by simpa using HN.out), below_drewN hb _⟩
            · have e2' : (x2 == y2) = false := by simpa using e2
              clear hxy e2
              go_wp2
              go_quiet (fail)
              go_wp2
              go_ret
              exact ⟨ret_bool (by simpa using HN.out), below_drewN hb _⟩
          · have e1' : (x1 == y1) = false := by simpa using e1
            clear hxy e1
            go_wp2
            go_quiet (fail)
            go_wp2
            go_ret
            exact ⟨ret_bool (by simpa using HN.out), below_drewN hb _⟩
      · have hk' : k = xs.length := by omega
        subst hk'
        go_wp2
        go_ret
        exact ⟨ret_bool (by simpa using List.ext_getElem HLL.out (fun j h1 h2 => HK.out j h1 h2 h1)), hb⟩
  · have hb0 : ((xs.length : Int) != (ys.length : Int)) = true := by simp; omega
    have HN : Hid (xs ≠ ys) := Lib.hid (fun e => hll (by rw [e]))
    clear hll
    go_enter Try.func24, Try.ntmps24
    go_wp2
    go_ret
    exact ⟨ret_bool (by simpa using HN.out), Below.refl _ _⟩
/-- the place of a number in a row -/
def idxF (x : Int) : List Int → Nat → Int
  | [], _ => -1
  | y :: r, i => if x = y then i else idxF x r (i + 1)
theorem idxF_cons (x y : Int) (r : List Int) (i : Nat) : idxF x (y :: r) i = if x = y then (i : Int) else idxF x r (i + 1) := rfl
theorem idxF_mem (x : Int) : ∀ (r : List Int) (i : Nat), (0 ≤ idxF x r i ↔ x ∈ r) := by
  intro r
  induction r with
  | nil => intro i; simp [idxF]
  | cons y r ih =>
    intro i
    rw [idxF_cons]
    by_cases h : x = y
    · rw [if_pos h]; simp [h]
    · rw [if_neg h, ih]; simp [h]
set_option maxRecDepth 100000 in
set_option maxHeartbeats 1000000 in
theorem index_any (w : World) (v : Value) (xs : List Int) (x : Int) (h : SlIn w v 1 iL xs) : Calls Try.prog 51 #[v, .int .i64 x] w fun e w' => e = .returned (.int .i64 (idxF x xs 0)) ∧ w = w' := by
  obtain ⟨oa, cap, rfl, h1, h2, h3⟩ := h
  unfold maxLen at h2
  have H3 := Lib.hid h3
  clear h3
  go_enter Try.func51, Try.ntmps51
  go_wp2
  go_loopw [8] (fun v8 wr => ∃ k : Nat, k ≤ xs.length ∧ v8 = .int .i64 k ∧ Hid (idxF x (xs.drop k) k = idxF x xs 0) ∧ w = wr) (fun i _ => xs.length - (intOf i).toNat)
  case atStart => exact ⟨0, Nat.zero_le _, rfl, Lib.hid rfl, rfl⟩
  case round =>
    obtain ⟨k, hk, rfl, HK, rfl⟩ := hrel
    have hF := HK.out
    by_cases hlt : k < xs.length
    · obtain ⟨b, off, hoa, hbb, hrow⟩ := H3.out (by omega)
      subst hoa
      have hs1 := hrow k hlt
      rw [Nat.mul_one] at hs1
      rw [List.drop_eq_getElem_cons hlt, idxF_cons] at hF
      generalize xs[k] = y at *
      have c1 : w.cell? ⟨b, off + k, none⟩ = some (.int .i64 y) := by have := subOf_cell hs1 (j := 0) (by decide); simpa using this
      clear hrow hs1 HK
      by_cases hxy : x = y
      · rw [if_pos hxy] at hF
        subst hxy
        have HN := Lib.hid hF
        clear hF
        have e1 : (x == x) = true := by simp
        go_wp2
        go_ret
        exact ⟨ret_int HN.out, rfl⟩
      · rw [if_neg hxy] at hF
        have HN := Lib.hid hF
        have e1 : (x == y) = false := by simpa using hxy
        clear hF hxy
        go_wp2
        go_roundw
        case rel => exact ⟨k + 1, by omega, by go_num, HN, by first | rfl | trivial⟩
        case measure => simp [intOf]; omega
    · rw [List.drop_eq_nil_of_le (by omega)] at hF
      have HN := Lib.hid hF
      clear hF HK
      go_wp2
      go_ret
      exact ⟨ret_int HN.out, rfl⟩
theorem contains_any (w : World) (v : Value) (xs : List Int) (x : Int) (h : SlIn w v 1 iL xs) : Calls Try.prog 35 #[v, .int .i64 x] w fun e w' => e = .returned (.bool (decide (x ∈ xs))) ∧ w = w' := by
  have HI := Lib.hid (index_any w v xs x h)
  have HM := Lib.hid (show decide (0 ≤ idxF x xs 0) = decide (x ∈ xs) by rw [Bool.eq_iff_iff]; simp only [decide_eq_true_eq]; exact idxF_mem x xs 0)
  generalize idxF x xs 0 = i at *
  obtain ⟨oa, cap, rfl, h1, h2, h3⟩ := h
  clear h3
  go_enter Try.func35, Try.ntmps35
  go_wp2_with fail
  refine HI.out.mono ?_
  rintro e w1 ⟨rfl, rfl⟩
  go_wp2
  go_ret
  exact ⟨ret_bool HM.out, rfl⟩
end Go.Proofs.Ytiknonljdibfgaa
