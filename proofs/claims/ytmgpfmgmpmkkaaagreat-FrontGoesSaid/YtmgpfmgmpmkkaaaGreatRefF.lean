import Derived.Test.YtmgpfmgmpmkkaaaGreatRefV
namespace Go.Proofs.YtmgpfmgmpmkkaaaGreat
open Go.RowKit Go.Shelf Go.Sort

set_option maxRecDepth 100000 in
set_option maxHeartbeats 1000000 in
/-- the reference's hasInt -/
theorem hasInt_any (w : World) (v : Value) (xs : List Int) (a : Int) (h : SlIn w v 1 intL xs) : Calls Tryz.prog 38 #[v, .int .i64 a] w fun e w' => e = .returned (.bool (decide (a ∈ xs))) ∧ w' = w := by
  obtain ⟨oa, cap, rfl, h1, h2, h3⟩ := h
  unfold maxLen at h2
  have H3 := Lib.hid h3
  clear h3
  go_enter Tryz.func38, Tryz.ntmps38
  go_wp2
  go_loopw [5] (fun v5 wr => ∃ k : Nat, k ≤ xs.length ∧ v5 = .int .i64 k ∧ Hid (∀ j (h1 : j < xs.length), j < k → xs[j] ≠ a) ∧ wr = w) (fun i _ => xs.length - (intOf i).toNat)
  case atStart => exact ⟨0, Nat.zero_le _, rfl, Lib.hid (by omega), rfl⟩
  case round =>
    obtain ⟨k, hk, rfl, HK, rfl⟩ := hrel
    by_cases hlt : k < xs.length
    · obtain ⟨b, off, hoa, hbb, hrow⟩ := H3.out (by omega)
      subst hoa
      have hs1 := hrow k hlt
      have cx : wr.cell? ⟨b, off + k * 1, none⟩ = some (.int .i64 xs[k]) := by
        have := subOf_cell hs1 (j := 0) (by decide)
        simpa [intL] using this
      rw [Nat.mul_one] at cx
      have NX : Hid (xs[k] ≠ a → ∀ j (h1 : j < xs.length), j < k + 1 → xs[j] ≠ a) := Lib.hid (fun h j h1 hlt' => by
          by_cases e : j = k
          · subst e; exact h
          · exact HK.out j h1 (by omega))
      have NO : Hid (xs[k] = a → a ∈ xs) := Lib.hid (fun h => h ▸ List.getElem_mem hlt)
      generalize xs[k] = x at *
      clear hrow hs1
      by_cases hxy : x = a
      · have HN : Hid (a ∈ xs) := Lib.hid (NO.out hxy)
        subst hxy
        go_wp2
        go_ret
        exact ⟨ret_bool (decide_eq_true HN.out).symm, rfl⟩
      · have HN := Lib.hid (NX.out hxy)
        go_wp2
        go_roundw
        case rel => exact ⟨k + 1, by omega, by go_num, HN, trivial⟩
        case measure => simp [intOf]; omega
    · have HN : Hid (a ∉ xs) := Lib.hid (fun hm => by
        obtain ⟨j, hj, e⟩ := List.getElem_of_mem hm
        exact HK.out j hj (by omega) e)
      go_wp2
      go_ret
      exact ⟨ret_bool (decide_eq_false HN.out).symm, rfl⟩
set_option maxRecDepth 100000 in
set_option maxHeartbeats 1000000 in
/-- the reference's has -/
theorem has_any (w : World) (v : Value) (xs : List ID) (a : ID) (h : SlIn w v 32 idL xs) : Calls Tryz.prog 43 #[v, .agg (idL a).toArray] w fun e w' => e = .returned (.bool (decide (a ∈ xs))) ∧ Below w.heap.size w w' := by
  have hb0 : Below w.heap.size w (w.alloc (.cells (idL a).toArray 32)) := (Below.refl _ w).alloc (Nat.le_refl _) _
  have ob : obj (w.alloc (.cells (idL a).toArray 32)) w.heap.size = some (.cells (idL a).toArray 32 (0, 0)) := obj_alloc_at _ _ _ rfl
  obtain ⟨oa, cap, rfl, h1, h2, h3⟩ := h
  unfold maxLen at h2
  have H3 := Lib.hid h3
  have HB0 := Lib.hid hb0
  have OB := Lib.hid ob
  clear h3 hb0 ob
  go_enter Tryz.func43, Tryz.ntmps43
  go_wp2_with fail
  generalize w.alloc (.cells (idL a).toArray 32) = w1 at *
  go_loopw [5] (fun v5 wr => ∃ k : Nat, k ≤ xs.length ∧ v5 = .int .i64 k ∧ Hid (∀ j (h1 : j < xs.length), j < k → xs[j] ≠ a) ∧ Hid (Below w1.heap.size w1 wr)) (fun i _ => xs.length - (intOf i).toNat)
  case atStart => exact ⟨0, Nat.zero_le _, rfl, Lib.hid (by omega), Lib.hid (Below.refl _ _)⟩
  case round =>
    obtain ⟨k, hk, rfl, HK, HB⟩ := hrel
    have HBW : Hid (Below w.heap.size w wr) := Lib.hid (HB0.out.trans (HB.out.mono HB0.out.size))
    by_cases hlt : k < xs.length
    · obtain ⟨b, off, hoa, hbb, hrow⟩ := H3.out (by omega)
      subst hoa
      have hs1 := hrow k hlt
      rw [← obj_below HBW.out hbb] at hs1
      have hbl : b < wr.heap.size := Nat.lt_of_lt_of_le hbb HBW.out.size
      have ox := (obj_below HB.out (lt_of_obj OB.out)).trans OB.out
      have hxl := lt_of_obj ox
      have px : subOf (obj wr w.heap.size) 0 32 = some (idL a).toArray := by rw [ox, subOf_cells (by simp), subA_all (by simp)]
      have NX : Hid (xs[k] ≠ a → ∀ j (h1 : j < xs.length), j < k + 1 → xs[j] ≠ a) := Lib.hid (fun h j h1 hlt' => by
          by_cases e : j = k
          · subst e; exact h
          · exact HK.out j h1 (by omega))
      have NO : Hid (xs[k] = a → a ∈ xs) := Lib.hid (fun h => h ▸ List.getElem_mem hlt)
      generalize xs[k] = x at *
      clear hrow ox
      by_cases hxy : x = a
      · have hd : decide (x = a) = true := decide_eq_true hxy
        have HN : Hid (a ∈ xs) := Lib.hid (NO.out hxy)
        clear hxy
        go_wp2
        go_quiet (fail)
        go_wp2
        go_ret
        exact ⟨ret_bool (decide_eq_true HN.out).symm, below_drewN HBW.out _⟩
      · have hd : decide (x = a) = false := decide_eq_false hxy
        have HN := Lib.hid (NX.out hxy)
        clear hxy
        go_wp2
        go_quiet (fail)
        go_wp2
        go_roundw
        case rel => exact ⟨k + 1, by omega, by go_num, HN, Lib.hid (below_drewN HB.out _)⟩
        case measure => simp [intOf]; omega
    · have HN : Hid (a ∉ xs) := Lib.hid (fun hm => by
        obtain ⟨j, hj, e⟩ := List.getElem_of_mem hm
        exact HK.out j hj (by omega) e)
      go_wp2
      go_ret
      exact ⟨ret_bool (decide_eq_false HN.out).symm, HBW.out⟩
set_option maxRecDepth 100000 in
set_option maxHeartbeats 1000000 in
/-- the reference's risesInts -/
theorem risesInts_any (w : World) (v : Value) (xs : List Int) (h : SlIn w v 1 intL xs) (hlen : xs.length ≤ 4096) : Calls Tryz.prog 76 #[v] w fun e w' => e = .returned (.bool (decide (xs.Pairwise (· < ·)))) ∧ Below w.heap.size w w' := by
  obtain ⟨oa, cap, rfl, h1, h2, h3⟩ := h
  unfold maxLen at h2
  have H3 := Lib.hid h3
  have HY : Hid ((∀ i (hi : i + 1 < xs.length), (xs[i]'(by omega)) < xs[i + 1]) → decide (xs.Pairwise (· < ·)) = true) := Lib.hid (fun h => decide_eq_true (pair_of_next (fun a b c h1 h2 => by omega) h))
  have HN : Hid (∀ i (hi : i + 1 < xs.length), ¬ (xs[i]'(by omega)) < xs[i + 1] → decide (xs.Pairwise (· < ·)) = false) := Lib.hid (fun i hi h => decide_eq_false fun hp => h (List.pairwise_iff_getElem.1 hp i (i + 1) (by omega) hi (by omega)))
  generalize decide (xs.Pairwise (· < ·)) = T at *
  clear h3
  go_enter Tryz.func76, Tryz.ntmps76
  go_wp2_with fail
  go_loopw [3] (fun v3 wr => ∃ k : Nat, (k ≤ xs.length ∨ k = 0) ∧ v3 = .int .i64 ((k : Int) + 1) ∧ Hid (Below w.heap.size w wr) ∧ Hid (∀ i (hi : i + 1 < xs.length), i < k → (xs[i]'(by omega)) < xs[i + 1])) (fun i _ => xs.length + 1 - (intOf i).toNat)
  case atStart => exact ⟨0, .inr rfl, rfl, Lib.hid (Below.refl _ _), Lib.hid (by omega)⟩
  case round =>
    obtain ⟨k, hk, rfl, HB, HM⟩ := hrel
    by_cases hlt : k + 1 < xs.length
    case neg =>
      have HT : Hid (T = true) := Lib.hid (HY.out fun i hi => HM.out i hi (by omega))
      have hnl : ¬ (k : Int) + 1 < xs.length := by omega
      go_wp2_with fail
      go_ret
      exact ⟨by rw [HT.out]; rfl, HB.out⟩
    obtain ⟨b, off, rfl, hbb, hrow⟩ := H3.out (by omega)
    have hs1 := hrow k (by omega)
    have hs2 := hrow (k + 1) hlt
    rw [← obj_below HB.out hbb] at hs1 hs2
    have cx : wr.cell? ⟨b, off + k * 1, none⟩ = some (.int .i64 (xs[k]'(by omega))) := by
      have := subOf_cell hs1 (j := 0) (by decide)
      simpa [intL] using this
    have cy : wr.cell? ⟨b, off + (k + 1) * 1, none⟩ = some (.int .i64 xs[k + 1]) := by
      have := subOf_cell hs2 (j := 0) (by decide)
      simpa [intL] using this
    rw [Nat.mul_one] at cx cy
    have HNX : Hid ((xs[k]'(by omega)) < xs[k + 1] → ∀ i (hi : i + 1 < xs.length), i < k + 1 → (xs[i]'(by omega)) < xs[i + 1]) := Lib.hid (fun a1 i hi hik => by
      by_cases e : i = k
      · subst e; exact a1
      · exact HM.out i hi (by omega))
    have HT : Hid (¬ (xs[k]'(by omega)) < xs[k + 1] → T = false) := Lib.hid (fun h => HN.out k hlt (by omega))
    have hw := wrapN k (by omega)
    have hw1 : IntKind.i64.wrap ((k : Int) + 1) = (k : Int) + 1 := by simp [IntKind.wrap, IntKind.signed, IntKind.bits]; omega
    have hw2 : IntKind.i64.wrap ((k : Int) + 1 + 1) = (k : Int) + 1 + 1 := by simp [IntKind.wrap, IntKind.signed, IntKind.bits]; omega
    have hki : (k : Int) + 1 < xs.length := by omega
    have hkj : (k : Int) < xs.length := by omega
    generalize xs[k]'(by omega) = x at *
    generalize xs[k + 1] = y at *
    clear hrow hs1 hs2
    by_cases hxy : x < y
    · have hd : ¬ y ≤ x := by omega
      have HNY := Lib.hid (HNX.out hxy)
      clear hxy
      go_wp2
      go_quiet (fail)
      go_wp2
      go_roundw
      case rel => exact ⟨k + 1, by omega, by go_num, Lib.hid (below_drewN HB.out _), HNY⟩
      case measure => simp [intOf]; omega
    · have hd : y ≤ x := by omega
      have HTF := Lib.hid (HT.out hxy)
      clear hxy
      go_wp2
      go_quiet (fail)
      go_wp2
      go_ret
      exact ⟨by rw [HTF.out]; rfl, below_drewN HB.out _⟩
set_option maxRecDepth 100000 in
set_option maxHeartbeats 1000000 in
/-- the reference's rises -/
theorem rises_any (w : World) (v : Value) (xs : List ID) (h : SlIn w v 32 idL xs) (hlen : xs.length ≤ 1048576) : Calls Tryz.prog 77 #[v] w fun e w' => e = .returned (.bool (risB xs)) ∧ Below w.heap.size w w' := by
  have HS := Lib.hid h
  obtain ⟨oa, cap, rfl, g1, g2, g3⟩ := h
  have H3 := Lib.hid g3
  have HN : Hid (∀ i (hi : i + 1 < xs.length), ltI (xs[i]'(by omega)) xs[i + 1] = false → risB xs = false) := Lib.hid (fun i hi h => risB_no hi h)
  have HY : Hid ((∀ i (hi : i + 1 < xs.length), ltI (xs[i]'(by omega)) xs[i + 1] = true) → risB xs = true) := Lib.hid risB_yes
  generalize risB xs = T at *
  unfold maxLen at g2
  clear g3
  go_enter Tryz.func77, Tryz.ntmps77
  go_wp2_with fail
  go_loopw [3] (fun v3 wr => ∃ k : Nat, (k ≤ xs.length ∨ k = 0) ∧ v3 = .int .i64 ((k : Int) + 1) ∧ Hid (Below w.heap.size w wr) ∧ Hid (∀ i (hi : i + 1 < xs.length), i < k → ltI (xs[i]'(by omega)) xs[i + 1] = true)) (fun i _ => xs.length + 1 - (intOf i).toNat)
  case atStart => exact ⟨0, .inr rfl, rfl, Lib.hid (Below.refl _ _), Lib.hid (by omega)⟩
  case round =>
    obtain ⟨k, hk, rfl, HB, HM⟩ := hrel
    have hz := HB.out.size
    by_cases hlt : k + 1 < xs.length
    case neg =>
      have HT : Hid (T = true) := Lib.hid (HY.out fun i hi => HM.out i hi (by omega))
      have hnl : ¬ (k : Int) + 1 < xs.length := by omega
      go_wp2_with fail
      go_ret
      exact ⟨by rw [HT.out]; rfl, HB.out⟩
    obtain ⟨b, off, rfl, hbb, hrow⟩ := H3.out (by omega)
    have hs1 := hrow k (by omega)
    have hs2 := hrow (k + 1) hlt
    rw [← obj_below HB.out hbb] at hs1 hs2
    have hbl : b < wr.heap.size := by omega
    have HNX : Hid (ltI (xs[k]'(by omega)) xs[k + 1] = true → ∀ i (hi : i + 1 < xs.length), i < k + 1 → ltI (xs[i]'(by omega)) xs[i + 1] = true) := Lib.hid (fun a1 i hi hik => by
      by_cases e : i = k
      · subst e; exact a1
      · exact HM.out i hi (by omega))
    have HT : Hid (ltI (xs[k]'(by omega)) xs[k + 1] = false → T = false) := Lib.hid (fun h => HN.out k hlt h)
    have hw := wrapN k (by omega)
    have hw1 : IntKind.i64.wrap ((k : Int) + 1) = (k : Int) + 1 := by simp [IntKind.wrap, IntKind.signed, IntKind.bits]; omega
    have hw2 : IntKind.i64.wrap ((k : Int) + 1 + 1) = (k : Int) + 1 + 1 := by simp [IntKind.wrap, IntKind.signed, IntKind.bits]; omega
    have hki : (k : Int) + 1 < xs.length := by omega
    have hkj : (k : Int) < xs.length := by omega
    generalize xs[k]'(by omega) = x at *
    generalize xs[k + 1] = y at *
    have HL : Hid (∀ z : Later wr, Calls Tryz.prog 69 #[.agg (idL x).toArray, .agg (idL y).toArray] z.w fun e w' => e = .returned (.bool (ltI x y)) ∧ Below z.w.heap.size z.w w') := Lib.hid (fun z => lessR_any z.w x y)
    clear hrow
    go_wp2_with fail
    refine wp_region_later wr (Below.refl _ _) (by kernel_rfl) (by kernel_rfl) ?_
    repeat (go_big_quiet_step (first | (go_at_call 69; with_reducible exact Calls.later (HL.out _))))
    refine wpQuiet_nil ?_
    intro _ hx
    obtain ⟨⟨w3, b3⟩, hx⟩ := hx
    subst hx
    rename_i w3
    have B3 := Lib.hid (HB.out.trans (b3.mono HB.out.size))
    clear b3
    cases hl : ltI x y with
    | true =>
      have HNY := Lib.hid (HNX.out hl)
      go_wp2_with fail
      go_roundw
      case rel => exact ⟨k + 1, by omega, by go_num, B3, HNY⟩
      case measure => simp [intOf]; omega
    | false =>
      have HTF := Lib.hid (HT.out hl)
      go_wp2_with fail
      go_ret
      exact ⟨by rw [HTF.out]; rfl, B3.out⟩
set_option maxRecDepth 100000 in
set_option maxHeartbeats 1000000 in
theorem sameIDs_any (w : World) (v1 v2 : Value) (xs ys : List ID) (h : SlIn w v1 32 idL xs) (h' : SlIn w v2 32 idL ys) :
    Calls Tryz.prog 44 #[v1, v2] w fun e w' => e = .returned (.bool (decide (xs = ys))) ∧ Below w.heap.size w w' := by
  obtain ⟨oa, cap, rfl, h1, h2, h3⟩ := h
  obtain ⟨ob, cap', rfl, h1', h2', h3'⟩ := h'
  unfold maxLen at h2 h2'
  have H3 := Lib.hid h3
  have H3' := Lib.hid h3'
  clear h3 h3'
  by_cases hll : xs.length = ys.length
  · have hb0 : ((xs.length : Int) != (ys.length : Int)) = false := by simp [hll]
    have HLL := Lib.hid hll
    clear hll
    go_enter Tryz.func44, Tryz.ntmps44
    go_wp2
    go_loopw [5] (fun v5 wr => ∃ k : Nat, k ≤ xs.length ∧ v5 = .int .i64 k ∧ Hid (∀ j (h1 : j < xs.length) (h2 : j < ys.length), j < k → xs[j] = ys[j]) ∧ Below w.heap.size w wr) (fun i _ => xs.length - (intOf i).toNat)
    case atStart => exact ⟨0, Nat.zero_le _, rfl, Lib.hid (by omega), Below.refl _ _⟩
    case round =>
      obtain ⟨k, hk, rfl, HK, hb⟩ := hrel
      by_cases hlt : k < xs.length
      · have hlt' : k < ys.length := by have := HLL.out; omega
        obtain ⟨b, off, hoa, hbb, hrow⟩ := H3.out (by omega)
        obtain ⟨b', off', hoa', hbb', hrow'⟩ := H3'.out (by omega)
        subst hoa
        subst hoa'
        have hs1 := hrow k hlt
        have hs2 := hrow' k hlt'
        rw [← obj_below hb hbb] at hs1
        rw [← obj_below hb hbb'] at hs2
        have hbl : b < wr.heap.size := Nat.lt_of_lt_of_le hbb hb.size
        have hbl' : b' < wr.heap.size := Nat.lt_of_lt_of_le hbb' hb.size
        have NX : Hid (xs[k] = ys[k] → ∀ j (h1 : j < xs.length) (h2 : j < ys.length), j < k + 1 → xs[j] = ys[j]) := Lib.hid (fun h j h1 h2 hlt' => by
            by_cases e : j = k
            · subst e; exact h
            · exact HK.out j h1 h2 (by omega))
        have NO : Hid (xs[k] ≠ ys[k] → xs ≠ ys) := Lib.hid (fun h e => h (by subst e; rfl))
        generalize xs[k] = x at *
        generalize ys[k] = y at *
        clear hrow hrow'
        by_cases hxy : x = y
        · have hd : decide (x = y) = true := by simpa using hxy
          have HN := Lib.hid (NX.out hxy)
          clear hxy
          go_wp2
          go_quiet (fail)
          go_wp2
          go_roundw
          case rel => exact ⟨k + 1, by omega, by go_num, HN, below_drewN hb _⟩
          case measure => simp [intOf]; omega
        · have hd : decide (x = y) = false := by simpa using hxy
          have HN := Lib.hid (NO.out hxy)
          clear hxy
          go_wp2
          go_quiet (fail)
          go_wp2
          go_ret
          exact ⟨ret_bool (by simpa using HN.out), below_drewN hb _⟩
      · have hk' : k = xs.length := by omega
        subst hk'
        go_wp2
        go_ret
        exact ⟨ret_bool (by simpa using List.ext_getElem HLL.out (fun j h1 h2 => HK.out j h1 h2 h1)), hb⟩
  · have hb0 : ((xs.length : Int) != (ys.length : Int)) = true := by simp; omega
    have HN : Hid (xs ≠ ys) := Lib.hid (fun e => hll (by rw [e]))
    clear hll
    go_enter Tryz.func44, Tryz.ntmps44
    go_wp2
    go_ret
    exact ⟨ret_bool (by simpa using HN.out), Below.refl _ _⟩

end Go.Proofs.YtmgpfmgmpmkkaaaGreat
