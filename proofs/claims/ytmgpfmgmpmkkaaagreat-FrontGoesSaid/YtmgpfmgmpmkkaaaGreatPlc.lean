import Derived.Test.YtmgpfmgmpmkkaaaGreatFrM
namespace Go.Proofs.YtmgpfmgmpmkkaaaGreat
open Go.RowKit

theorem wrapN (k : Nat) (h : k < 4611686018427387904) : IntKind.i64.wrap (k : Int) = (k : Int) := by
  simp [IntKind.wrap, IntKind.signed, IntKind.bits]; omega
set_option maxRecDepth 100000 in
set_option maxHeartbeats 1000000 in
/-- places -/
theorem places_any (w : World) (la : Option Addr) (ln lc : Nat) (v : Value) (xs : List Int) (h : SlIn w v 1 intL xs) (hlen : xs.length ≤ 17592186043904) : Calls Tryz.prog 49 #[.slice la ln lc, v] w fun e w' => e = .returned (.bool (placesB ln xs)) ∧ w' = w := by
  obtain ⟨oa, cap, rfl, g1, g2, g3⟩ := h
  have H3 := Lib.hid g3
  have HN : Hid (∀ i (hi : i < xs.length), (xs[i] < 0 ∨ (ln : Int) ≤ xs[i] ∨ ∃ j, ∃ hj : j + 1 = i, xs[i] ≤ xs[j]'(by omega)) → placesB ln xs = false) := Lib.hid (fun i hi h => placesB_no hi h)
  have HY : Hid ((∀ i (hi : i < xs.length), 0 ≤ xs[i] ∧ xs[i] < (ln : Int) ∧ ∀ j, (hj : j + 1 = i) → xs[j]'(by omega) < xs[i]) → placesB ln xs = true) := Lib.hid placesB_yes
  generalize placesB ln xs = T at *
  unfold maxLen at g2
  clear g3
  go_enter Tryz.func49, Tryz.ntmps49
  go_wp2_with fail
  go_loopw [5, 6, 9] (fun _ _ v9 wr => ∃ k : Nat, k ≤ xs.length ∧ v9 = .int .i64 k ∧ wr = w ∧ Hid (∀ i (hi : i < xs.length), i < k → 0 ≤ xs[i] ∧ xs[i] < (ln : Int) ∧ ∀ j, (hj : j + 1 = i) → xs[j]'(by omega) < xs[i])) (fun _ _ i _ => xs.length - (intOf i).toNat)
  case atStart => exact ⟨0, Nat.zero_le _, rfl, rfl, Lib.hid (by omega)⟩
  case round =>
    obtain ⟨k, hk, rfl, rfl, HM⟩ := hrel
    by_cases hlt : k < xs.length
    case neg =>
      have HT : Hid (T = true) := Lib.hid (HY.out fun i hi => HM.out i hi (by omega))
      go_wp2_with fail
      go_ret
      exact ⟨by rw [HT.out]; rfl, rfl⟩
    obtain ⟨b, off, rfl, hbb, hrow⟩ := H3.out (by omega)
    have hs1 := hrow k hlt
    have cx : wr.cell? ⟨b, off + k * 1, none⟩ = some (.int .i64 xs[k]) := by
      have := subOf_cell hs1 (j := 0) (by decide)
      simpa [intL] using this
    rw [Nat.mul_one] at cx
    have HNX : Hid (0 ≤ xs[k] → xs[k] < (ln : Int) → (∀ j, (hj : j + 1 = k) → xs[j]'(by omega) < xs[k]) → ∀ i (hi : i < xs.length), i < k + 1 → 0 ≤ xs[i] ∧ xs[i] < (ln : Int) ∧ ∀ j, (hj : j + 1 = i) → xs[j]'(by omega) < xs[i]) := Lib.hid (fun a1 a2 a3 i hi hik => by
      by_cases e : i = k
      · subst e; exact ⟨a1, a2, a3⟩
      · exact HM.out i hi (by omega))
    by_cases h0 : xs[k] < 0
    · have HT : Hid (T = false) := Lib.hid (HN.out k hlt (.inl h0))
      generalize xs[k] = x at *
      clear hs1 hrow
      go_wp2_with fail
      go_ret
      exact ⟨by rw [HT.out]; rfl, rfl⟩
    by_cases h1 : (ln : Int) ≤ xs[k]
    · have HT : Hid (T = false) := Lib.hid (HN.out k hlt (.inr (.inl h1)))
      generalize xs[k] = x at *
      clear hs1 hrow
      go_wp2_with fail
      go_ret
      exact ⟨by rw [HT.out]; rfl, rfl⟩
    cases k with
    | zero =>
      have HNY := Lib.hid (HNX.out (by omega) (by omega) (fun j hj => by omega))
      generalize xs[0] = x at *
      clear hs1 hrow
      simp only [Nat.add_zero] at cx
      go_wp2_with fail
      go_roundw
      case rel => exact ⟨1, by omega, by go_num, trivial, HNY⟩
      case measure => simp [intOf]; omega
    | succ j =>
      have hs2 := hrow j (by omega)
      have cy : wr.cell? ⟨b, off + j * 1, none⟩ = some (.int .i64 xs[j]) := by
        have := subOf_cell hs2 (j := 0) (by decide)
        simpa [intL] using this
      rw [Nat.mul_one] at cy
      have hw := wrapN j (by omega)
      have hjl : (j : Int) < xs.length := by omega
      by_cases h2 : xs[j + 1] ≤ xs[j]
      · have HT : Hid (T = false) := Lib.hid (HN.out (j + 1) hlt (.inr (.inr ⟨j, rfl, h2⟩)))
        generalize xs[j + 1] = x at *
        generalize xs[j] = y at *
        clear hs1 hs2 hrow
        go_wp2_with fail
        go_ret
        exact ⟨by rw [HT.out]; rfl, rfl⟩
      · have HNY := Lib.hid (HNX.out (by omega) (by omega) (fun j' hj => by
          have : j' = j := by omega
          subst this
          omega))
        generalize xs[j + 1] = x at *
        generalize xs[j] = y at *
        clear hs1 hs2 hrow
        go_wp2_with fail
        go_roundw
        case rel => exact ⟨j + 1 + 1, by omega, by go_num, trivial, HNY⟩
        case measure => simp [intOf]; omega
set_option maxRecDepth 100000 in
set_option maxHeartbeats 1000000 in
/-- rising -/
theorem rising_any (w : World) (v : Value) (xs : List ID) (h : SlIn w v 32 idL xs) (hlen : xs.length ≤ 1048576) : Calls Tryz.prog 51 #[v] w fun e w' => e = .returned (.bool (risB xs)) ∧ Below w.heap.size w w' := by
  have HS := Lib.hid h
  obtain ⟨oa, cap, rfl, g1, g2, g3⟩ := h
  have H3 := Lib.hid g3
  have HN : Hid (∀ i (hi : i + 1 < xs.length), ltI (xs[i]'(by omega)) xs[i + 1] = false → risB xs = false) := Lib.hid (fun i hi h => risB_no hi h)
  have HY : Hid ((∀ i (hi : i + 1 < xs.length), ltI (xs[i]'(by omega)) xs[i + 1] = true) → risB xs = true) := Lib.hid risB_yes
  generalize risB xs = T at *
  unfold maxLen at g2
  clear g3
  go_enter Tryz.func51, Tryz.ntmps51
  go_wp2_with fail
  go_loopw [3] (fun v3 wr => ∃ k : Nat, (k ≤ xs.length ∨ k = 0) ∧ v3 = .int .i64 ((k : Int) + 1) ∧ Hid (Below w.heap.size w wr) ∧ Hid (∀ i (hi : i + 1 < xs.length), i < k → ltI (xs[i]'(by omega)) xs[i + 1] = true)) (fun i _ => xs.length + 1 - (intOf i).toNat)
  case atStart => exact ⟨0, .inr rfl, rfl, Lib.hid (Below.refl _ _), Lib.hid (by omega)⟩
  case round =>
    obtain ⟨k, hk, rfl, HB, HM⟩ := hrel
    have hz := HB.out.size
    by_cases hlt : k + 1 < xs.length
    case neg =>
      have HT : Hid (T = true) := Lib.hid (HY.out fun i hi => HM.out i hi (by omega))
      have hnl : ¬ (k : Int) + 1 < xs.length := by omega
      go_wp2_with fail
      go_ret
      exact ⟨by rw [HT.out]; rfl, HB.out⟩
    obtain ⟨b, off, rfl, hbb, hrow⟩ := H3.out (by omega)
    have hs1 := hrow k (by omega)
    have hs2 := hrow (k + 1) hlt
    rw [← obj_below HB.out hbb] at hs1 hs2
    have hbl : b < wr.heap.size := by omega
    have HNX : Hid (ltI (xs[k]'(by omega)) xs[k + 1] = true → ∀ i (hi : i + 1 < xs.length), i < k + 1 → ltI (xs[i]'(by omega)) xs[i + 1] = true) := Lib.hid (fun a1 i hi hik => by
      by_cases e : i = k
      · subst e; exact a1
      · exact HM.out i hi (by omega))
    have HT : Hid (ltI (xs[k]'(by omega)) xs[k + 1] = false → T = false) := Lib.hid (fun h => HN.out k hlt h)
    have hw := wrapN k (by omega)
    have hw1 : IntKind.i64.wrap ((k : Int) + 1) = (k : Int) + 1 := by simp [IntKind.wrap, IntKind.signed, IntKind.bits]; omega
    have hw2 : IntKind.i64.wrap ((k : Int) + 1 + 1) = (k : Int) + 1 + 1 := by simp [IntKind.wrap, IntKind.signed, IntKind.bits]; omega
    have hki : (k : Int) + 1 < xs.length := by omega
    have hkj : (k : Int) < xs.length := by omega
    generalize xs[k]'(by omega) = x at *
    generalize xs[k + 1] = y at *
    have HL : Hid (∀ z : Later wr, Calls Tryz.prog 66 #[.agg (idL x).toArray, .agg (idL y).toArray] z.w fun e w' => e = .returned (.bool (ltI x y)) ∧ Below z.w.heap.size z.w w') := Lib.hid (fun z => less_any z.w x y)
    clear hrow
    go_wp2_with fail
    refine wp_region_later wr (Below.refl _ _) (by kernel_rfl) (by kernel_rfl) ?_
    repeat (go_big_quiet_step (first | (go_at_call 66; with_reducible exact Calls.later (HL.out _))))
    refine wpQuiet_nil ?_
    intro _ hx
    obtain ⟨⟨w3, b3⟩, hx⟩ := hx
    subst hx
    rename_i w3
    have B3 := Lib.hid (HB.out.trans (b3.mono HB.out.size))
    clear b3
    cases hl : ltI x y with
    | true =>
      have HNY := Lib.hid (HNX.out hl)
      go_wp2_with fail
      go_roundw
      case rel => exact ⟨k + 1, by omega, by go_num, B3, HNY⟩
      case measure => simp [intOf]; omega
    | false =>
      have HTF := Lib.hid (HT.out hl)
      go_wp2_with fail
      go_ret
      exact ⟨by rw [HTF.out]; rfl, B3.out⟩
end Go.Proofs.YtmgpfmgmpmkkaaaGreat
