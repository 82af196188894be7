import Derived.Test.YtfejhekoijemdaaOps
namespace Go.Proofs.Ytfejhekoijemdaa
open Go.RowKit

def sliceLo50 (x hi : Value) : Sem Value := Instr.sliceAt 50 x none (some hi) none
theorem run_lo50 {w : World} {oa : Option Addr} {cap : Nat} {xs : List OpM} (h : SlIn w (.slice oa xs.length cap) 5 opL xs) {k : Nat} (hk : k ≤ xs.length) : ∀ W, (sliceLo50 (.slice oa xs.length cap) (.int .i64 k)).run Try.prog W = .ok (.slice oa k cap) W := by
  intro W
  obtain ⟨oa', cap', e, h1, h2, h3⟩ := h
  simp only [Value.slice.injEq] at e
  obtain ⟨rfl, _, rfl⟩ := e
  unfold maxLen at h2
  unfold sliceLo50
  cases oa with
  | none =>
    go_simp
    intro hlt
    omega
  | some ad =>
    obtain ⟨b, off, pth⟩ := ad
    go_simp
    intro hlt
    omega
@[go_sem ↓] theorem hide_lo50 (x hi : Value) : Instr.sliceAt 50 x none (some hi) none = sliceLo50 x hi := rfl
theorem SlIn.takeC {α : Type} {w : World} {oa : Option Addr} {cap k j : Nat} {enc : α → List Value} {xs : List α} (h : SlIn w (.slice oa xs.length cap) k enc xs) (hj : j ≤ xs.length) : SlIn w (.slice oa j cap) k enc (xs.take j) := by
  obtain ⟨oa', cap', e, h1, h2, h3⟩ := h
  simp only [Value.slice.injEq] at e
  obtain ⟨rfl, _, rfl⟩ := e
  have hl : (xs.take j).length = j := by simp; omega
  refine ⟨oa, cap, by rw [hl], by rw [hl]; omega, h2, fun h0 => ?_⟩
  obtain ⟨b, off, e, hb, hr⟩ := h3 (by omega)
  refine ⟨b, off, e, hb, fun i hi => ?_⟩
  have := hr i (by omega)
  rw [List.getElem_take]
  exact this
structure FewR (w : World) (xs : List OpM) (e : Ending) (w' : World) : Prop where
  r : ∃ v ys b, e = .returned (.tuple #[v, .bool b]) ∧ SlIn w' v 5 opL ys ∧ (∃ k, ys = xs.take k) ∧ ys.length ≤ 60 ∧ (b = true → ∀ x ∈ ys, x.n ≤ 100)
  hb : Below w.heap.size w w'
set_option maxRecDepth 100000 in
set_option maxHeartbeats 2000000 in
theorem few_a (w : World) (v : Value) (xs : List OpM) (h : SlIn w v 5 opL xs) (hc : xs.length ≤ 60) : Calls Try.prog 20 #[v] w (FewR w xs) := by
  obtain ⟨m, hm⟩ : ∃ m, m = min xs.length 60 := ⟨_, rfl⟩
  have hmx : m ≤ xs.length := by omega
  have hm60 : m ≤ 60 := by omega
  have HX := Lib.hid h
  obtain ⟨oa, cap, rfl, h1, h2, h3⟩ := h
  have HR := Lib.hid (fun W => run_lo50 HX.out hmx W)
  have hmi : (m : Int) = (xs.length : Int) := by omega
  rw [hmi] at HR
  have HR := HR.out
  have H3 := Lib.hid h3
  have HM := Lib.hid hm
  unfold maxLen at h2
  have hci : (xs.length : Int) ≤ 60 := by omega
  clear h3 hm hc hmi
  go_enter Try.func20, Try.ntmps20
  go_wp2_with fail
  go_loopw [13] (fun v13 wr => ∃ k : Nat, k ≤ m ∧ v13 = .int .i64 k ∧ Hid (Below w.heap.size w wr) ∧ Hid (∀ x ∈ xs.take k, x.n ≤ 100)) (fun i _ => m - (intOf i).toNat)
  case atStart => exact ⟨0, Nat.zero_le _, rfl, Lib.hid (Below.refl _ _), Lib.hid (by simp)⟩
  case round =>
    obtain ⟨k, hk, rfl, HB, HS⟩ := hrel
    by_cases hlt : k < m
    · have hkx : k < xs.length := by omega
      obtain ⟨b, off, rfl, hbb, hr⟩ := H3.out (by omega)
      have hs := hr k hkx
      rw [← obj_below HB.out hbb] at hs
      have hz := HB.out.size
      have hbr : b < wr.heap.size := by omega
      have f0 : wr.cell? ⟨b, off + k * 5, none⟩ = some (.int .i64 xs[k].d) := by have := subOf_cell hs (j := 0) (by decide); simpa [opL] using this
      have f1 : wr.cell? ⟨b, off + k * 5 + 1, none⟩ = some (.int .i64 xs[k].poll) := by have := subOf_cell hs (j := 1) (by decide); simpa [opL] using this
      have f2 : wr.cell? ⟨b, off + k * 5 + 2, none⟩ = some (.int .i64 xs[k].v) := by have := subOf_cell hs (j := 2) (by decide); simpa [opL] using this
      have f3 : wr.cell? ⟨b, off + k * 5 + 3, none⟩ = some (.int .u8 xs[k].id) := by have := subOf_cell hs (j := 3) (by decide); simpa [opL] using this
      have f4 : wr.cell? ⟨b, off + k * 5 + 4, none⟩ = some (.slice xs[k].oa xs[k].n xs[k].cap) := by have := subOf_cell hs (j := 4) (by decide); simpa [opL] using this
      have NX : Hid (xs[k].n ≤ 100 → ∀ x ∈ xs.take (k + 1), x.n ≤ 100) := Lib.hid (fun h x hx => by
        rw [List.take_succ_eq_append_getElem hkx] at hx
        rcases List.mem_append.1 hx with hx | hx
        · exact HS.out x hx
        · simp at hx; subst hx; exact h)
      clear hs hr
      generalize xs[k] = x at *
      by_cases hn : x.n ≤ 100
      · have hn1 : ¬ (100 : Int) < x.n := by omega
        go_wp2_with fail
        go_roundw
        case rel => exact ⟨k + 1, by omega, by go_num, Lib.hid (HB.out.alloc hz _), Lib.hid (NX.out hn)⟩
        case measure => simp [intOf]; omega
      · have hn1 : (100 : Int) < x.n := by omega
        go_wp2_with fail
        go_ret2
        exact ⟨⟨_, [], false, rfl, ⟨none, 0, rfl, Nat.le_refl _, Nat.zero_le _, fun h => absurd h (Nat.lt_irrefl _)⟩, ⟨0, rfl⟩, by simp, fun h => by cases h⟩, HB.out.alloc hz _⟩
    · have hk' : k = m := by omega
      subst hk'
      go_wp2_with fail
      go_ret2
      exact ⟨⟨_, xs.take k, true, rfl, (HX.out.below HB.out).takeC hmx, ⟨k, rfl⟩, by simp; omega, fun _ => HS.out⟩, HB.out⟩
set_option maxRecDepth 100000 in
set_option maxHeartbeats 2000000 in
theorem few_b (w : World) (v : Value) (xs : List OpM) (h : SlIn w v 5 opL xs) (hc : 60 < xs.length) : Calls Try.prog 20 #[v] w (FewR w xs) := by
  obtain ⟨m, hm⟩ : ∃ m, m = min xs.length 60 := ⟨_, rfl⟩
  have hmx : m ≤ xs.length := by omega
  have hm60 : m ≤ 60 := by omega
  have HX := Lib.hid h
  obtain ⟨oa, cap, rfl, h1, h2, h3⟩ := h
  have HR := Lib.hid (fun W => run_lo50 HX.out hmx W)
  have hmi : (m : Int) = 60 := by omega
  rw [hmi] at HR
  have HR := HR.out
  have H3 := Lib.hid h3
  have HM := Lib.hid hm
  unfold maxLen at h2
  have hci : (60 : Int) < xs.length := by omega
  clear h3 hm hc hmi
  go_enter Try.func20, Try.ntmps20
  go_wp2_with fail
  go_loopw [13] (fun v13 wr => ∃ k : Nat, k ≤ m ∧ v13 = .int .i64 k ∧ Hid (Below w.heap.size w wr) ∧ Hid (∀ x ∈ xs.take k, x.n ≤ 100)) (fun i _ => m - (intOf i).toNat)
  case atStart => exact ⟨0, Nat.zero_le _, rfl, Lib.hid (Below.refl _ _), Lib.hid (by simp)⟩
  case round =>
    obtain ⟨k, hk, rfl, HB, HS⟩ := hrel
    by_cases hlt : k < m
    · have hkx : k < xs.length := by omega
      obtain ⟨b, off, rfl, hbb, hr⟩ := H3.out (by omega)
      have hs := hr k hkx
      rw [← obj_below HB.out hbb] at hs
      have hz := HB.out.size
      have hbr : b < wr.heap.size := by omega
      have f0 : wr.cell? ⟨b, off + k * 5, none⟩ = some (.int .i64 xs[k].d) := by have := subOf_cell hs (j := 0) (by decide); simpa [opL] using this
      have f1 : wr.cell? ⟨b, off + k * 5 + 1, none⟩ = some (.int .i64 xs[k].poll) := by have := subOf_cell hs (j := 1) (by decide); simpa [opL] using this
      have f2 : wr.cell? ⟨b, off + k * 5 + 2, none⟩ = some (.int .i64 xs[k].v) := by have := subOf_cell hs (j := 2) (by decide); simpa [opL] using this
      have f3 : wr.cell? ⟨b, off + k * 5 + 3, none⟩ = some (.int .u8 xs[k].id) := by have := subOf_cell hs (j := 3) (by decide); simpa [opL] using this
      have f4 : wr.cell? ⟨b, off + k * 5 + 4, none⟩ = some (.slice xs[k].oa xs[k].n xs[k].cap) := by have := subOf_cell hs (j := 4) (by decide); simpa [opL] using this
      have NX : Hid (xs[k].n ≤ 100 → ∀ x ∈ xs.take (k + 1), x.n ≤ 100) := Lib.hid (fun h x hx => by
        rw [List.take_succ_eq_append_getElem hkx] at hx
        rcases List.mem_append.1 hx with hx | hx
        · exact HS.out x hx
        · simp at hx; subst hx; exact h)
      clear hs hr
      generalize xs[k] = x at *
      by_cases hn : x.n ≤ 100
      · have hn1 : ¬ (100 : Int) < x.n := by omega
        go_wp2_with fail
        go_roundw
        case rel => exact ⟨k + 1, by omega, by go_num, Lib.hid (HB.out.alloc hz _), Lib.hid (NX.out hn)⟩
        case measure => simp [intOf]; omega
      · have hn1 : (100 : Int) < x.n := by omega
        go_wp2_with fail
        go_ret2
        exact ⟨⟨_, [], false, rfl, ⟨none, 0, rfl, Nat.le_refl _, Nat.zero_le _, fun h => absurd h (Nat.lt_irrefl _)⟩, ⟨0, rfl⟩, by simp, fun h => by cases h⟩, HB.out.alloc hz _⟩
    · have hk' : k = m := by omega
      subst hk'
      go_wp2_with fail
      go_ret2
      exact ⟨⟨_, xs.take k, true, rfl, (HX.out.below HB.out).takeC hmx, ⟨k, rfl⟩, by simp; omega, fun _ => HS.out⟩, HB.out⟩
theorem few_any (w : World) (v : Value) (xs : List OpM) (h : SlIn w v 5 opL xs) : Calls Try.prog 20 #[v] w (FewR w xs) := by
  by_cases hc : xs.length ≤ 60
  · exact few_a w v xs h hc
  · exact few_b w v xs h (by omega)
end Go.Proofs.Ytfejhekoijemdaa
