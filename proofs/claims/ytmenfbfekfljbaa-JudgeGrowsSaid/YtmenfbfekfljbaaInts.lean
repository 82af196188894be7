import Derived.Test.YtmenfbfekfljbaaFew
import Derived.Test.YtmenfbfekfljbaaSlices
namespace Go.Proofs.Ytmenfbfekfljbaa
open Go.RowKit

def iL (n : Int) : List Value := [.int .i64 n]
theorem iL_length (n : Int) : (iL n).length = 1 := rfl
theorem SlIn.map {α β : Type} {w : World} {k : Nat} {enc : β → List Value} {g : α → β} {v : Value} {xs : List α} : SlIn w v k enc (xs.map g) ↔ SlIn w v k (fun x => enc (g x)) xs := by
  unfold SlIn RowAt
  simp
/-- a cell of a row of ints -/
theorem int_cell {w W : World} {b off : Nat} {xs : List Int} (hrow : RowAt w b off 1 iL xs) (e : obj W b = obj w b) {k : Nat} (hk : k < xs.length) : W.cell? ⟨b, off + k, none⟩ = some (.int .i64 xs[k]) := by
  have h := hrow k hk
  rw [← e] at h
  have := subOf_cell h (j := 0) (by decide)
  simpa [iL] using this
theorem zero_has {xs : List Int} {a : Int} (h : ∀ j (hj : j < xs.length), j < xs.length → xs[j] ≠ a) : decide (a ∈ xs) = false := by
  rw [decide_eq_false_iff_not]
  intro hm
  obtain ⟨j, hj, e⟩ := List.getElem_of_mem hm
  exact h j hj hj e
def idxI (xs : List Int) (a : Int) : Int := if a ∈ xs then (xs.idxOf a : Int) else -1
theorem idxI_nonneg (xs : List Int) (a : Int) : decide (0 ≤ idxI xs a) = decide (a ∈ xs) := by
  unfold idxI
  by_cases h : a ∈ xs <;> simp [h]
theorem idxI_hit {xs : List Int} {a : Int} {k : Nat} (h : k < xs.length) (hn : ∀ j (hj : j < xs.length), j < k → xs[j] ≠ a) (e : xs[k] = a) : idxI xs a = k := by
  have hm : a ∈ xs := e ▸ List.getElem_mem h
  unfold idxI
  rw [if_pos hm]
  congr 1
  have hi : xs.idxOf a < xs.length := List.idxOf_lt_length_iff.2 hm
  have hg : xs[xs.idxOf a] = a := List.getElem_idxOf hi
  rcases Nat.lt_trichotomy (xs.idxOf a) k with h1 | h1 | h1
  · exact absurd hg (hn _ hi h1)
  · exact h1
  · have := List.not_of_lt_findIdx (p := (· == a)) (xs := xs) (i := k) (by simpa [List.idxOf] using h1)
    simp [e] at this
set_option maxRecDepth 100000 in
set_option maxHeartbeats 1000000 in
/-- slices.Index, of ints -/
theorem index_int (w : World) (v : Value) (xs : List Int) (a : Int) (h : SlIn w v 1 iL xs) :
    Calls Try.prog 65 #[v, .int .i64 a] w fun e w' => e = .returned (.int .i64 (idxI xs a)) ∧ Below w.heap.size w w' := by
  obtain ⟨oa, cap, rfl, h1, h2, h3⟩ := h
  unfold maxLen at h2
  have H3 := Lib.hid h3
  clear h3
  go_enter Try.func65, Try.ntmps65
  go_wp2
  go_loopw [5, 8] (fun _ v8 wr => ∃ k : Nat, k ≤ xs.length ∧ v8 = .int .i64 k ∧ Hid (∀ j (h1 : j < xs.length), j < k → xs[j] ≠ a) ∧ Hid (Below w.heap.size w wr)) (fun _ i _ => xs.length - (intOf i).toNat)
  case atStart => exact ⟨0, Nat.zero_le _, rfl, Lib.hid (by omega), Lib.hid (Below.refl _ w)⟩
  case round =>
    obtain ⟨k, hk, rfl, HK, hb⟩ := hrel
    by_cases hlt : k < xs.length
    · obtain ⟨b, off, hoa, hbb, hrow⟩ := H3.out (by omega)
      subst hoa
      have cx := int_cell hrow (obj_below hb.out hbb) hlt
      have NX : Hid (xs[k] ≠ a → ∀ j (h1 : j < xs.length), j < k + 1 → xs[j] ≠ a) := Lib.hid (fun h j h1 hlt' => by
          by_cases e : j = k
          · subst e; exact h
          · exact HK.out j h1 (by omega))
      have NO : Hid (xs[k] = a → idxI xs a = k) := Lib.hid (fun h => idxI_hit hlt HK.out h)
      generalize xs[k] = x at *
      clear hrow
      by_cases hxy : a = x
      · have hd : (a == x) = true := by simpa using hxy
        have HN := Lib.hid (NO.out hxy.symm)
        go_wp2
        go_ret
        exact ⟨ret_int HN.out.symm, hb.out⟩
      · have hd : (a == x) = false := by simpa using hxy
        have HN := Lib.hid (NX.out fun e => hxy e.symm)
        go_wp2
        go_roundw
        case rel => exact ⟨k + 1, by omega, by go_num, HN, hb⟩
        case measure => simp [intOf]; omega
    · have HG : Hid (-1 = idxI xs a) := Lib.hid (by
        have := zero_has (a := a) (fun j hj _ => HK.out j hj (by omega))
        unfold idxI
        rw [if_neg (by simpa using this)])
      go_wp2
      go_ret
      exact ⟨ret_int HG.out, hb.out⟩
set_option maxRecDepth 100000 in
/-- slices.Contains, of ints -/
theorem contains_int (w : World) (v : Value) (xs : List Int) (a : Int) (h : SlIn w v 1 iL xs) :
    Calls Try.prog 49 #[v, .int .i64 a] w fun e w' => e = .returned (.bool (decide (a ∈ xs))) ∧ Below w.heap.size w w' := by
  have HI := Lib.hid (index_int w v xs a h)
  have HE := Lib.hid (idxI_nonneg xs a)
  generalize idxI xs a = r at *
  clear h
  go_enter Try.func49, Try.ntmps49
  go_wp2_with fail
  refine HI.out.mono ?_
  rintro e w1 ⟨rfl, hb⟩
  go_wp2
  go_ret
  exact ⟨ret_bool HE.out, hb⟩
set_option maxRecDepth 100000 in
set_option maxHeartbeats 1000000 in
/-- flurryref26.has -/
theorem has_any (w : World) (v : Value) (xs : List Int) (a : Int) (h : SlIn w v 1 iL xs) :
    Calls Try.prog 50 #[v, .int .i64 a] w fun e w' => e = .returned (.bool (decide (a ∈ xs))) ∧ Below w.heap.size w w' := by
  obtain ⟨oa, cap, rfl, h1, h2, h3⟩ := h
  unfold maxLen at h2
  have H3 := Lib.hid h3
  clear h3
  go_enter Try.func50, Try.ntmps50
  go_wp2
  go_loopw [5] (fun v5 wr => ∃ k : Nat, k ≤ xs.length ∧ v5 = .int .i64 k ∧ Hid (∀ j (h1 : j < xs.length), j < k → xs[j] ≠ a) ∧ Hid (Below w.heap.size w wr)) (fun i _ => xs.length - (intOf i).toNat)
  case atStart => exact ⟨0, Nat.zero_le _, rfl, Lib.hid (by omega), Lib.hid (Below.refl _ w)⟩
  case round =>
    obtain ⟨k, hk, rfl, HK, hb⟩ := hrel
    by_cases hlt : k < xs.length
    · obtain ⟨b, off, hoa, hbb, hrow⟩ := H3.out (by omega)
      subst hoa
      have cx := int_cell hrow (obj_below hb.out hbb) hlt
      have NX : Hid (xs[k] ≠ a → ∀ j (h1 : j < xs.length), j < k + 1 → xs[j] ≠ a) := Lib.hid (fun h j h1 hlt' => by
          by_cases e : j = k
          · subst e; exact h
          · exact HK.out j h1 (by omega))
      have NO : Hid (xs[k] = a → true = decide (a ∈ xs)) := Lib.hid (fun h => by
        have : a ∈ xs := h ▸ List.getElem_mem hlt
        simp [this])
      generalize xs[k] = x at *
      clear hrow
      by_cases hxy : x = a
      · have hd : (x == a) = true := by simpa using hxy
        have HN := Lib.hid (NO.out hxy)
        go_wp2
        go_ret
        exact ⟨ret_bool HN.out, hb.out⟩
      · have hd : (x == a) = false := by simpa using hxy
        have HN := Lib.hid (NX.out hxy)
        go_wp2
        go_roundw
        case rel => exact ⟨k + 1, by omega, by go_num, HN, hb⟩
        case measure => simp [intOf]; omega
    · have HG : Hid (false = decide (a ∈ xs)) := Lib.hid (zero_has (a := a) (fun j hj _ => HK.out j hj (by omega))).symm
      go_wp2
      go_ret
      exact ⟨ret_bool HG.out, hb.out⟩
end Go.Proofs.Ytmenfbfekfljbaa
