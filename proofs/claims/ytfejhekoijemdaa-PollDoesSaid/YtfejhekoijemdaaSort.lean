import Derived.Test.YtfejhekoijemdaaRange
import Derived.Shelf.SlSortCmp.NoneTotal
namespace Go.Proofs.Ytfejhekoijemdaa
open Go.RowKit Go.Shelf Go.Sort

/-! ### slices.SortFunc of a slice of the call's own -/
theorem flatMap_get {α : Type} {k : Nat} {enc : α → List Value} (hk : ∀ x, (enc x).length = k) (k0 : 0 < k) (xs : List α) (t : Nat) (h : t < xs.length * k) : (xs.flatMap enc)[t]? = (enc (xs[t / k]'(Nat.div_lt_of_lt_mul (by rw [Nat.mul_comm]; exact h))))[t % k]? := by
  have hd : t / k < xs.length := Nat.div_lt_of_lt_mul (by rw [Nat.mul_comm]; exact h)
  rw [← flatMap_sub hk xs (t / k) hd]
  have hm := Nat.mod_lt t k0
  rw [List.getElem?_take_of_lt hm, List.getElem?_drop]
  congr 1
  have := Nat.div_add_mod t k
  rw [Nat.mul_comm] at this
  omega
section
variable {α : Type} [Inhabited α]
theorem flatK_list {k : Nat} {enc : α → List Value} (hk : ∀ x, (enc x).length = k) (k0 : 0 < k) (xs : List α) : flatK enc k xs.toArray = (xs.flatMap enc).toArray := by
  refine ext_get! (by simp [flatMap_len hk]) fun t ht => ?_
  have ht' : t < xs.length * k := by simpa using ht
  have hd : t / k < xs.length := Nat.div_lt_of_lt_mul (by rw [Nat.mul_comm]; exact ht')
  rw [get_flatK _ _ _ t (by simpa using ht')]
  have h1 := flatMap_get hk k0 xs t ht'
  have h2 : xs.toArray[t / k]! = xs[t / k] := by simp [hd]
  rw [h2]
  have h3 : (xs.flatMap enc).toArray[t]! = ((xs.flatMap enc)[t]?).getD default := by simp [Array.getElem!_eq_getD, Array.getD_eq_getD_getElem?]
  rw [h3, h1]
  simp [List.getElem!_eq_getElem?_getD]
theorem holdsK_of_own {w : World} {base E k : Nat} {enc : α → List Value} (hk : ∀ x, (enc x).length = k) (k0 : 0 < k) {g len cap : Nat} {xs : List α} (h : OwnS w base E k enc (.slice (some ⟨g, 0, none⟩) len cap) xs) : len = xs.length ∧ HoldsK enc k w g 0 xs.toArray := by
  rcases h.1.2 with ⟨h1, _⟩ | ⟨g', cap', cur, e, _, hg, h2, _, h3, h4⟩
  · cases h1
  · simp only [Value.slice.injEq, Option.some.injEq, Addr.mk.injEq, and_true] at e
    obtain ⟨rfl, rfl, rfl⟩ := e
    have hg' : obj w g = some (.cells cur E (0, 0)) := hg
    refine ⟨rfl, fun j hj => ⟨?_, frozen_at hg' _⟩⟩
    rw [flatK_list hk k0] at hj ⊢
    have hj' : j < (xs.flatMap enc).length := by simpa using hj
    have hjl : j < xs.length * k := by rwa [flatMap_len hk] at hj'
    rw [cell_at hg', Nat.zero_add]
    have : (xs.flatMap enc)[j]? = cur[j]? := by rw [← h4, List.getElem?_take_of_lt hjl, Array.getElem?_toList]
    rw [← this]
    have e2 := List.getElem?_eq_getElem hj'
    simp [e2]
/-- the world behind a sort: the row turned, draws, new blocks -/
theorem own_sorted {w : World} {base E k : Nat} {enc : α → List Value} (hk : ∀ x, (enc x).length = k) (k0 : 0 < k) {g len cap : Nat} {xs ys : List α} (h : OwnS w base E k enc (.slice (some ⟨g, 0, none⟩) len cap) xs) (hl : ys.length = xs.length) (n : Nat) (os : Array Obj) :
    OwnS (sortWorldK enc k w g 0 n ys.toArray os) base E k enc (.slice (some ⟨g, 0, none⟩) len cap) ys ∧ Keeps (fun j => j = g) w (sortWorldK enc k w g 0 n ys.toArray os) := by
  rcases h.1.2 with ⟨h1, _⟩ | ⟨g', cap', cur, e, hb, hg, h2, h2', h3, h4⟩
  · cases h1
  · simp only [Value.slice.injEq, Option.some.injEq, Addr.mk.injEq, and_true] at e
    obtain ⟨rfl, rfl, rfl⟩ := e
    have hg' : obj w g = some (.cells cur E (0, 0)) := hg
    have hgz := lt_of_obj hg'
    have o1 : obj (sortWorldK enc k w g 0 n ys.toArray os) g = some (.cells (putCells id 0 (ys.flatMap enc).toArray cur) E (0, 0)) := by
      unfold sortWorldK putRowK putRow mapBlock grow obj
      rw [flatK_list hk k0]
      simp only []
      rw [Array.getElem?_append_left (by simp [Sort.ahead]; exact hgz), Array.getElem?_modify, if_pos rfl]
      have : (Sort.ahead w n).heap[g]? = some (.cells cur E (0, 0)) := hg'
      rw [this]
      rfl
    have hle : xs.length * k ≤ cap * k := Nat.mul_le_mul_right _ h2
    refine ⟨⟨⟨by rw [flatMap_len hk], .inr ⟨g, cap, _, by rw [hl], hb, o1, by rw [hl]; exact h2, h2', by simp [putCells, h3], ?_⟩⟩, ?_⟩, ?_⟩
    · apply List.ext_getElem?
      intro i
      by_cases hi : i < ys.length * k
      · rw [List.getElem?_take_of_lt hi, Array.getElem?_toList]
        have hi2 : i < (ys.flatMap enc).length := by rw [flatMap_len hk]; exact hi
        have hic : i < cur.size := by rw [h3]; rw [hl] at hi; omega
        have e2 := List.getElem?_eq_getElem hi2
        simp [putCells, hic, e2]
        intro hh
        rw [List.length_flatMap] at hi2
        omega
      · rw [List.getElem?_eq_none (by simp; omega), List.getElem?_eq_none (by rw [flatMap_len hk]; omega)]
    · constructor
      · intro e; cases e
      · intro e
        subst e
        have hx : xs = [] := List.eq_nil_of_length_eq_zero (by simpa using hl.symm)
        have := h.2.2 hx
        cases this
    · refine ⟨rfl, rfl, rfl, ?_, fun j hj hne => ?_⟩
      · simp [sortWorldK, putRowK, putRow, mapBlock, grow, Sort.ahead]
      · unfold sortWorldK putRowK putRow mapBlock grow obj
        simp only []
        rw [Array.getElem?_append_left (by simp [Sort.ahead]; exact hj), Array.getElem?_modify, if_neg (Ne.symm hne)]
        rfl
end
end Go.Proofs.Ytfejhekoijemdaa
