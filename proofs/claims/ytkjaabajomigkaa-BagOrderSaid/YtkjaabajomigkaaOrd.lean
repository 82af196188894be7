import Derived.Test.YtkjaabajomigkaaMost
import Derived.Deep.RegionHeld3
namespace Go.Proofs.Ytkjaabajomigkaa
open Go.RowKit

theorem slIn_drop32 {w : World} {b off cap : Nat} {l : List ID} (h : SlIn w (.slice (some ⟨b, off, none⟩) l.length cap) 32 idL l) {n : Nat} (hn : n ≤ l.length) :
    SlIn w (.slice (if cap = n then some ⟨b, off, none⟩ else some ⟨b, off + n * 32, none⟩) (l.length - n) (cap - n)) 32 idL (l.drop n) := by
  have hd := SlIn.drop h hn
  by_cases hc : cap = n
  · rw [if_pos hc]
    obtain ⟨oa, c, e, g1, g2, _⟩ := hd
    simp only [Value.slice.injEq] at e
    obtain ⟨_, e2, e3⟩ := e
    refine ⟨_, _, by rw [e2], by rw [e3]; exact g1, by rw [e3]; exact g2, fun h0 => ?_⟩
    rw [List.length_drop] at h0
    obtain ⟨_, _, e4, k1, k2, _⟩ := h
    simp only [Value.slice.injEq] at e4
    omega
  · rw [if_neg hc]; exact hd
def sliceHi23 (x lo : Value) : Sem Value := Instr.sliceAt 23 x (some lo) none none
def sliceLo23 (x hi : Value) : Sem Value := Instr.sliceAt 23 x none (some hi) none
theorem run_hi23 {w : World} {oa : Option Addr} {cap : Nat} {ids : List ID} (h : SlIn w (.slice oa ids.length cap) 32 idL ids) {k : Nat} (hk : k ≤ ids.length) : ∃ hv, (∀ W, (sliceHi23 (.slice oa ids.length cap) (.int .i64 k)).run Try.prog W = .ok hv W) ∧ ∀ W, SlIn W (.slice oa ids.length cap) 32 idL ids → SlIn W hv 32 idL (ids.drop k) := by
  have H := Lib.hid h
  obtain ⟨oa', cap', e, h1, h2, h3⟩ := h
  simp only [Value.slice.injEq] at e
  obtain ⟨rfl, _, rfl⟩ := e
  have hcm := h2
  unfold maxLen at h2
  by_cases h0 : 0 < ids.length
  · obtain ⟨b, off, rfl, _, _⟩ := h3 h0
    refine ⟨.slice (if cap = k then some ⟨b, off, none⟩ else some ⟨b, off + k * 32, none⟩) (ids.length - k) (cap - k), fun W => ?_, fun W hW => slIn_drop32 hW hk⟩
    unfold sliceHi23
    go_simp
  · have hi : ids = [] := List.eq_nil_of_length_eq_zero (by omega)
    subst hi
    have hk0 : k = 0 := by simpa using hk
    subst hk0
    have hnil : ∀ W oa, SlIn W (.slice oa 0 cap) 32 idL ([] : List ID) := fun W oa => ⟨oa, cap, rfl, Nat.zero_le _, hcm, fun h => absurd h (Nat.lt_irrefl _)⟩
    cases oa with
    | none =>
      refine ⟨.slice none 0 cap, fun W => ?_, fun W _ => hnil W none⟩
      unfold sliceHi23
      simp only [List.length_nil] at *
      go_simp
    | some ad =>
      obtain ⟨b, off, pth⟩ := ad
      refine ⟨.slice (some ⟨b, off, pth⟩) 0 cap, fun W => ?_, fun W _ => hnil W _⟩
      unfold sliceHi23
      simp only [List.length_nil] at *
      go_simp
theorem run_lo23 {w : World} {oa : Option Addr} {cap : Nat} {ids : List ID} (h : SlIn w (.slice oa ids.length cap) 32 idL ids) {k : Nat} (hk : k ≤ ids.length) : ∀ W, (sliceLo23 (.slice oa ids.length cap) (.int .i64 k)).run Try.prog W = .ok (.slice oa k cap) W := by
  intro W
  obtain ⟨oa', cap', e, h1, h2, h3⟩ := h
  simp only [Value.slice.injEq] at e
  obtain ⟨rfl, _, rfl⟩ := e
  unfold maxLen at h2
  unfold sliceLo23
  cases oa with
  | none =>
    go_simp
    intro hlt
    omega
  | some ad =>
    obtain ⟨b, off, pth⟩ := ad
    go_simp
    intro hlt
    omega
@[go_sem ↓] theorem hide_hi23 (x lo : Value) : Instr.sliceAt 23 x (some lo) none none = sliceHi23 x lo := rfl
@[go_sem ↓] theorem hide_lo23 (x hi : Value) : Instr.sliceAt 23 x none (some hi) none = sliceLo23 x hi := rfl
/-! ### a row with one element laid anew -/
section
variable {α : Type} {k : Nat} {enc : α → List Value}
theorem rowk_get (hk : ∀ x, (enc x).length = k) {cur : Array Value} {L : List α} {n : Nat} {E : TypeId} (h : cur.toList.take (L.length * k) = L.flatMap enc) (hc : cur.size = n * k) (hn : L.length ≤ n) {i : Nat} (hi : i < L.length) : subOf (some (.cells cur E (0, 0))) (i * k) k = some (enc L[i]).toArray := by
  have hle : (i + 1) * k ≤ L.length * k := Nat.mul_le_mul_right _ hi
  have hle2 : L.length * k ≤ n * k := Nat.mul_le_mul_right _ hn
  rw [Nat.add_mul] at hle
  rw [subOf_cells (by omega)]
  congr 1
  apply Array.ext'
  rw [subA, Array.toList_extract, List.extract_eq_take_drop]
  have := flatMap_sub hk L i hi
  rw [← h, List.drop_take, List.take_take, Nat.min_eq_left (by omega)] at this
  rw [Nat.add_sub_cancel_left, this]
theorem flatMap_setk (hk : ∀ x, (enc x).length = k) (L : List α) (y : α) : ∀ i, i < L.length → (L.set i y).flatMap enc = (L.flatMap enc).take (i * k) ++ enc y ++ (L.flatMap enc).drop (i * k + k) := by
  induction L with
  | nil => intro i hi; simp at hi
  | cons x L ih =>
    intro i hi
    cases i with
    | zero =>
      simp only [List.set_cons_zero, List.flatMap_cons, Nat.zero_mul, List.take_zero, List.nil_append, Nat.zero_add]
      rw [List.drop_left' (hk x)]
    | succ i =>
      have := ih i (by simpa using hi)
      rw [List.set_cons_succ, List.flatMap_cons, this, List.flatMap_cons, show (i + 1) * k = k + i * k by rw [Nat.add_mul]; omega]
      have t1 : (enc x).take (k + i * k) = enc x := List.take_of_length_le (by rw [hk]; omega)
      have t2 : (enc x).drop (k + (i * k + k)) = [] := List.drop_eq_nil_of_le (by rw [hk]; omega)
      rw [show k + i * k + k = k + (i * k + k) by omega, List.take_append, List.drop_append, t1, t2, hk, Nat.add_sub_cancel_left, Nat.add_sub_cancel_left]
      simp
theorem rowk_set (hk : ∀ x, (enc x).length = k) {cur : Array Value} {L : List α} {n : Nat} (h : cur.toList.take (L.length * k) = L.flatMap enc) (hc : cur.size = n * k) (hn : L.length ≤ n) {i : Nat} (hi : i < L.length) (y : α) :
    (spliceA cur (i * k) (enc y).toArray).size = n * k ∧ (spliceA cur (i * k) (enc y).toArray).toList.take (L.length * k) = (L.set i y).flatMap enc := by
  have hle : (i + 1) * k ≤ L.length * k := Nat.mul_le_mul_right _ hi
  have hle2 : L.length * k ≤ n * k := Nat.mul_le_mul_right _ hn
  rw [Nat.add_mul] at hle
  have hs : (spliceA cur (i * k) (enc y).toArray).size = n * k := by rw [size_spliceA (by simp [hk]; omega), hc]
  refine ⟨hs, ?_⟩
  rw [flatMap_setk hk L y i hi, ← h, List.take_take, Nat.min_eq_left (by omega), List.drop_take]
  unfold spliceA
  have hl : (cur.toList.take (i * k)).length = i * k := by simp; omega
  simp only [List.append_assoc]
  rw [List.take_append, hl, List.take_of_length_le (by omega)]
  congr 1
  have t1 : (enc y).take (L.length * k - i * k) = enc y := List.take_of_length_le (by rw [hk]; omega)
  rw [List.take_append, hk, t1]
  simp [hk, Nat.sub_sub]
end
/-! ### what the order is -/
theorem ofV_len (l : List ID) : (ofV [] l).length ≤ l.length := by
  obtain ⟨_, hp, hs, _⟩ := ofV_ok l
  have := len_sum hp
  omega
theorem add_of (ids : List ID) (hn : ids.length ≤ 1000) {k : Nat} (hk : k < ids.length) : addE (ofV [] (ids.take k)) 1 = 0 ∧ addV (ofV [] (ids.take k)) ids[k] 1 = ofV [] (ids.take (k + 1)) ∧ (ofV [] (ids.take k)).length ≤ 1048575 := by
  have hl : (ids.take k).length = k := by simp; omega
  have hb : bagE (ofV [] (ids.take k)) = 0 := ofV_bag (by omega)
  obtain ⟨_, _, hs, _⟩ := ofV_ok (ids.take k)
  have ht := totV_of hb
  have he : addE (ofV [] (ids.take k)) 1 = 0 := by
    unfold addE
    rw [if_pos hb, if_neg (by decide), if_neg (by omega)]
  refine ⟨he, ?_, ?_⟩
  · unfold addV
    rw [if_pos he, List.take_succ_eq_append_getElem hk, ofV_snoc]
  · have := ofV_len (ids.take k); omega
theorem merge_of (ids : List ID) (hn : ids.length ≤ 1000) (k : Nat) : mergeE (ofV [] (ids.take k)) (ofV [] (ids.drop k)) = 0 ∧ mergeW (ofV [] (ids.take k)) (ofV [] (ids.drop k)) = ofV [] ids := by
  have l1 : (ids.take k).length ≤ 1000 := by simp; omega
  have l2 : (ids.drop k).length ≤ 1000 := by simp; omega
  have h1 : bagE (ofV [] (ids.take k)) = 0 := ofV_bag (by omega)
  have h2 : bagE (ofV [] (ids.drop k)) = 0 := ofV_bag (by omega)
  obtain ⟨_, _, s1, _⟩ := ofV_ok (ids.take k)
  obtain ⟨_, _, s2, _⟩ := ofV_ok (ids.drop k)
  have t1 := totV_of h1
  have t2 := totV_of h2
  have he : mergeE (ofV [] (ids.take k)) (ofV [] (ids.drop k)) = 0 := by
    unfold mergeE
    rw [if_pos h1, if_pos h2, if_neg (by omega)]
  refine ⟨he, ?_⟩
  unfold mergeW
  rw [if_pos he, ofV_parts]
theorem tot_of (ids : List ID) (hn : ids.length ≤ 1000) : bagE (ofV [] ids) = 0 ∧ totV (ofV [] ids) = ids.length := by
  have h1 : bagE (ofV [] ids) = 0 := ofV_bag (by omega)
  obtain ⟨_, _, s1, _⟩ := ofV_ok ids
  exact ⟨h1, by rw [totV_of h1]; exact s1⟩
end Go.Proofs.Ytkjaabajomigkaa
