import Derived.Test.YtagpclgappcnbaaGreatWide
import Derived.LoopTactic
import Derived.Maps.AppendAt
namespace Go.Proofs.YtagpclgappcnbaaGreat.Al

/-! ### heaps of alarms: the plain law -/
abbrev Al := Int × Int
def alLt (a b : Al) : Bool := decide (a.1 < b.1) || (decide (a.1 = b.1) && decide (a.2 < b.2))
theorem alLt_irrefl (a : Al) : alLt a a = false := by simp [alLt]
theorem alLt_trans {a b c : Al} (h1 : alLt a b = true) (h2 : alLt b c = true) : alLt a c = true := by
  simp only [alLt, Bool.or_eq_true, Bool.and_eq_true, decide_eq_true_eq] at *; omega
/-- not behind -/
def alLe (a b : Al) : Prop := alLt b a = false
theorem alLe_iff {a b : Al} : alLe a b ↔ a.1 < b.1 ∨ (a.1 = b.1 ∧ a.2 ≤ b.2) := by
  simp only [alLe, alLt, Bool.or_eq_false_iff, Bool.and_eq_false_iff, decide_eq_false_iff_not]; omega
theorem alLt_iff {a b : Al} : alLt a b = true ↔ a.1 < b.1 ∨ (a.1 = b.1 ∧ a.2 < b.2) := by
  simp only [alLt, Bool.or_eq_true, Bool.and_eq_true, decide_eq_true_eq]
theorem alLe_refl (a : Al) : alLe a a := alLt_irrefl a
theorem alLe_trans {a b c : Al} (h1 : alLe a b) (h2 : alLe b c) : alLe a c := by rw [alLe_iff] at *; omega
theorem alLe_of_lt {a b : Al} (h : alLt a b = true) : alLe a b := by rw [alLe_iff]; rw [alLt_iff] at h; omega
theorem alLe_antisymm {a b : Al} (h1 : alLe a b) (h2 : alLe b a) : a = b := by
  rw [alLe_iff] at *; exact Prod.ext (by omega) (by omega)

def swapL (L : List Al) (i k : Nat) : List Al := (L.set i (L[k]?.getD (0, 0))).set k (L[i]?.getD (0, 0))
@[simp] theorem swapL_length (L : List Al) (i k : Nat) : (swapL L i k).length = L.length := by simp [swapL]
/-- what lies at a place -/
def at' (L : List Al) (i : Nat) : Al := L[i]?.getD (0, 0)
theorem at'_eq {L : List Al} {i : Nat} (h : i < L.length) : at' L i = L[i] := by simp [at', h]
theorem at'_swap {L : List Al} {i k : Nat} (hi : i < L.length) (hk : k < L.length) (j : Nat) :
    at' (swapL L i k) j = if j = i then at' L k else if j = k then at' L i else at' L j := by
  unfold at' swapL
  rw [List.getElem?_set, List.getElem?_set]
  simp only [List.length_set]
  by_cases h1 : j = k
  · subst h1
    by_cases h2 : j = i
    · subst h2; simp [hk]
    · simp [hk, h2]
  · by_cases h2 : j = i
    · subst h2
      simp [hi, Ne.symm h1]
    · simp [h1, h2, Ne.symm h1, Ne.symm h2]
theorem swapL_perm {L : List Al} {i k : Nat} (hi : i < L.length) (hk : k < L.length) : (swapL L i k).Perm L := by
  have : swapL L i k = (L.set i L[k]).set k L[i] := by simp [swapL, hi, hk]
  rw [this]
  exact List.set_set_perm hi hk

def riseF : Nat → List Al → Nat → List Al
  | 0, L, _ => L
  | n + 1, L, i => if i = 0 then L else if alLt (at' L i) (at' L ((i - 1) / 2)) then riseF n (swapL L i ((i - 1) / 2)) ((i - 1) / 2) else L
def rise (L : List Al) (i : Nat) : List Al := riseF (i + 1) L i
def leastF (L : List Al) (i : Nat) : Nat :=
  let b1 := if 2 * i + 1 < L.length ∧ alLt (at' L (2 * i + 1)) (at' L i) = true then 2 * i + 1 else i
  if 2 * i + 2 < L.length ∧ alLt (at' L (2 * i + 2)) (at' L b1) = true then 2 * i + 2 else b1
def sinkF : Nat → List Al → Nat → List Al
  | 0, L, _ => L
  | n + 1, L, i => if leastF L i = i then L else sinkF n (swapL L i (leastF L i)) (leastF L i)
def sink (L : List Al) (i : Nat) : List Al := sinkF (L.length + 1) L i
def settle (L : List Al) (i : Nat) : List Al := sink (rise L i) i

theorem riseF_perm : ∀ (n : Nat) (L : List Al) (i : Nat), i < L.length → (riseF n L i).Perm L
  | 0, _, _, _ => List.Perm.refl _
  | n + 1, L, i, hi => by
    unfold riseF
    split
    · exact List.Perm.refl _
    · split
      · exact (riseF_perm n _ _ (by simp; omega)).trans (swapL_perm hi (by omega))
      · exact List.Perm.refl _
theorem leastF_lt {L : List Al} {i : Nat} (hi : i < L.length) : leastF L i < L.length := by
  unfold leastF; simp only; split <;> split <;> omega
theorem leastF_ge (L : List Al) (i : Nat) : i ≤ leastF L i := by
  unfold leastF; simp only; split <;> split <;> omega
theorem sinkF_perm : ∀ (n : Nat) (L : List Al) (i : Nat), i < L.length → (sinkF n L i).Perm L
  | 0, _, _, _ => List.Perm.refl _
  | n + 1, L, i, hi => by
    unfold sinkF
    split
    · exact List.Perm.refl _
    · exact (sinkF_perm n _ _ (by simpa using leastF_lt hi)).trans (swapL_perm hi (leastF_lt hi))
theorem rise_perm {L : List Al} {i : Nat} (hi : i < L.length) : (rise L i).Perm L := riseF_perm _ _ _ hi
theorem sink_perm {L : List Al} {i : Nat} (hi : i < L.length) : (sink L i).Perm L := sinkF_perm _ _ _ hi
theorem settle_perm {L : List Al} {i : Nat} (hi : i < L.length) : (settle L i).Perm L := (sink_perm (by rw [(rise_perm hi).length_eq]; exact hi)).trans (rise_perm hi)

/-- each is not ahead of the one above it -/
def IsHeap (L : List Al) : Prop := ∀ j, 0 < j → j < L.length → alLe (at' L ((j - 1) / 2)) (at' L j)
theorem IsHeap.root {L : List Al} (h : IsHeap L) : ∀ j, j < L.length → alLe (at' L 0) (at' L j) := by
  intro j
  induction j using Nat.strongRecOn with
  | ind j ih =>
    intro hj
    by_cases h0 : j = 0
    · subst h0; exact alLe_refl _
    · exact alLe_trans (ih _ (by omega) (by omega)) (h j (by omega) hj)
/-- a heap but for the place i and the one above it -/
def UpHeap (L : List Al) (i : Nat) : Prop := (∀ j, 0 < j → j < L.length → j ≠ i → alLe (at' L ((j - 1) / 2)) (at' L j)) ∧ (0 < i → ∀ j, 0 < j → j < L.length → (j - 1) / 2 = i → alLe (at' L ((i - 1) / 2)) (at' L j))
theorem riseF_heap : ∀ (n : Nat) (L : List Al) (i : Nat), i < n → i < L.length → UpHeap L i → IsHeap (riseF n L i)
  | 0, _, _, h, _, _ => by omega
  | n + 1, L, i, hn, hi, h => by
    unfold riseF
    by_cases h0 : i = 0
    · rw [if_pos h0]
      intro j hj hl
      exact h.1 j hj hl (by omega)
    · rw [if_neg h0]
      by_cases hlt : alLt (at' L i) (at' L ((i - 1) / 2)) = true
      · rw [if_pos hlt]
        have hu : (i - 1) / 2 < L.length := by omega
        refine riseF_heap n _ _ (by omega) (by simpa using hu) ⟨fun j hj hl hne => ?_, fun hu0 j hj hl hp => ?_⟩
        · rw [swapL_length] at hl
          rw [at'_swap hi hu, at'_swap hi hu]
          by_cases hji : j = i
          · subst hji
            rw [if_neg (by omega), if_pos rfl, if_pos rfl]
            exact alLe_of_lt hlt
          · rw [if_neg hji, if_neg hne]
            by_cases hpi : (j - 1) / 2 = i
            · rw [if_pos hpi]
              exact h.2 (by omega) j hj hl hpi
            · rw [if_neg hpi]
              by_cases hpu : (j - 1) / 2 = (i - 1) / 2
              · rw [if_pos hpu]
                have := h.1 j hj hl hji
                rw [hpu] at this
                exact alLe_trans (alLe_of_lt hlt) this
              · rw [if_neg hpu]
                exact h.1 j hj hl hji
        · rw [swapL_length] at hl
          rw [at'_swap hi hu, at'_swap hi hu, if_neg (by omega), if_neg (by omega)]
          have hup : alLe (at' L (((i - 1) / 2 - 1) / 2)) (at' L ((i - 1) / 2)) := h.1 _ hu0 hu (by omega)
          by_cases hji : j = i
          · rw [if_pos hji]; exact hup
          · rw [if_neg hji, if_neg (by omega)]
            have := h.1 j hj hl hji
            rw [hp] at this
            exact alLe_trans hup this
      · rw [if_neg hlt]
        intro j hj hl
        by_cases hji : j = i
        · subst hji
          simpa [alLe] using hlt
        · exact h.1 j hj hl hji
/-- what was put behind a heap rises to its place -/
theorem push_heap {L : List Al} (h : IsHeap L) (a : Al) : IsHeap (rise (L ++ [a]) L.length) := by
  have hat : ∀ j, j < L.length → at' (L ++ [a]) j = at' L j := fun j hj => by simp [at', List.getElem?_append, hj]
  refine riseF_heap _ _ _ (by omega) (by simp) ⟨fun j hj hl hne => ?_, fun _ j hj hl hp => ?_⟩
  · simp at hl
    rw [hat j (by omega), hat _ (by omega)]
    exact h j hj (by omega)
  · simp at hl; omega
theorem leastF_spec {L : List Al} {i : Nat} (hi : i < L.length) : (∀ j, (j = i ∨ ((j - 1) / 2 = i ∧ 0 < j)) → j < L.length → alLe (at' L (leastF L i)) (at' L j)) ∧ (leastF L i ≠ i → (leastF L i - 1) / 2 = i ∧ 0 < leastF L i ∧ alLt (at' L (leastF L i)) (at' L i) = true) := by
  have cases_j : ∀ j, ((j - 1) / 2 = i ∧ 0 < j) → j = 2 * i + 1 ∨ j = 2 * i + 2 := fun j h => by omega
  unfold leastF
  simp only
  by_cases h1 : 2 * i + 1 < L.length ∧ alLt (at' L (2 * i + 1)) (at' L i) = true
  · rw [if_pos h1]
    by_cases h2 : 2 * i + 2 < L.length ∧ alLt (at' L (2 * i + 2)) (at' L (2 * i + 1)) = true
    · rw [if_pos h2]
      refine ⟨fun j hj hl => ?_, fun _ => ⟨by omega, by omega, alLt_trans h2.2 h1.2⟩⟩
      rcases hj with rfl | hj
      · exact alLe_of_lt (alLt_trans h2.2 h1.2)
      · rcases cases_j j hj with rfl | rfl
        · exact alLe_of_lt h2.2
        · exact alLe_refl _
    · rw [if_neg h2]
      refine ⟨fun j hj hl => ?_, fun _ => ⟨by omega, by omega, h1.2⟩⟩
      rcases hj with rfl | hj
      · exact alLe_of_lt h1.2
      · rcases cases_j j hj with rfl | rfl
        · exact alLe_refl _
        · simpa [alLe, hl] using h2
  · rw [if_neg h1]
    by_cases h2 : 2 * i + 2 < L.length ∧ alLt (at' L (2 * i + 2)) (at' L i) = true
    · rw [if_pos h2]
      refine ⟨fun j hj hl => ?_, fun _ => ⟨by omega, by omega, h2.2⟩⟩
      rcases hj with rfl | hj
      · exact alLe_of_lt h2.2
      · rcases cases_j j hj with rfl | rfl
        · have h3 : alLe (at' L i) (at' L (2 * i + 1)) := by simpa [alLe, hl] using h1
          exact alLe_trans (alLe_of_lt h2.2) h3
        · exact alLe_refl _
    · rw [if_neg h2]
      refine ⟨fun j hj hl => ?_, fun h => absurd rfl h⟩
      rcases hj with rfl | hj
      · exact alLe_refl _
      · rcases cases_j j hj with rfl | rfl
        · simpa [alLe, hl] using h1
        · simpa [alLe, hl] using h2
/-- a heap but for what is right below the place i -/
def DownHeap (L : List Al) (i : Nat) : Prop := (∀ j, 0 < j → j < L.length → (j - 1) / 2 ≠ i → alLe (at' L ((j - 1) / 2)) (at' L j)) ∧ (0 < i → ∀ j, 0 < j → j < L.length → (j - 1) / 2 = i → alLe (at' L ((i - 1) / 2)) (at' L j))
theorem sinkF_heap : ∀ (n : Nat) (L : List Al) (i : Nat), L.length ≤ n + i → i < L.length → DownHeap L i → IsHeap (sinkF n L i)
  | 0, L, i, h1, h2, _ => by omega
  | n + 1, L, i, hn, hi, h => by
    obtain ⟨s1, s2⟩ := leastF_spec hi
    have s3 := leastF_lt hi
    unfold sinkF
    by_cases hk : leastF L i = i
    · rw [if_pos hk]
      rw [hk] at s1
      intro j hj hl
      by_cases hp : (j - 1) / 2 = i
      · rw [hp]; exact s1 j (.inr ⟨hp, hj⟩) hl
      · exact h.1 j hj hl hp
    · rw [if_neg hk]
      obtain ⟨hp, h0, hlt⟩ := s2 hk
      generalize leastF L i = k at *
      refine sinkF_heap n _ _ (by simp; omega) (by simpa using s3) ⟨fun j hj hl hne => ?_, fun _ j hj hl hpj => ?_⟩
      · rw [swapL_length] at hl
        rw [at'_swap hi s3, at'_swap hi s3]
        by_cases hji : j = i
        · subst hji
          rw [if_neg (by omega), if_neg (by omega), if_pos rfl]
          exact h.2 hj k h0 s3 hp
        · rw [if_neg hji]
          by_cases hjk : j = k
          · subst hjk
            rw [if_pos rfl, if_pos hp]
            exact alLe_of_lt hlt
          · rw [if_neg hjk]
            by_cases hpi : (j - 1) / 2 = i
            · rw [if_pos hpi]
              exact s1 j (.inr ⟨hpi, hj⟩) hl
            · rw [if_neg hpi, if_neg hne]
              exact h.1 j hj hl hpi
      · rw [swapL_length] at hl
        rw [at'_swap hi s3, at'_swap hi s3, hp, if_pos rfl, if_neg (by omega), if_neg (by omega)]
        have := h.1 j hj hl (by omega)
        rw [hpj] at this
        exact this
theorem heap_sink {L : List Al} {i : Nat} (hi : i < L.length) (h : IsHeap L) : sink L i = L := by
  unfold sink sinkF
  have hk : leastF L i = i := by
    obtain ⟨_, s2⟩ := leastF_spec hi
    refine Decidable.byContradiction fun hk => ?_
    obtain ⟨hp, h0, hlt⟩ := s2 hk
    have := h _ h0 (leastF_lt hi)
    rw [hp] at this
    unfold alLe at this
    rw [this] at hlt
    cases hlt
  rw [if_pos hk]
/-- a heap but for the place i -/
def ButHeap (L : List Al) (i : Nat) : Prop := (∀ j, 0 < j → j < L.length → j ≠ i → (j - 1) / 2 ≠ i → alLe (at' L ((j - 1) / 2)) (at' L j)) ∧ (0 < i → ∀ j, 0 < j → j < L.length → (j - 1) / 2 = i → alLe (at' L ((i - 1) / 2)) (at' L j))
theorem settle_heap {L : List Al} {i : Nat} (hi : i < L.length) (h : ButHeap L i) : IsHeap (settle L i) := by
  unfold settle
  by_cases hr : 0 < i ∧ alLt (at' L i) (at' L ((i - 1) / 2)) = true
  · have hh : IsHeap (rise L i) := by
      unfold rise riseF
      rw [if_neg (by omega), if_pos hr.2]
      have hu : (i - 1) / 2 < L.length := by omega
      refine riseF_heap i _ _ (by omega) (by simpa using hu) ⟨fun j hj hl hne => ?_, fun hu0 j hj hl hp => ?_⟩
      · rw [swapL_length] at hl
        rw [at'_swap hi hu, at'_swap hi hu]
        by_cases hji : j = i
        · subst hji
          rw [if_neg (by omega), if_pos rfl, if_pos rfl]
          exact alLe_of_lt hr.2
        · rw [if_neg hji, if_neg hne]
          by_cases hpi : (j - 1) / 2 = i
          · rw [if_pos hpi]
            exact h.2 (by omega) j hj hl hpi
          · rw [if_neg hpi]
            by_cases hpu : (j - 1) / 2 = (i - 1) / 2
            · rw [if_pos hpu]
              have := h.1 j hj hl hji hpi
              rw [hpu] at this
              exact alLe_trans (alLe_of_lt hr.2) this
            · rw [if_neg hpu]
              exact h.1 j hj hl hji hpi
      · rw [swapL_length] at hl
        rw [at'_swap hi hu, at'_swap hi hu, if_neg (by omega), if_neg (by omega)]
        have hup : alLe (at' L (((i - 1) / 2 - 1) / 2)) (at' L ((i - 1) / 2)) := h.1 _ hu0 hu (by omega) (by omega)
        by_cases hji : j = i
        · rw [if_pos hji]; exact hup
        · rw [if_neg hji, if_neg (by omega)]
          have := h.1 j hj hl hji (by omega)
          rw [hp] at this
          exact alLe_trans hup this
    rw [heap_sink (by rw [(rise_perm hi).length_eq]; exact hi) hh]
    exact hh
  · have hr' : rise L i = L := by
      unfold rise riseF
      by_cases h0 : i = 0
      · rw [if_pos h0]
      · rw [if_neg h0, if_neg (fun e => hr ⟨by omega, e⟩)]
    rw [hr']
    refine sinkF_heap _ _ _ (by omega) hi ⟨fun j hj hl hne => ?_, h.2⟩
    by_cases hji : j = i
    · subst hji
      have : ¬ alLt (at' L j) (at' L ((j - 1) / 2)) = true := fun e => hr ⟨hj, e⟩
      simpa [alLe] using this
    · exact h.1 j hj hl hji hne
/-- the place i is taken out -/
def takeOut (L : List Al) (i : Nat) : List Al :=
  let M := (swapL L i (L.length - 1)).take (L.length - 1)
  if i < L.length - 1 then settle M i else M
theorem takeOut_perm {L : List Al} {i : Nat} (hi : i < L.length) : (at' L i :: takeOut L i).Perm L := by
  have hl : L.length - 1 < L.length := by omega
  have h1 : swapL L i (L.length - 1) = (swapL L i (L.length - 1)).take (L.length - 1) ++ [at' L i] := by
    apply List.ext_getElem?
    intro j
    rw [List.getElem?_append]
    simp only [List.length_take, swapL_length, Nat.min_eq_left (Nat.sub_le _ _)]
    by_cases hj : j < L.length - 1
    · rw [if_pos hj, List.getElem?_take_of_lt hj]
    · rw [if_neg hj]
      by_cases hje : j = L.length - 1
      · subst hje
        have := at'_swap hi hl (L.length - 1)
        unfold at' at this
        rw [if_pos rfl] at this
        have hb : L.length - 1 < (swapL L i (L.length - 1)).length := by simpa using hl
        rw [List.getElem?_eq_getElem hb] at this ⊢
        simp only [Option.getD_some] at this
        rw [this]
        simp only [Nat.sub_self, List.getElem?_cons_zero]
        unfold at'
        split
        · rename_i e; rw [e]
        · rfl
      · rw [List.getElem?_eq_none (by simp; omega), List.getElem?_eq_none (by simp; omega)]
  have h2 : (at' L i :: (swapL L i (L.length - 1)).take (L.length - 1)).Perm L := by
    refine List.Perm.trans ?_ (swapL_perm hi hl)
    conv => rhs; rw [h1]
    exact (List.perm_append_singleton _ _).symm
  unfold takeOut
  simp only
  split
  · rename_i hlt
    exact ((settle_perm (by simp; omega)).cons _).trans h2
  · exact h2
theorem takeOut_heap {L : List Al} {i : Nat} (hi : i < L.length) (h : IsHeap L) : IsHeap (takeOut L i) := by
  have hl : L.length - 1 < L.length := by omega
  have hat : ∀ j, j < L.length - 1 → at' ((swapL L i (L.length - 1)).take (L.length - 1)) j = if j = i then at' L (L.length - 1) else at' L j := fun j hj => by
    have h1 : at' ((swapL L i (L.length - 1)).take (L.length - 1)) j = at' (swapL L i (L.length - 1)) j := by
      unfold at'; rw [List.getElem?_take_of_lt hj]
    rw [h1, at'_swap hi hl]
    by_cases hji : j = i
    · rw [if_pos hji, if_pos hji]
    · rw [if_neg hji, if_neg hji, if_neg (by omega)]
  have hlen : ((swapL L i (L.length - 1)).take (L.length - 1)).length = L.length - 1 := by simp
  unfold takeOut
  simp only
  split
  · rename_i hlt
    refine settle_heap (by omega) ⟨fun j hj hjl hne hpe => ?_, fun h0 j hj hjl hp => ?_⟩
    · rw [hlen] at hjl
      rw [hat j hjl, hat _ (by omega), if_neg hne, if_neg hpe]
      exact h j hj (by omega)
    · rw [hlen] at hjl
      rw [hat j hjl, hat _ (by omega), if_neg (by omega), if_neg (by omega)]
      have h1 := h j hj (by omega)
      rw [hp] at h1
      exact alLe_trans (h i h0 hi) h1
  · intro j hj hjl
    rw [hlen] at hjl
    rw [hat j hjl, hat _ (by omega), if_neg (by omega), if_neg (by omega)]
    exact h j hj (by omega)
end Go.Proofs.YtagpclgappcnbaaGreat.Al
namespace Go.Proofs.YtagpclgappcnbaaGreat.Al
open Go.RowKit

/-! ### alarms: two cells -/
@[go_sem ↓] theorem hide_load32 (a : Addr) : loadVar 114 a = loadAgg 114 a := rfl
@[go_sem ↓] theorem hide_store32 (a : Addr) (v : Value) : storeVar 114 a v = storeAgg 114 a v := rfl
@[go_sem] theorem run_load32 (b off : Nat) (W : World) : (loadAgg 114 ⟨b, off, none⟩).run Tryz.prog W = loadRes Tryz.prog 114 ⟨b, off, none⟩ W (subOf (obj W b) off 2) := run_loadAgg Tryz.isAgg114 Tryz.sizeOf114 b off W
@[go_sem] theorem run_store32 (b off : Nat) (cs : Array Value) (W : World) : (storeAgg 114 ⟨b, off, none⟩ (.agg cs)).run Tryz.prog W = storeRes Tryz.prog 114 ⟨b, off, none⟩ (.agg cs) W (putOf (obj W b) off 2 cs) := run_storeAgg Tryz.sizeOf114 b off cs W
@[reducible] def alL (a : Al) : List Value := [.int .i64 a.1, .int .i64 a.2]
@[reducible] def alV (a : Al) : Value := .agg #[.int .i64 a.1, .int .i64 a.2]
theorem alL_length (a : Al) : (alL a).length = 2 := rfl
theorem alL_one (a : Al) : allOne (alL a).toArray = true := rfl
theorem info32 : (Tryz.prog.info? 114).map (fun i => (i.zero, i.size, i.bytes)) = some (some (.agg #[.int .i64 0, .int .i64 0]), 2, 16) := by kernel_rfl

/-! ### rows: an element is read, and written -/
theorem row_sub {w : World} {base : Nat} {sv : Value} {L : List Al} (h : w.ownsRow base 114 2 sv L.length (L.flatMap alL)) : ∃ oa cap, sv = .slice oa L.length cap ∧ L.length ≤ cap ∧ cap ≤ maxLen ∧
    (0 < L.length → ∃ g cur, oa = some ⟨g, 0, none⟩ ∧ sv.ownBlock = some g ∧ base ≤ g ∧ obj w g = some (.cells cur 114 (0, 0)) ∧ cur.size = cap * 2 ∧ cur.toList.take (L.length * 2) = L.flatMap alL) := by
  rcases h.2 with ⟨rfl, h0⟩ | ⟨g, cap, cur, rfl, hb, hg, h1, h2, h3, h4⟩
  · exact ⟨none, 0, by rw [h0], by omega, Nat.zero_le _, fun h => by omega⟩
  · exact ⟨_, cap, rfl, h1, h2, fun _ => ⟨g, cur, rfl, rfl, hb, hg, h3, h4⟩⟩
theorem row_get {cur : Array Value} {L : List Al} {n : Nat} (h : cur.toList.take (L.length * 2) = L.flatMap alL) (hc : cur.size = n * 2) (hn : L.length ≤ n) {i : Nat} (hi : i < L.length) : subOf (some (.cells cur 114 (0, 0))) (i * 2) 2 = some #[.int .i64 L[i].1, .int .i64 L[i].2] := by
  rw [subOf_cells (by omega)]
  congr 1
  apply Array.ext'
  rw [subA, Array.toList_extract, List.extract_eq_take_drop]
  have := flatMap_sub alL_length L i hi
  rw [← h, List.drop_take, List.take_take, Nat.min_eq_left (by omega)] at this
  rw [Nat.add_sub_cancel_left, this]
theorem flatMap_set (L : List Al) (y : Al) : ∀ i, i < L.length → (L.set i y).flatMap alL = (L.flatMap alL).take (i * 2) ++ alL y ++ (L.flatMap alL).drop (i * 2 + 2) := by
  induction L with
  | nil => intro i hi; simp at hi
  | cons x L ih =>
    intro i hi
    cases i with
    | zero => simp [List.flatMap_cons]
    | succ i =>
      have := ih i (by simpa using hi)
      rw [List.set_cons_succ, List.flatMap_cons, this, List.flatMap_cons, show (i + 1) * 2 = i * 2 + 2 by omega]
      simp
theorem row_set {cur : Array Value} {L : List Al} {n : Nat} (h : cur.toList.take (L.length * 2) = L.flatMap alL) (hc : cur.size = n * 2) (hn : L.length ≤ n) {i : Nat} (hi : i < L.length) (y : Al) :
    (spliceA cur (i * 2) #[.int .i64 y.1, .int .i64 y.2]).size = n * 2 ∧ (spliceA cur (i * 2) #[.int .i64 y.1, .int .i64 y.2]).toList.take (L.length * 2) = (L.set i y).flatMap alL := by
  have hs : (spliceA cur (i * 2) #[.int .i64 y.1, .int .i64 y.2]).size = n * 2 := by rw [size_spliceA (by simp; omega), hc]
  refine ⟨hs, ?_⟩
  rw [flatMap_set L y i hi, ← h, List.take_take, Nat.min_eq_left (by omega), List.drop_take]
  unfold spliceA
  have hl : (cur.toList.take (i * 2)).length = i * 2 := by simp; omega
  simp only [List.append_assoc]
  rw [List.take_append, hl, List.take_of_length_le (by omega)]
  congr 1
  rw [List.take_append]
  simp only [List.length_cons, List.length_nil]
  rw [List.take_of_length_le (by simp; omega)]
  congr 2

/-! ### what lies behind a heap -/
def intV (n : Int) : Value := .int .i64 n
structure RawAt (w : World) (F : Nat → Prop) (hb m : Nat) (sv : Value) (L : List Al) (M : List (Int × Int)) : Prop where
  box : obj w hb = some (.cells #[sv, .map (some m), .bool true] 127 (0, 0))
  row : w.ownsRow 0 114 2 sv L.length (L.flatMap alL)
  map : MapI w m intV M
  fb : F hb
  fm : F m
  fr : ∀ g, sv.ownBlock = some g → F g
  old : ∀ n, F n → n < w.heap.size
theorem RawAt.lt {w : World} {F : Nat → Prop} {hb m : Nat} {sv : Value} {L : List Al} {M : List (Int × Int)} (h : RawAt w F hb m sv L M) : hb < w.heap.size ∧ m < w.heap.size := by
  obtain ⟨es, clk, h1, _⟩ := h.map
  exact ⟨lt_of_obj h.box, lt_of_obj h1⟩
/-- wherever these blocks lie as they lay -/
theorem RawAt.of_obj {w W : World} {F : Nat → Prop} {hb m : Nat} {sv : Value} {L : List Al} {M : List (Int × Int)} (h : RawAt w F hb m sv L M) (hz : w.heap.size ≤ W.heap.size) (hk : ∀ n, n < w.heap.size → F n → obj W n = obj w n) : RawAt W F hb m sv L M := by
  refine ⟨(hk _ h.lt.1 h.fb).trans h.box, ⟨h.row.1, ?_⟩, ?_, h.fb, h.fm, h.fr, fun n hn => Nat.lt_of_lt_of_le (h.old n hn) hz⟩
  · rcases h.row.2 with h1 | ⟨g, cap, cur, e, h2, h3, h4⟩
    · exact .inl h1
    · have e3 : obj w g = some (.cells cur 114 (0, 0)) := h3
      refine .inr ⟨g, cap, cur, e, h2, ?_, h4⟩
      exact (hk g (lt_of_obj e3) (h.fr g (by rw [e]; rfl))).trans e3
  · obtain ⟨es, clk, h1, h2⟩ := h.map
    exact ⟨es, clk, (hk _ h.lt.2 h.fm).trans h1, h2⟩
theorem RawAt.below {w W : World} {F : Nat → Prop} {hb m : Nat} {sv : Value} {L : List Al} {M : List (Int × Int)} (h : RawAt w F hb m sv L M) (hk : Below w.heap.size w W) : RawAt W F hb m sv L M :=
  h.of_obj hk.size fun _ hn _ => obj_below hk hn
/-- what another heap's call leaves -/
theorem RawAt.other {w W : World} {F G : Nat → Prop} {hb m : Nat} {sv : Value} {L : List Al} {M : List (Int × Int)} (h : RawAt w F hb m sv L M) (hk : Keeps G w W) (hd : ∀ n, n < w.heap.size → F n → ¬ G n) : RawAt W F hb m sv L M :=
  h.of_obj hk.size fun n hn hf => hk.block n hn (hd n hn hf)

/-! ### less -/
set_option maxRecDepth 100000 in
theorem less_any (w : World) (a b : Al) : Calls Tryz.prog 126 #[alV a, alV b] w fun e w' => e = .returned (.bool (alLt a b)) ∧ Below w.heap.size w w' := by
  have HB : Hid (alLt a b = (decide (a.1 < b.1) || ((a.1 == b.1) && decide (a.2 < b.2)))) := Lib.hid (by unfold alLt; congr 2)
  have hb : Below w.heap.size w ((w.alloc (.cells #[.int .i64 a.1, .int .i64 a.2] 114)).alloc (.cells #[.int .i64 b.1, .int .i64 b.2] 114)) := ((Below.refl _ w).alloc (Nat.le_refl _) _).alloc (by simp) _
  obtain ⟨a1, a2⟩ := a
  obtain ⟨b1, b2⟩ := b
  simp only at HB hb
  cases h1 : decide (a1 < b1)
  · cases h2 : a1 == b1
    · go_enter Tryz.func126, Tryz.ntmps126
      go_wp2
      go_ret
      exact ⟨ret_bool (by rw [HB.out, h1, h2]; rfl), hb⟩
    · go_enter Tryz.func126, Tryz.ntmps126
      go_wp2
      go_ret
      exact ⟨ret_bool (by rw [HB.out, h1, h2]; rfl), hb⟩
  · go_enter Tryz.func126, Tryz.ntmps126
    go_wp2
    go_ret
    exact ⟨ret_bool (by rw [HB.out, h1]; rfl), hb⟩
end Go.Proofs.YtagpclgappcnbaaGreat.Al
namespace Go.Proofs.YtagpclgappcnbaaGreat.Al
open Go.RowKit

set_option maxRecDepth 100000 in
theorem lay_any (w : World) (F : Nat → Prop) (hb m : Nat) (sv : Value) (L : List Al) (M : List (Int × Int)) (i : Nat) (a : Al) (h : RawAt w F hb m sv L M) (hi : i < L.length) :
    Calls Tryz.prog 99 #[.pointer (some ⟨hb, 0, none⟩), .int .i64 i, alV a] w fun e w' => (∃ v, e = .returned v) ∧ RawAt w' F hb m sv (L.set i a) (aPut a.2 i M) ∧ Keeps F w w' := by
  obtain ⟨oa, cap, rfl, q1, q2, q3⟩ := row_sub h.row
  obtain ⟨g, cur, rfl, hgo, _, hg, hcs, htk⟩ := q3 (by omega)
  unfold maxLen at q2
  obtain ⟨es, clk, hm, hr⟩ := h.map
  obtain ⟨es', clk', hu, hr'⟩ := run_mapUpdate_int (enc := intV) (clk := clk) Tryz.underlying125 Tryz.underlying2 hr m a.2 i
  simp only [intV] at hu
  have hs0 := row_set htk hcs q1 hi a
  have hgz := lt_of_obj hg
  have hmz := lt_of_obj hm
  have hbox := h.box
  have hbz := lt_of_obj hbox
  have n1 : hb ≠ g := fun e => by subst e; rw [hbox] at hg; cases hg
  have n2 : hb ≠ m := fun e => by subst e; rw [hbox] at hm; cases hm
  have n3 : g ≠ m := fun e => by subst e; rw [hg] at hm; cases hm
  have hpo : putOf (some (.cells cur 114 (0, 0))) (i * 2) 2 #[.int .i64 a.1, .int .i64 a.2] = some (.cells (spliceA cur (i * 2) #[.int .i64 a.1, .int .i64 a.2]) 114 (0, 0)) := putOf_cells (by omega) rfl rfl
  generalize spliceA cur (i * 2) #[.int .i64 a.1, .int .i64 a.2] = cur' at *
  have c0 : w.cell? ⟨hb, 0, none⟩ = some (.slice (some ⟨g, 0, none⟩) L.length cap) := cell_at hbox 0
  have c1 : w.cell? ⟨hb, 1, none⟩ = some (.map (some m)) := cell_at hbox 1
  obtain ⟨a1, a2⟩ := a
  go_enter Tryz.func99, Tryz.ntmps99
  go_wp2
  refine wp_region_quiet_tail 7 (by kernel_rfl) (by kernel_rfl) ?_
  simp only [List.take_succ_cons, List.take_zero, List.drop_succ_cons, List.drop_zero]
  repeat (go_big_quiet_step (fail))
  refine wpQuiet_nil ?_
  go_wp2
  refine wp_region_quiet_tail 7 (by kernel_rfl) (by kernel_rfl) ?_
  simp only [List.take_succ_cons, List.take_zero, List.drop_succ_cons, List.drop_zero]
  repeat (go_big_quiet_step (fail))
  refine wpQuiet_nil ?_
  have hm5 : obj ((putObj w g (.cells cur' 114)).alloc (.cells #[.int .i64 a1, .int .i64 a2] 114)).drew.drew m = some (.map es clk) := (obj_alloc_past _ _ _ (by rw [size_putObj]; exact hmz)).trans ((obj_putObj_ne _ _ _ _ n3.symm).trans hm)
  have hu5 := hu _ hm5
  go_wp2
  go_end0
  have fg := h.fr g hgo
  have hlen : (L.set i (a1, a2)).length = L.length := List.length_set
  refine ⟨⟨_, rfl⟩, ⟨?_, ⟨?_, .inr ⟨g, cap, cur', by rw [hlen], Nat.zero_le _, ?_, by rw [hlen]; exact q1, by unfold maxLen; exact q2, hs0.1, by rw [hlen]; exact hs0.2⟩⟩, ⟨es', clk', ?_, hr'⟩, h.fb, h.fm, h.fr, fun n hn => by have := h.old n hn; simp; omega⟩, ?_⟩
  · exact (obj_alloc_past _ _ _ (by simpa using hbz)).trans ((obj_putObj_ne _ _ _ _ n2).trans ((obj_putObj_ne _ _ _ _ n1).trans hbox))
  · rw [flatMap_len alL_length]
  · exact (obj_alloc_past _ _ _ (by simpa using hgz)).trans ((obj_putObj_ne _ _ _ _ n3).trans (obj_putObj_eq _ _ _ hgz))
  · exact (obj_alloc_past _ _ _ (by simpa using hmz)).trans (obj_putObj_eq _ _ _ (by simpa using hmz))
  · exact ((((Keeps.refl F w).putObj fg _).putObj h.fm _).alloc _).drew.drew
end Go.Proofs.YtagpclgappcnbaaGreat.Al
namespace Go.Proofs.YtagpclgappcnbaaGreat.Al
open Go.RowKit

set_option maxRecDepth 100000 in
set_option maxHeartbeats 1000000 in
theorem swap_any (w : World) (F : Nat → Prop) (hb m : Nat) (sv : Value) (L : List Al) (M : List (Int × Int)) (i k : Nat) (h : RawAt w F hb m sv L M) (hi : i < L.length) (hk : k < L.length) :
    Calls Tryz.prog 127 #[.pointer (some ⟨hb, 0, none⟩), .int .i64 i, .int .i64 k] w fun e w' => (∃ v, e = .returned v) ∧
      RawAt w' F hb m sv (swapL L i k) (aPut L[i].2 k (aPut L[k].2 i M)) ∧ Keeps F w w' := by
  obtain ⟨oa, cap, rfl, q1, q2, q3⟩ := row_sub h.row
  obtain ⟨g, cur, rfl, hgo, _, hg, hcs, htk⟩ := q3 (by omega)
  unfold maxLen at q2
  have s1 := row_get htk hcs q1 hi
  have s2 := row_get htk hcs q1 hk
  rw [← hg] at s1 s2
  have hgz := lt_of_obj hg
  have hbox := h.box
  have hbz := lt_of_obj hbox
  have c0 : w.cell? ⟨hb, 0, none⟩ = some (.slice (some ⟨g, 0, none⟩) L.length cap) := cell_at hbox 0
  have HSW : Hid (swapL L i k = (L.set i L[k]).set k L[i]) := Lib.hid (by simp [swapL, hi, hk])
  generalize L[i] = x at *
  generalize L[k] = y at *
  obtain ⟨x1, x2⟩ := x
  obtain ⟨y1, y2⟩ := y
  have HH := Lib.hid h
  clear hg htk h q3 hbox
  go_enter Tryz.func127, Tryz.ntmps127
  go_wp2
  go_region
  · have o6 : obj ((w.alloc (.cells #[.int .i64 x1, .int .i64 x2] 114)).alloc (.cells #[.int .i64 y1, .int .i64 y2] 114)).drew w.heap.size = some (.cells #[.int .i64 x1, .int .i64 x2] 114 (0, 0)) := (obj_alloc_past _ _ _ (by simp)).trans (obj_alloc_at _ _ _ rfl)
    have o7 : obj ((w.alloc (.cells #[.int .i64 x1, .int .i64 x2] 114)).alloc (.cells #[.int .i64 y1, .int .i64 y2] 114)).drew (w.heap.size + 1) = some (.cells #[.int .i64 y1, .int .i64 y2] 114 (0, 0)) := obj_alloc_at _ _ _ (by simp)
    have bw : Below w.heap.size w ((w.alloc (.cells #[.int .i64 x1, .int .i64 x2] 114)).alloc (.cells #[.int .i64 y1, .int .i64 y2] 114)).drew := (((Below.refl _ w).alloc (Nat.le_refl _) _).alloc (by simp) _).drew
    generalize ((w.alloc (.cells #[.int .i64 x1, .int .i64 x2] 114)).alloc (.cells #[.int .i64 y1, .int .i64 y2] 114)).drew = w1 at *
    have f6 : ¬ F w.heap.size := fun hf => absurd (HH.out.old _ hf) (by omega)
    generalize hb7 : w.heap.size + 1 = b7 at o7 ⊢
    generalize hb6 : w.heap.size = b6 at o6 f6 ⊢
    have z6 := lt_of_obj o6
    have z7 := lt_of_obj o7
    have R1 := Lib.hid (HH.out.below bw)
    go_wp2_with fail
    refine (lay_any w1 F hb m _ L M i (y1, y2) R1.out hi).mono ?_
    rintro e w2 ⟨⟨v2, rfl⟩, r2, k2⟩
    have p6 := (k2.block b6 z6 f6).trans o6
    have y6 := lt_of_obj p6
    have R2 := Lib.hid r2
    have K2 := Lib.hid ((Keeps.of_below bw).trans k2)
    clear r2 k2 o6 o7 z6 z7 c0
    go_wp2_with fail
    refine (lay_any w2 F hb m _ _ _ k (x1, x2) R2.out (by rw [List.length_set]; exact hk)).mono ?_
    rintro e w3 ⟨⟨v3, rfl⟩, r3, k3⟩
    have R3 := Lib.hid r3
    have K3 := Lib.hid (K2.out.trans k3)
    clear r3 k3
    go_wp2
    go_end0
    exact ⟨⟨_, rfl⟩, by rw [HSW.out]; exact R3.out, K3.out⟩
  · have o6 : obj ((w.alloc (.cells #[.int .i64 y1, .int .i64 y2] 114)).alloc (.cells #[.int .i64 x1, .int .i64 x2] 114)).drew (w.heap.size + 1) = some (.cells #[.int .i64 x1, .int .i64 x2] 114 (0, 0)) := obj_alloc_at _ _ _ (by simp)
    have o7 : obj ((w.alloc (.cells #[.int .i64 y1, .int .i64 y2] 114)).alloc (.cells #[.int .i64 x1, .int .i64 x2] 114)).drew w.heap.size = some (.cells #[.int .i64 y1, .int .i64 y2] 114 (0, 0)) := (obj_alloc_past _ _ _ (by simp)).trans (obj_alloc_at _ _ _ rfl)
    have bw : Below w.heap.size w ((w.alloc (.cells #[.int .i64 y1, .int .i64 y2] 114)).alloc (.cells #[.int .i64 x1, .int .i64 x2] 114)).drew := (((Below.refl _ w).alloc (Nat.le_refl _) _).alloc (by simp) _).drew
    generalize ((w.alloc (.cells #[.int .i64 y1, .int .i64 y2] 114)).alloc (.cells #[.int .i64 x1, .int .i64 x2] 114)).drew = w1 at *
    have f6 : ¬ F (w.heap.size + 1) := fun hf => absurd (HH.out.old _ hf) (by omega)
    generalize hb6 : w.heap.size + 1 = b6 at o6 f6 ⊢
    generalize hb7 : w.heap.size = b7 at o7 ⊢
    have z6 := lt_of_obj o6
    have z7 := lt_of_obj o7
    have R1 := Lib.hid (HH.out.below bw)
    go_wp2_with fail
    refine (lay_any w1 F hb m _ L M i (y1, y2) R1.out hi).mono ?_
    rintro e w2 ⟨⟨v2, rfl⟩, r2, k2⟩
    have p6 := (k2.block b6 z6 f6).trans o6
    have y6 := lt_of_obj p6
    have R2 := Lib.hid r2
    have K2 := Lib.hid ((Keeps.of_below bw).trans k2)
    clear r2 k2 o6 o7 z6 z7 c0
    go_wp2_with fail
    refine (lay_any w2 F hb m _ _ _ k (x1, x2) R2.out (by rw [List.length_set]; exact hk)).mono ?_
    rintro e w3 ⟨⟨v3, rfl⟩, r3, k3⟩
    have R3 := Lib.hid r3
    have K3 := Lib.hid (K2.out.trans k3)
    clear r3 k3
    go_wp2
    go_end0
    exact ⟨⟨_, rfl⟩, by rw [HSW.out]; exact R3.out, K3.out⟩
end Go.Proofs.YtagpclgappcnbaaGreat.Al
namespace Go.Proofs.YtagpclgappcnbaaGreat.Al
open Go.RowKit

/-! ### keys of a map, each once -/
def KeysOnce (M : List (Int × Int)) : Prop := (M.map (·.1)).Nodup
theorem keys_aPut (k v : Int) : ∀ M : List (Int × Int), (aPut k v M).map (·.1) = if k ∈ M.map (·.1) then M.map (·.1) else M.map (·.1) ++ [k]
  | [] => by simp [aPut]
  | (j, u) :: r => by
    unfold aPut
    by_cases h : k = j
    · subst h; simp
    · rw [if_neg h, List.map_cons, keys_aPut k v r]
      by_cases h2 : k ∈ r.map (·.1)
      · rw [if_pos h2, if_pos (by simp only [List.map_cons, List.mem_cons]; exact .inr h2)]; rfl
      · rw [if_neg h2, if_neg (by simp only [List.map_cons, List.mem_cons]; exact fun e => e.elim h h2)]; rfl
theorem KeysOnce.put {M : List (Int × Int)} (h : KeysOnce M) (k v : Int) : KeysOnce (aPut k v M) := by
  unfold KeysOnce at *
  rw [keys_aPut]
  split
  · exact h
  · rename_i hn
    rw [List.nodup_append]
    exact ⟨h, by simp, fun a ha b hb e => by simp at hb; subst hb; subst e; exact hn ha⟩
theorem aGet_none {k : Int} : ∀ {M : List (Int × Int)}, k ∉ M.map (·.1) → aGet k M = none
  | [], _ => rfl
  | (j, u) :: r, h => by
    simp only [List.map_cons, List.mem_cons, not_or] at h
    unfold aGet
    rw [if_neg h.1]
    exact aGet_none h.2
theorem aGet_aDel (k j : Int) : ∀ {M : List (Int × Int)}, KeysOnce M → aGet k (aDel j M) = if k = j then none else aGet k M
  | [], _ => by simp [aDel, aGet]
  | (i, u) :: r, h => by
    have h' : (i ∉ r.map (·.1)) ∧ KeysOnce r := by
      unfold KeysOnce at *
      rw [List.map_cons, List.nodup_cons] at h
      exact h
    unfold aDel
    by_cases hj : j = i
    · subst hj
      rw [if_pos rfl]
      by_cases hk : k = j
      · subst hk; rw [if_pos rfl]; exact aGet_none h'.1
      · rw [if_neg hk]
        conv => rhs; unfold aGet
        rw [if_neg hk]
    · rw [if_neg hj]
      unfold aGet
      rw [aGet_aDel k j h'.2]
      by_cases hki : k = i
      · rw [if_pos hki, if_pos hki, if_neg (fun e => hj (by rw [← e, hki]))]
      · rw [if_neg hki, if_neg hki]
theorem KeysOnce.del {M : List (Int × Int)} (h : KeysOnce M) (j : Int) : KeysOnce (aDel j M) := by
  have sub : ∀ M : List (Int × Int), ((aDel j M).map (·.1)).Sublist (M.map (·.1)) := by
    intro M
    induction M with
    | nil => exact List.Sublist.refl _
    | cons x r ih =>
      obtain ⟨i, u⟩ := x
      unfold aDel
      split
      · exact List.sublist_cons_self _ _
      · exact ih.cons_cons _
  exact List.Nodup.sublist (sub M) h
end Go.Proofs.YtagpclgappcnbaaGreat.Al
namespace Go.Proofs.YtagpclgappcnbaaGreat.Al
open Go.RowKit

theorem aGet_aPut' {ν : Type} (k j : Int) (v : ν) : ∀ M : List (Int × ν), aGet k (aPut j v M) = if k = j then some v else aGet k M
  | [] => by simp [aPut, aGet]
  | (i, u) :: r => by
    unfold aPut
    by_cases h : j = i
    · subst h
      rw [if_pos rfl]
      unfold aGet
      split <;> rfl
    · rw [if_neg h]
      unfold aGet
      rw [aGet_aPut' k j v r]
      by_cases h2 : k = i
      · subst h2
        rw [if_pos rfl, if_pos rfl, if_neg (fun e => h e.symm)]
      · rw [if_neg h2, if_neg h2]
/-- the map tells where each key's alarm stands, and of no other key -/
structure Spec (L : List Al) (M : List (Int × Int)) : Prop where
  at_ : ∀ j, j < L.length → aGet (at' L j).2 M = some (j : Int)
  no : ∀ k, (∀ j, j < L.length → (at' L j).2 ≠ k) → aGet k M = none
  once : KeysOnce M
theorem Spec.inj {L : List Al} {M : List (Int × Int)} (h : Spec L M) {i j : Nat} (hi : i < L.length) (hj : j < L.length) (e : (at' L i).2 = (at' L j).2) : i = j := by
  have h1 := h.at_ i hi
  rw [e, h.at_ j hj] at h1
  have := Option.some.inj h1
  omega
theorem Spec.swap {L : List Al} {M : List (Int × Int)} (h : Spec L M) {i k : Nat} (hi : i < L.length) (hk : k < L.length) : Spec (swapL L i k) (aPut L[i].2 k (aPut L[k].2 i M)) := by
  rw [← at'_eq hi, ← at'_eq hk]
  refine ⟨fun j hj => ?_, fun q hq => ?_, (h.once.put _ _).put _ _⟩
  · rw [swapL_length] at hj
    rw [at'_swap hi hk, aGet_aPut', aGet_aPut']
    by_cases hji : j = i
    · subst hji
      rw [if_pos rfl]
      by_cases e : (at' L k).2 = (at' L j).2
      · rw [if_pos e, h.inj hk hj e]
      · rw [if_neg e, if_pos rfl]
    · rw [if_neg hji]
      by_cases hjk : j = k
      · subst hjk
        rw [if_pos rfl, if_pos rfl]
      · rw [if_neg hjk, if_neg (fun e => hji (h.inj hj hi e)), if_neg (fun e => hjk (h.inj hj hk e))]
        exact h.at_ j hj
  · have h1 : ∀ j, j < L.length → (at' L j).2 ≠ q := fun j hj e => by
      by_cases hji : j = i
      · refine hq k (by simpa using hk) ?_
        rw [at'_swap hi hk]
        by_cases hki : k = i
        · rw [if_pos hki, ← e, hji, hki]
        · rw [if_neg hki, if_pos rfl, ← e, hji]
      · by_cases hjk : j = k
        · refine hq i (by simpa using hi) ?_
          rw [at'_swap hi hk, if_pos rfl, ← e, hjk]
        · refine hq j (by simpa using hj) ?_
          rw [at'_swap hi hk, if_neg hji, if_neg hjk, e]
    rw [aGet_aPut', aGet_aPut', if_neg (fun e => h1 i hi e.symm), if_neg (fun e => h1 k hk e.symm)]
    exact h.no q h1
end Go.Proofs.YtagpclgappcnbaaGreat.Al
namespace Go.Proofs.YtagpclgappcnbaaGreat.Al
open Go.RowKit

theorem pred_wrap {j : Nat} (h : 0 < j) (h2 : j ≤ 1000000) : IntKind.i64.wrap ((j : Int) - 1) = (j : Int) - 1 := by
  simp [IntKind.wrap, IntKind.signed, IntKind.bits]; omega
theorem half_pred {j : Nat} (h : 0 < j) : ((j : Int) - 1).tdiv 2 = (((j - 1) / 2 : Nat) : Int) := by
  rw [Int.tdiv_eq_ediv_of_nonneg (by omega)]; omega
set_option maxRecDepth 100000 in
set_option maxHeartbeats 1000000 in
theorem rise_any (w : World) (F : Nat → Prop) (hb m : Nat) (sv : Value) (L : List Al) (M : List (Int × Int)) (i : Nat) (h : RawAt w F hb m sv L M) (hs : Spec L M) (hi : i < L.length) (hlen : L.length ≤ 100000) :
    Calls Tryz.prog 100 #[.pointer (some ⟨hb, 0, none⟩), .int .i64 i] w fun e w' => (∃ v, e = .returned v) ∧
      (∃ M', RawAt w' F hb m sv (rise L i) M' ∧ Spec (rise L i) M') ∧ Keeps F w w' := by
  have HR := Lib.hid h
  have HS := Lib.hid hs
  obtain ⟨oa, cap, rfl, q1, q2, q3⟩ := row_sub h.row
  obtain ⟨g, cur, rfl, _⟩ := q3 (by omega)
  unfold maxLen at q2
  clear h hs q3
  go_enter Tryz.func100, Tryz.ntmps100
  go_wp2
  go_loopw [1] (fun v1 wr => ∃ (j n : Nat) (L' : List Al) (M' : List (Int × Int)), j < n ∧ j < L'.length ∧ L'.length = L.length ∧ v1 = .int .i64 j ∧ Hid (riseF n L' j = rise L i) ∧ Hid (RawAt wr F hb m (.slice (some ⟨g, 0, none⟩) L.length cap) L' M') ∧ Hid (Spec L' M') ∧ Keeps F w wr) (fun v _ => (intOf v).toNat)
  case atStart => exact ⟨i, i + 1, L, M, by omega, hi, rfl, rfl, Lib.hid rfl, HR, HS, Keeps.refl _ _⟩
  case round =>
    obtain ⟨j, n, L', M', hn, hj, hll, rfl, HE, HR', HS', hk⟩ := hrel
    obtain ⟨n, rfl⟩ : ∃ n', n = n' + 1 := ⟨n - 1, by omega⟩
    by_cases h0 : j = 0
    · subst h0
      have he := HE.out
      unfold riseF at he
      rw [if_pos rfl] at he
      have HE' := Lib.hid he
      clear he
      go_wp2
      go_end0
      exact ⟨⟨_, rfl⟩, ⟨M', by rw [← HE'.out]; exact HR'.out, by rw [← HE'.out]; exact HS'.out⟩, hk⟩
    · have hu : (j - 1) / 2 < L'.length := by omega
      obtain ⟨_, _, e', p1, p2, p3⟩ := row_sub HR'.out.row
      simp only [Value.slice.injEq] at e'
      obtain ⟨rfl, _, rfl⟩ := e'
      obtain ⟨_, cur', e2, _, _, hg, hcs, htk⟩ := p3 (by omega)
      simp only [Option.some.injEq, Addr.mk.injEq, and_true] at e2
      subst e2
      have s1 := row_get htk hcs p1 hj
      have s2 := row_get htk hcs p1 hu
      rw [← hg] at s1 s2
      have hgz := lt_of_obj hg
      have hbz := lt_of_obj HR'.out.box
      have c0 : wr.cell? ⟨hb, 0, none⟩ = some (.slice (some ⟨g, 0, none⟩) L.length cap) := cell_at HR'.out.box 0
      have hjp : (0 : Int) < j := by omega
      have hw1 := pred_wrap (j := j) (by omega) (by omega)
      have hq := half_pred (j := j) (by omega)
      have he := HE.out
      unfold riseF at he
      rw [if_neg h0] at he
      have HSW := Lib.hid (fun W (hr : RawAt W F hb m (.slice (some ⟨g, 0, none⟩) L.length cap) L' M') => swap_any W F hb m _ L' M' j ((j - 1) / 2) hr hj hu)
      have HSP := Lib.hid (HS'.out.swap hj hu)
      rw [at'_eq hj, at'_eq hu] at he
      have huj : (j - 1) / 2 < j := by omega
      generalize (j - 1) / 2 = u at *
      generalize L'[j] = x at *
      generalize L'[u] = y at *
      have HL := Lib.hid fun v : Later wr => Calls.later (x := v) (less_any v.w x y)
      have HE' := Lib.hid he
      generalize alLt x y = c at *
      obtain ⟨x1, x2⟩ := x
      obtain ⟨y1, y2⟩ := y
      clear p3 htk hcs he HE hg
      have hjL : j < L.length := by omega
      have huL : u < L.length := by omega
      have HN := Lib.hid hn
      have HU := Lib.hid (And.intro huj (And.intro hll hu))
      clear hj hu p1 q1 hi
      go_wp2
      clear hw1 hq hjp huj hll hn h0
      refine wp_region_later wr (Below.refl _ _) (by kernel_rfl) (by kernel_rfl) ?_
      repeat (go_big_quiet_step ((go_at_call 126; with_reducible exact HL.out _)))
      refine wpQuiet_nil ?_
      rintro w2 ⟨v, rfl⟩
      have b2 := v.h
      have hk2 := hk.trans (Keeps.of_below b2)
      have R2 := Lib.hid (HR'.out.below b2)
      generalize v.w = w2 at *
      cases c
      · have hee := Lib.hid (show L' = rise L i from HE'.out)
        go_wp2
        refine bodyPost_ret (results_none rfl _ _ _) rfl ?_
        exact ⟨⟨_, rfl⟩, ⟨M', by rw [← hee.out]; exact R2.out, by rw [← hee.out]; exact HS'.out⟩, hk2⟩
      · have hee := Lib.hid (show riseF n (swapL L' j u) u = rise L i from HE'.out)
        go_wp2_with fail
        refine (HSW.out w2 R2.out).mono ?_
        rintro e w3 ⟨⟨v3, rfl⟩, r3, k3⟩
        have R3 := Lib.hid r3
        have K3 := hk2.trans k3
        clear r3 k3
        go_wp2
        go_roundw
        case rel => exact ⟨u, n, swapL L' j u, _, by have := HU.out; have := HN.out; omega, by simpa using HU.out.2.2, by simpa using HU.out.2.1, rfl, hee, R3, HSP, K3⟩
        case measure => have := HU.out; simp [intOf]; omega
end Go.Proofs.YtagpclgappcnbaaGreat.Al
namespace Go.Proofs.YtagpclgappcnbaaGreat.Al
open Go.RowKit

/-- the least of the first so many of a place and both below it -/
def lstF (L : List Al) (i : Nat) : Nat → Nat
  | 0 => i
  | n + 1 => if 2 * i + 1 + n < L.length ∧ alLt (at' L (2 * i + 1 + n)) (at' L (lstF L i n)) = true then 2 * i + 1 + n else lstF L i n
theorem lstF_two (L : List Al) (i : Nat) : lstF L i 2 = leastF L i := rfl
theorem lstF_lt {L : List Al} {i : Nat} (hi : i < L.length) : ∀ n, lstF L i n < L.length
  | 0 => hi
  | n + 1 => by
    unfold lstF
    split
    · rename_i h; exact h.1
    · exact lstF_lt hi n
set_option maxRecDepth 100000 in
set_option maxHeartbeats 1000000 in
theorem least_any (w : World) (sv : Value) (L : List Al) (pb i : Nat) (h : w.ownsRow 0 114 2 sv L.length (L.flatMap alL)) (hi : i < L.length) (hlen : L.length ≤ 100000)
    (hp : obj w pb = some (.cells #[.int .i64 i, .int .i64 (2 * i + 1 : Nat), .int .i64 (2 * i + 2 : Nat)] 3 (0, 0))) :
    Calls Tryz.prog 138 #[sv, .func (.func 126) #[] #[], .slice (some ⟨pb, 0, none⟩) 3 3] w fun e w' => e = .returned (.int .i64 (leastF L i)) ∧ Below w.heap.size w w' := by
  obtain ⟨oa, cap, rfl, q1, q2, q3⟩ := row_sub h
  obtain ⟨g, cur, rfl, _, _, hg, hcs, htk⟩ := q3 (by omega)
  unfold maxLen at q2
  have hgz := lt_of_obj hg
  have hpz := lt_of_obj hp
  have p0 : w.cell? ⟨pb, 0, none⟩ = some (.int .i64 i) := cell_at hp 0
  have HP1 := Lib.hid (show ∀ k, k < 2 → w.cell? ⟨pb, 1 + k, none⟩ = some (.int .i64 ((2 * i + 1 + k : Nat) : Int)) from fun k hk => by
    have : k = 0 ∨ k = 1 := by omega
    rcases this with rfl | rfl
    · exact cell_at hp 1
    · exact cell_at hp 2)
  have HT := Lib.hid (And.intro htk (And.intro hcs q1))
  have HG := Lib.hid hg
  have HPO := Lib.hid hp
  clear h q3 htk hcs hg hp
  go_enter Tryz.func138, Tryz.ntmps138
  go_wp2
  go_loopw [7, 16] (fun v7 v16 wr => ∃ k : Nat, k ≤ 2 ∧ v16 = .int .i64 k ∧ v7 = .int .i64 (lstF L i k) ∧ Below w.heap.size w wr) (fun _ v _ => 2 - (intOf v).toNat)
  case atStart => exact ⟨0, by omega, rfl, rfl, Below.refl _ _⟩
  case round =>
    obtain ⟨k, hk, rfl, rfl, hb⟩ := hrel
    have hz := hb.size
    by_cases hlt : k < 2
    · have HL1 := Lib.hid (lstF_lt (L := L) hi k)
      have HST : Hid (lstF L i (k + 1) = if 2 * i + 1 + k < L.length ∧ alLt (at' L (2 * i + 1 + k)) (at' L (lstF L i k)) = true then 2 * i + 1 + k else lstF L i k) := Lib.hid rfl
      have cp : wr.cell? ⟨pb, 1 + k, none⟩ = some (.int .i64 ((2 * i + 1 + k : Nat) : Int)) := (hb.cell (p := ⟨pb, 1 + k, none⟩) hpz).trans (HP1.out k hlt)
      have hpr : pb < wr.heap.size := by omega
      have hgr : g < wr.heap.size := by omega
      generalize hpq : 2 * i + 1 + k = p at *
      have hbest := HL1.out
      generalize lstF L i k = q at *
      have s2 := row_get HT.out.1 HT.out.2.1 HT.out.2.2 hbest
      rw [← HG.out, ← obj_below hb hgz] at s2
      by_cases hpl : p < L.length
      · have d1 : decide ((p : Int) < (L.length : Int)) = true := by simpa using hpl
        have s1 := row_get HT.out.1 HT.out.2.1 HT.out.2.2 hpl
        rw [← HG.out, ← obj_below hb hgz] at s1
        have he := HST.out
        rw [at'_eq hpl, at'_eq hbest] at he
        have HLS := Lib.hid fun v : Later wr => Calls.later (x := v) (less_any v.w L[p] L[q])
        generalize L[p] = x at *
        generalize L[q] = y at *
        generalize alLt x y = c at *
        have HE := Lib.hid he
        obtain ⟨x1, x2⟩ := x
        obtain ⟨y1, y2⟩ := y
        clear he HST
        go_wp2
        refine wp_region_later wr (Below.refl _ _) (by kernel_rfl) (by kernel_rfl) ?_
        repeat (go_big_quiet_step ((go_at_call 126; with_reducible exact HLS.out _)))
        refine wpQuiet_nil ?_
        rintro w2 ⟨v, rfl⟩
        have b2 := hb.trans (v.h.mono hz)
        cases c
        · go_wp2
          go_roundw
          case rel => exact ⟨k + 1, by omega, by go_num, by rw [HE.out]; simp, b2⟩
          case measure => simp [intOf]; omega
        · go_wp2
          go_roundw
          case rel => exact ⟨k + 1, by omega, by go_num, by rw [HE.out]; simp [hpl], b2⟩
          case measure => simp [intOf]; omega
      · have d1 : decide ((p : Int) < (L.length : Int)) = false := by simpa using hpl
        have HE := Lib.hid HST.out
        clear HST
        go_wp2
        refine wp_region_later wr (Below.refl _ _) (by kernel_rfl) (by kernel_rfl) ?_
        repeat (go_big_quiet_step (fail))
        refine wpQuiet_nil ?_
        rintro w2 ⟨v, rfl⟩
        have b2 := hb.trans (v.h.mono hz)
        go_wp2
        go_roundw
        case rel => exact ⟨k + 1, by omega, by go_num, by rw [HE.out, if_neg (fun e => hpl e.1)], b2⟩
        case measure => simp [intOf]; omega
    · have hk2 : k = 2 := by omega
      subst hk2
      rw [lstF_two] 
      go_wp2
      go_ret
      exact ⟨rfl, hb⟩
end Go.Proofs.YtagpclgappcnbaaGreat.Al
namespace Go.Proofs.YtagpclgappcnbaaGreat.Al
open Go.RowKit

theorem wrap_small {x : Int} (h0 : 0 ≤ x) (h1 : x ≤ 1000000) : IntKind.i64.wrap x = x := by
  simp [IntKind.wrap, IntKind.signed, IntKind.bits]; omega
theorem run_row3 (a b c : Int) (w : World) : (Instr.buildSlice 177 3 #[(0, .int .i64 a), (1, .int .i64 b), (2, .int .i64 c)]).run Tryz.prog w = .ok (.slice (some ⟨w.heap.size, 0, none⟩) 3 3) (w.alloc (.cells #[.int .i64 a, .int .i64 b, .int .i64 c] 3)) := by kernel_rfl
set_option maxRecDepth 100000 in
set_option maxHeartbeats 1000000 in
theorem sink_any (w : World) (F : Nat → Prop) (hb m : Nat) (sv : Value) (L : List Al) (M : List (Int × Int)) (i : Nat) (h : RawAt w F hb m sv L M) (hs : Spec L M) (hi : i < L.length) (hlen : L.length ≤ 100000) :
    Calls Tryz.prog 135 #[.pointer (some ⟨hb, 0, none⟩), .int .i64 i] w fun e w' => (∃ v, e = .returned v) ∧
      (∃ M', RawAt w' F hb m sv (sink L i) M' ∧ Spec (sink L i) M') ∧ Keeps F w w' := by
  have HR := Lib.hid h
  have HS := Lib.hid hs
  clear h hs
  go_enter Tryz.func135, Tryz.ntmps135
  go_wp2
  go_loopw [1] (fun v1 wr => ∃ (j n : Nat) (L' : List Al) (M' : List (Int × Int)), Hid (L'.length ≤ n + j) ∧ Hid (j < L'.length) ∧ Hid (L'.length = L.length) ∧ v1 = .int .i64 j ∧ Hid (sinkF n L' j = sink L i) ∧ Hid (RawAt wr F hb m sv L' M') ∧ Hid (Spec L' M') ∧ Keeps F w wr) (fun v _ => L.length - (intOf v).toNat)
  case atStart => exact ⟨i, L.length + 1, L, M, Lib.hid (by omega), Lib.hid hi, Lib.hid rfl, rfl, Lib.hid rfl, HR, HS, Keeps.refl _ _⟩
  case round =>
    obtain ⟨j, n, L', M', HN, HJ, HLL, rfl, HE, HR', HS', hk⟩ := hrel
    obtain ⟨n, rfl⟩ : ∃ n', n = n' + 1 := ⟨n - 1, by have := HN.out; have := HJ.out; omega⟩
    have hbz := HR'.out.lt.1
    have c0 : wr.cell? ⟨hb, 0, none⟩ = some sv := cell_at HR'.out.box 0
    have hjs : (j : Int) ≤ 100000 := by have := HJ.out; have := HLL.out; omega
    have w1 : IntKind.i64.wrap (2 * (j : Int)) = 2 * (j : Int) := wrap_small (by omega) (by omega)
    have w2 : IntKind.i64.wrap (2 * (j : Int) + 1) = 2 * (j : Int) + 1 := wrap_small (by omega) (by omega)
    have w3 : IntKind.i64.wrap (2 * (j : Int) + 2) = 2 * (j : Int) + 2 := wrap_small (by omega) (by omega)
    have hr3 := run_row3
    have b1 : Below wr.heap.size wr (wr.alloc (.cells #[.int .i64 j, .int .i64 (2 * j + 1 : Nat), .int .i64 (2 * j + 2 : Nat)] 3)) := (Below.refl _ wr).alloc (Nat.le_refl _) _
    have R1 := Lib.hid (HR'.out.below b1)
    have HLT := Lib.hid (least_any _ sv L' wr.heap.size j R1.out.row HJ.out (by have := HLL.out; omega) (obj_alloc_at _ _ _ rfl))
    push_cast at HLT
    go_wp2_with fail
    refine HLT.out.mono ?_
    rintro e w2' ⟨rfl, h2⟩
    have b2 := b1.trans (h2.mono b1.size)
    have R2 := Lib.hid (HR'.out.below b2)
    have hk2 := hk.trans (Keeps.of_below b2)
    have he := HE.out
    unfold sinkF at he
    have HG := Lib.hid (leastF_ge L' j)
    have HLL2 := Lib.hid (leastF_lt HJ.out)
    have HSW := Lib.hid (fun hq => swap_any w2' F hb m sv L' M' j (leastF L' j) R2.out HJ.out hq)
    have HSP := Lib.hid (fun hq => HS'.out.swap (k := leastF L' j) HJ.out hq)
    generalize leastF L' j = q at *
    have HE' := Lib.hid he
    clear he HE b1 h2 HLT w1 w2 w3 hr3 c0 hjs hbz
    by_cases hq : q = j
    · subst hq
      have hee := Lib.hid (show L' = sink L i from by have := HE'.out; rwa [if_pos rfl] at this)
      go_wp2
      refine bodyPost_ret (results_none rfl _ _ _) rfl ?_
      exact ⟨⟨_, rfl⟩, ⟨M', by rw [← hee.out]; exact R2.out, by rw [← hee.out]; exact HS'.out⟩, hk2⟩
    · have hqi : ¬ (q : Int) = (j : Int) := by omega
      have hee := Lib.hid (show sinkF n (swapL L' j q) q = sink L i from by have := HE'.out; rwa [if_neg hq] at this)
      have HQ := Lib.hid (show j < q from by have := HG.out; omega)
      clear hq
      go_wp2_with fail
      refine (HSW.out HLL2.out).mono ?_
      rintro e w3 ⟨⟨v3, rfl⟩, r3, k3⟩
      have R3 := Lib.hid r3
      have K3 := hk2.trans k3
      clear r3 k3
      go_wp2
      go_roundw
      case rel => exact ⟨q, n, swapL L' j q, _, Lib.hid (by have := HN.out; have := HQ.out; simp; omega), Lib.hid (by simpa using HLL2.out), Lib.hid (by simpa using HLL.out), rfl, hee, R3, Lib.hid (HSP.out HLL2.out), K3⟩
      case measure => have := HQ.out; have := HLL2.out; have := HLL.out; simp [intOf]; omega
end Go.Proofs.YtagpclgappcnbaaGreat.Al
namespace Go.Proofs.YtagpclgappcnbaaGreat.Al
open Go.RowKit

set_option maxRecDepth 100000 in
theorem settle_any (w : World) (F : Nat → Prop) (hb m : Nat) (sv : Value) (L : List Al) (M : List (Int × Int)) (i : Nat) (h : RawAt w F hb m sv L M) (hs : Spec L M) (hi : i < L.length) (hlen : L.length ≤ 100000) :
    Calls Tryz.prog 128 #[.pointer (some ⟨hb, 0, none⟩), .int .i64 i] w fun e w' => (∃ v, e = .returned v) ∧
      (∃ M', RawAt w' F hb m sv (settle L i) M' ∧ Spec (settle L i) M') ∧ Keeps F w w' := by
  have HR := Lib.hid (rise_any w F hb m sv L M i h hs hi hlen)
  have HL := Lib.hid (rise_perm hi).length_eq
  clear h hs
  go_enter Tryz.func128, Tryz.ntmps128
  go_wp2_with fail
  refine HR.out.mono ?_
  rintro e w1 ⟨⟨v1, rfl⟩, ⟨M1, r1, s1⟩, k1⟩
  have HK := Lib.hid (sink_any w1 F hb m sv _ M1 i r1 s1 (by rw [HL.out]; exact hi) (by rw [HL.out]; exact hlen))
  clear r1 s1
  go_wp2_with fail
  refine HK.out.mono ?_
  rintro e w2 ⟨⟨v2, rfl⟩, ⟨M2, r2, s2⟩, k2⟩
  have HF := Lib.hid (And.intro (show RawAt w2 F hb m sv (settle L i) M2 from r2) (show Spec (settle L i) M2 from s2))
  have K2 := k1.trans k2
  clear r2 s2
  go_wp2
  go_end0
  exact ⟨⟨_, rfl⟩, ⟨M2, HF.out.1, HF.out.2⟩, K2⟩
end Go.Proofs.YtagpclgappcnbaaGreat.Al
namespace Go.Proofs.YtagpclgappcnbaaGreat.Al
open Go.RowKit

set_option maxRecDepth 100000 in
theorem none_made (w : World) (hb : Nat) (h : w.cell? ⟨hb, 2, none⟩ = some (.bool true)) : Calls Tryz.prog 94 #[.pointer (some ⟨hb, 0, none⟩)] w fun e w' => e = .returned (.bool false) ∧ w' = w := by
  go_enter Tryz.func94, Tryz.ntmps94
  go_wp2
  go_ret
  exact ⟨rfl, rfl⟩
theorem RawAt.none {w : World} {F : Nat → Prop} {hb m : Nat} {sv : Value} {L : List Al} {M : List (Int × Int)} (h : RawAt w F hb m sv L M) : Calls Tryz.prog 94 #[.pointer (some ⟨hb, 0, none⟩)] w fun e w' => e = .returned (.bool false) ∧ w' = w :=
  none_made w hb (cell_at h.box 2)
def mayB (t : Int) : Bool := decide (0 ≤ t) && decide (t ≤ 4611686018427387903)
set_option maxRecDepth 100000 in
theorem may_any (w : World) (t : Int) : Calls Tryz.prog 98 #[.int .i64 t] w fun e w' => e = .returned (.bool (mayB t)) ∧ w' = w := by
  have HB : Hid (mayB t = (decide (0 ≤ t) && decide (t ≤ 4611686018427387903))) := Lib.hid rfl
  cases h1 : decide (0 ≤ t)
  · go_enter Tryz.func98, Tryz.ntmps98
    go_wp2
    go_ret
    exact ⟨ret_bool (by rw [HB.out, h1]; rfl), rfl⟩
  · go_enter Tryz.func98, Tryz.ntmps98
    go_wp2
    go_ret
    exact ⟨ret_bool (by rw [HB.out, h1]; rfl), rfl⟩
end Go.Proofs.YtagpclgappcnbaaGreat.Al
namespace Go.Proofs.YtagpclgappcnbaaGreat.Al
open Go.RowKit

theorem at'_snoc (L : List Al) (a : Al) (j : Nat) : at' (L ++ [a]) j = if j < L.length then at' L j else if j = L.length then a else (0, 0) := by
  unfold at'
  by_cases h : j < L.length
  · rw [if_pos h, List.getElem?_append_left h]
  · rw [if_neg h, List.getElem?_append_right (by omega)]
    by_cases h2 : j = L.length
    · subst h2; simp
    · rw [if_neg h2, List.getElem?_eq_none (by simp; omega)]; rfl
theorem Spec.push {L : List Al} {M : List (Int × Int)} (h : Spec L M) (a : Al) (hn : aGet a.2 M = none) : Spec (L ++ [a]) (aPut a.2 L.length M) := by
  have hne : ∀ j, j < L.length → (at' L j).2 ≠ a.2 := fun j hj e => by
    have := h.at_ j hj
    rw [e, hn] at this
    cases this
  refine ⟨fun j hj => ?_, fun k hk => ?_, h.once.put _ _⟩
  · simp at hj
    rw [at'_snoc, aGet_aPut']
    by_cases h1 : j < L.length
    · rw [if_pos h1, if_neg (hne j h1)]
      exact h.at_ j h1
    · have : j = L.length := by omega
      subst this
      rw [if_neg h1, if_pos rfl, if_pos rfl]
  · have h1 := hk L.length (by simp)
    rw [at'_snoc, if_neg (by omega), if_pos rfl] at h1
    rw [aGet_aPut', if_neg (fun e => h1 e.symm)]
    refine h.no k fun j hj e => hk j (by simp; omega) ?_
    rw [at'_snoc, if_pos hj, e]
/-- append of an alarm: the new row is the old one's, or a block just made -/
theorem push29 {ops : Array Oper} {rest : List Oper} {o : Oper} {a : Act} {w : World} {Q : Exit → Act → World → Prop} (hgd : o.guard = none) (s x : Operand) (ho : o.op = .call { callee := .builtin .append, args := #[s, x], argTypes := #[87, 87] })
    (v : Value) (L : List Al) (y : Al) (hs : a.eval s = v) (hown : w.ownsRow 0 114 2 v L.length (L.flatMap alL)) (g : Nat) (hx : a.eval x = .slice (some ⟨g, 0, none⟩) 1 1) (hg : obj w g = some (.cells #[.int .i64 y.1, .int .i64 y.2] 114 (0, 0)))
    (hlen : L.length ≤ 1048576)
    (h : ∀ v' w', w'.ownsRow 0 114 2 v' (L ++ [y]).length ((L ++ [y]).flatMap alL) → w.grownBy w' v.ownBlock → (v'.ownBlock = v.ownBlock ∨ v'.ownBlock = some w.heap.size) → wpList Tryz.prog ops Q rest (a.put o.dst v') w') : wpList Tryz.prog ops Q (o :: rest) a w := by
  obtain ⟨i0, hi, hz0, hz1, hz2⟩ := info_parts info32
  refine wpList_append_own_at (P := Tryz.prog) w hgd s x 87 ho 0 114 i0 _ 2 16 Tryz.underlying87 hi hz0 hz1 hz2 (by simp [Value.cells]) (by decide) v L.length (L.flatMap alL) hs hown ⟨g, 0, none⟩ 1 1 (alL y) hx rfl (fun j u hu => ?_) (fun u hu => ?_) (by unfold maxLen; omega) (by omega) (Nat.zero_le _) ?_
  · rw [Addr.add_lit, cell_at hg]; simpa using hu
  · have := alL_one y; simp only [allOne, List.all_eq_true] at this; exact this u hu
  · intro v' w' h1 h2 h3 h4
    refine h v' w' ?_ h2 h4
    have e1 : (L ++ [y]).length = L.length + 1 := by simp
    have e2 : (L ++ [y]).flatMap alL = L.flatMap alL ++ alL y := by simp
    rw [e1, e2]
    exact h1
end Go.Proofs.YtagpclgappcnbaaGreat.Al
namespace Go.Proofs.YtagpclgappcnbaaGreat.Al
open Go.RowKit

def hasK (L : List Al) (k : Int) : Bool := L.any fun x => x.2 == k
theorem Spec.has {L : List Al} {M : List (Int × Int)} (h : Spec L M) (k : Int) : (aGet k M).isSome = hasK L k := by
  by_cases hk : ∃ j, j < L.length ∧ (at' L j).2 = k
  · obtain ⟨j, hj, e⟩ := hk
    have h1 := h.at_ j hj
    rw [e] at h1
    rw [h1]
    unfold hasK
    symm
    rw [Option.isSome_some, List.any_eq_true]
    exact ⟨L[j], List.getElem_mem hj, by rw [at'_eq hj] at e; simpa using e⟩
  · have h1 := h.no k fun j hj e => hk ⟨j, hj, e⟩
    rw [h1]
    unfold hasK
    symm
    rw [Option.isSome_none, List.any_eq_false]
    intro x hx e
    obtain ⟨j, hj, rfl⟩ := List.mem_iff_getElem.1 hx
    exact hk ⟨j, hj, by rw [at'_eq hj]; simpa using e⟩
def pushE (L : List Al) (t k : Int) : Int := if mayB t = false then 1 else if hasK L k = true then 7 else if 4096 ≤ L.length then 6 else 0
theorem zero3' (w : World) : (zeroValue 3).run Tryz.prog w = .ok (.int .i64 0) w := by kernel_rfl
set_option maxRecDepth 100000 in
set_option maxHeartbeats 1000000 in
/-- Push where it says no -/
theorem push_no (w : World) (F : Nat → Prop) (hb m : Nat) (sv : Value) (L : List Al) (M : List (Int × Int)) (t k : Int) (h : RawAt w F hb m sv L M) (hs : Spec L M) (hn : pushE L t k ≠ 0) :
    Calls Tryz.prog 57 #[.pointer (some ⟨hb, 0, none⟩), .int .i64 t, .int .i64 k] w fun e w' => e = .returned (.int .i64 (pushE L t k)) ∧ w' = w := by
  have HP := Lib.hid (show pushE L t k = if mayB t = false then 1 else if hasK L k = true then 7 else if 4096 ≤ L.length then 6 else 0 from rfl)
  have HNO := Lib.hid h.none
  have HM := Lib.hid (may_any w t)
  obtain ⟨oa, cap, rfl, q1, q2, q3⟩ := row_sub h.row
  unfold maxLen at q2
  have hl := run_lookup_int (P := Tryz.prog) (w := w) (m := m) (enc := intV) Tryz.underlying125 Tryz.underlying2 zero3' h.map k
  have hk := hs.has k
  have c0 : w.cell? ⟨hb, 0, none⟩ = some (.slice oa L.length cap) := cell_at h.box 0
  have c1 : w.cell? ⟨hb, 1, none⟩ = some (.map (some m)) := cell_at h.box 1
  generalize mayB t = mb at *
  generalize hasK L k = hk' at *
  generalize hgm : aGet k M = om at *
  have HN := Lib.hid hn
  clear h hs q3 hgm hn
  have key : ∃ (x : Int) (y : Bool), (Instr.lookup 125 (.map (some m)) (.int .i64 k) true).run Tryz.prog w = .ok (.tuple #[.int .i64 x, .bool y]) w ∧ y = hk' := by
    cases om with
    | none => exact ⟨0, false, hl, hk⟩
    | some x => exact ⟨x, true, hl, hk⟩
  obtain ⟨x, y, hl', rfl⟩ := key
  clear hl hk
  go_enter Tryz.func57, Tryz.ntmps57
  go_wp2_with fail
  refine HNO.out.mono ?_
  rintro e w1 ⟨rfl, rfl⟩
  go_wp2_with fail
  refine HM.out.mono ?_
  rintro e w2 ⟨rfl, rfl⟩
  cases mb
  · go_wp2
    go_ret
    exact ⟨ret_int (by rw [HP.out]; rfl), rfl⟩
  · cases y
    · have hge : 4096 ≤ L.length := by
        have h1 := HN.out
        rw [HP.out] at h1
        by_cases hc : 4096 ≤ L.length
        · exact hc
        · simp [hc] at h1
      have hgi : (4096 : Int) ≤ (L.length : Int) := by omega
      go_wp2
      go_ret
      exact ⟨ret_int (by rw [HP.out]; simp [hge]), rfl⟩
    · go_wp2
      go_ret
      exact ⟨ret_int (by rw [HP.out]; rfl), rfl⟩
end Go.Proofs.YtagpclgappcnbaaGreat.Al
namespace Go.Proofs.YtagpclgappcnbaaGreat.Al
open Go.RowKit

theorem run_row29 (a b : Int) (w : World) : (Instr.buildSlice 87 1 #[(0, .agg #[.int .i64 a, .int .i64 b])]).run Tryz.prog w = .ok (.slice (some ⟨w.heap.size, 0, none⟩) 1 1) (w.alloc (.cells #[.int .i64 a, .int .i64 b] 114)) := by kernel_rfl
set_option maxRecDepth 100000 in
set_option maxHeartbeats 2000000 in
/-- Push where it says yes -/
theorem push_yes (w : World) (F : Nat → Prop) (hb m : Nat) (sv : Value) (L : List Al) (M : List (Int × Int)) (t k : Int) (h : RawAt w F hb m sv L M) (hs : Spec L M) (hn : pushE L t k = 0) :
    Calls Tryz.prog 57 #[.pointer (some ⟨hb, 0, none⟩), .int .i64 t, .int .i64 k] w fun e w' => e = .returned (.int .i64 0) ∧
      (∃ F' sv' M', RawAt w' F' hb m sv' (rise (L ++ [(t, k)]) L.length) M' ∧ Spec (rise (L ++ [(t, k)]) L.length) M' ∧ ∀ n, F' n → F n ∨ w.heap.size ≤ n) ∧ Keeps F w w' := by
  have hE : mayB t = true ∧ hasK L k = false ∧ L.length < 4096 := by
    unfold pushE at hn
    split at hn
    · cases hn
    · split at hn
      · cases hn
      · split at hn
        · cases hn
        · rename_i h1 h2 h3
          exact ⟨by simpa using h1, by simpa using h2, by omega⟩
  obtain ⟨e1, e2, e3⟩ := hE
  have HNO := Lib.hid h.none
  have hmay := may_any w t
  rw [e1] at hmay
  have HM := Lib.hid hmay
  have hk := hs.has k
  rw [e2] at hk
  have hgn : aGet k M = none := by cases hg : aGet k M with
    | none => rfl
    | some _ => rw [hg] at hk; cases hk
  have hl := run_lookup_int (P := Tryz.prog) (w := w) (m := m) (enc := intV) Tryz.underlying125 Tryz.underlying2 zero3' h.map k
  rw [hgn] at hl
  simp only at hl
  have HSP := Lib.hid (hs.push (t, k) hgn)
  obtain ⟨oa, cap, rfl, q1, q2, q3⟩ := row_sub h.row
  unfold maxLen at q2
  have hbox := h.box
  have hbz := lt_of_obj hbox
  have c0 : w.cell? ⟨hb, 0, none⟩ = some (.slice oa L.length cap) := cell_at hbox 0
  have c1 : w.cell? ⟨hb, 1, none⟩ = some (.map (some m)) := cell_at hbox 1
  have hgl : ¬ (4096 : Int) ≤ (L.length : Int) := by omega
  have nb : ∀ g, (Value.slice oa L.length cap).ownBlock = some g → g ≠ hb ∧ g ≠ m := fun g hg => by
    rcases h.row.2 with ⟨e, _⟩ | ⟨g', cap', cur', e, _, ho, _⟩
    · rw [e] at hg; cases hg
    · rw [e] at hg
      simp only [Value.ownBlock, Option.some.injEq] at hg
      subst hg
      have ho' : obj w g' = some (.cells cur' 114 (0, 0)) := ho
      obtain ⟨es, clk, hmm, _⟩ := h.map
      exact ⟨fun e => (by subst e; rw [hbox] at ho'; cases ho'), fun e => (by subst e; rw [hmm] at ho'; cases ho')⟩
  have hrow29 := run_row29
  have HH := Lib.hid h
  have NB := Lib.hid nb
  have HBX := Lib.hid hbox
  clear h hs q3 hmay hk hgn nb hn hbox
  go_enter Tryz.func57, Tryz.ntmps57
  go_wp2_with fail
  refine HNO.out.mono ?_
  rintro e w1 ⟨rfl, rfl⟩
  go_wp2_with fail
  refine HM.out.mono ?_
  rintro e w2 ⟨rfl, rfl⟩
  go_wp2_with (at_builtin; refine push29 rfl _ _ rfl _ L (0, 0) rfl (HH.out.row.alloc _) w2.heap.size rfl (obj_alloc_at _ _ _ rfl) (by omega) ?_; intro v' w3 h3 hg3 hob; obtain ⟨oa', cap', rfl, p1, p2, p3⟩ := row_sub h3; have o3 : obj w3 hb = some (.cells #[.slice oa L.length cap, .map (some m), .bool true] 127 (0, 0)) := (hg3.block hb (by simp; omega) (fun e => (NB.out hb e.symm).1 rfl)).trans ((obj_alloc_past _ _ _ hbz).trans HBX.out); have c3 := cell_at o3 0; have f3 := frozen_at o3; have z3 := lt_of_obj o3; have H3 := Lib.hid h3; have G3 := Lib.hid hg3; have O3 := Lib.hid hob; clear h3 hg3 hob p3)
  have hl1 : (L ++ [((0 : Int), (0 : Int))]).length = L.length + 1 := by simp
  have R4 : RawAt (w3.setCell ⟨hb, 0, none⟩ (.slice oa' (L.length + 1) cap')) (fun n => F n ∨ (Value.slice oa' (L.length + 1) cap').ownBlock = some n) hb m (.slice oa' (L.length + 1) cap') (L ++ [(0, 0)]) M := by
    have r3 := H3.out
    rw [hl1] at r3
    have hne : ∀ g, (Value.slice oa' (L.length + 1) cap').ownBlock = some g → g ≠ hb := fun g hg e => by
      rcases r3.2 with ⟨e', _⟩ | ⟨g', cap'', cur', e', _, ho, _⟩
      · rw [e'] at hg; cases hg
      · rw [e'] at hg
        simp only [Value.ownBlock, Option.some.injEq] at hg
        subst hg
        have ho' : obj w3 g' = some (.cells cur' 114 (0, 0)) := ho
        rw [e, o3] at ho'
        cases ho'
    have hsz3 := G3.out.size
    refine ⟨by rw [obj_setCell_at _ o3]; rfl, ⟨by rw [flatMap_len alL_length], ?_⟩, ?_, .inl HH.out.fb, .inl HH.out.fm, fun g hg => .inr hg, fun n hn => ?_⟩
    · rcases r3.2 with ⟨e', h0⟩ | ⟨g', cap'', cur', e', hge, ho, h4⟩
      · omega
      · refine .inr ⟨g', cap'', cur', by rw [hl1]; exact e', hge, (obj_setCell_ne _ ⟨hb, 0, none⟩ _ _ (hne g' (by rw [e']; rfl))).trans ho, by rw [hl1]; exact h4⟩
    · obtain ⟨es, clk, hmm, hr⟩ := HH.out.map
      have hmb : m ≠ hb := fun e => by
        have := HBX.out
        rw [← e, hmm] at this
        cases this
      refine ⟨es, clk, (obj_setCell_ne _ ⟨hb, 0, none⟩ _ _ hmb).trans ((G3.out.block m (by have := lt_of_obj hmm; simp; omega) (fun e => (NB.out m e.symm).2 rfl)).trans ((obj_alloc_past _ _ _ (lt_of_obj hmm)).trans hmm)), hr⟩
    · have hz : (w3.setCell ⟨hb, 0, none⟩ (.slice oa' (L.length + 1) cap')).heap.size = w3.heap.size := by simp
      rw [hz]
      rcases hn with hn | hn
      · have := HH.out.old n hn
        simp at hsz3
        omega
      · exact (r3.lt n hn).2
  have K4 : Keeps F w2 (w3.setCell ⟨hb, 0, none⟩ (.slice oa' (L.length + 1) cap')) := by
    have g3 := G3.out
    have k3 : Keeps F w2 w3 := ⟨g3.os, g3.tape, g3.output, Nat.le_trans (by simp) g3.size, fun n hn hf => (g3.block n (by simp; omega) (fun e => hf (HH.out.fr n e.symm))).trans (obj_alloc_past _ _ _ hn)⟩
    exact k3.setCell (a := ⟨hb, 0, none⟩) (.inl HH.out.fb) _
  have c4 : (w3.setCell ⟨hb, 0, none⟩ (.slice oa' (L.length + 1) cap')).cell? ⟨hb, 0, none⟩ = some (.slice oa' (L.length + 1) cap') := cell_at R4.box 0
  have O3' : (Value.slice oa' (L.length + 1) cap').ownBlock = (Value.slice oa L.length cap).ownBlock ∨ (Value.slice oa' (L.length + 1) cap').ownBlock = some (w2.heap.size + 1) := by
    have e := O3.out
    rw [hl1] at e
    rcases e with e | e
    · exact .inl e
    · exact .inr (e.trans (by simp))
  have HF' : Hid (∀ n, (F n ∨ (Value.slice oa' (L.length + 1) cap').ownBlock = some n) → F n ∨ w2.heap.size ≤ n) := Lib.hid (fun n hn => by
    rcases hn with hn | hn
    · exact .inl hn
    · rcases O3' with e | e
      · exact .inl (HH.out.fr n (by rw [← e]; exact hn))
      · rw [e] at hn
        simp at hn
        exact .inr (by omega))
  obtain ⟨F', R4, HF'⟩ : ∃ F' : Nat → Prop, RawAt (w3.setCell ⟨hb, 0, none⟩ (.slice oa' (L.length + 1) cap')) F' hb m (.slice oa' (L.length + 1) cap') (L ++ [(0, 0)]) M ∧ Hid (∀ n, F' n → F n ∨ w2.heap.size ≤ n) := ⟨_, R4, HF'⟩
  have hset : (L ++ [((0 : Int), (0 : Int))]).set L.length (t, k) = L ++ [(t, k)] := by simp
  have HLY := Lib.hid (lay_any _ F' hb m _ _ M L.length (t, k) R4 (by rw [hl1]; omega))
  rw [hset] at HLY
  have K4' := Lib.hid K4
  clear R4 K4 hset
  generalize w3.setCell ⟨hb, 0, none⟩ (.slice oa' (L.length + 1) cap') = w4 at *
  refine HLY.out.mono ?_
  rintro e w5 ⟨⟨v5, rfl⟩, r5, k5⟩
  have c5 : w5.cell? ⟨hb, 0, none⟩ = some (.slice oa' (L.length + 1) cap') := cell_at r5.box 0
  have HRS := Lib.hid (rise_any w5 F' hb m _ _ _ L.length r5 HSP.out (by simp) (by simp; omega))
  have K5 := Lib.hid k5
  have z5 := r5.lt.1
  clear r5 k5 c4
  go_wp2_with fail
  refine HRS.out.mono ?_
  rintro e w6 ⟨⟨v6, rfl⟩, ⟨M6, r6, s6⟩, k6⟩
  have HF6 := Lib.hid (And.intro r6 (And.intro s6 (K5.out.trans k6)))
  clear r6 s6 k6
  go_wp2
  go_ret
  have kk := HF6.out.2.2
  have k4 := K4'.out
  exact ⟨rfl, ⟨F', _, M6, HF6.out.1, HF6.out.2.1, HF'.out⟩, ⟨kk.os.trans k4.os, kk.tape.trans k4.tape, kk.output.trans k4.output, Nat.le_trans k4.size kk.size, fun n hn hf =>
    (kk.block n (Nat.lt_of_lt_of_le hn k4.size) (fun h => by rcases HF'.out n h with h | h; exact hf h; omega)).trans (k4.block n hn hf)⟩⟩
end Go.Proofs.YtagpclgappcnbaaGreat.Al
namespace Go.Proofs.YtagpclgappcnbaaGreat.Al
open Go.RowKit

theorem Spec.nil : Spec [] [] := ⟨fun j hj => by simp at hj, fun _ _ => rfl, List.nodup_nil⟩
set_option maxRecDepth 100000 in
theorem new_any (w : World) : Calls Tryz.prog 25 #[] w fun e w' => e = .returned (.pointer (some ⟨w.heap.size + 1, 0, none⟩)) ∧
    RawAt w' (fun n => n = w.heap.size ∨ n = w.heap.size + 1) (w.heap.size + 1) w.heap.size (.slice none 0 0) [] [] ∧ Below w.heap.size w w' := by
  have hmm := @run_makeMap Tryz.prog
  go_enter Tryz.func25, Tryz.ntmps25
  go_wp2
  go_ret
  refine ⟨rfl, ⟨obj_alloc_at _ _ _ (by simp), World.ownsRow_nil _ _ _ _, ⟨#[], 0, (obj_alloc_past _ _ _ (by simp)).trans (obj_alloc_at _ _ _ rfl), trivial⟩, .inr rfl, .inl rfl, fun g hg => by simp [Value.ownBlock] at hg, fun n hn => by rcases hn with rfl | rfl <;> simp <;> omega⟩, ?_⟩
  exact ((Below.refl _ w).alloc (Nat.le_refl _) _).alloc (by simp) _
end Go.Proofs.YtagpclgappcnbaaGreat.Al
namespace Go.Proofs.YtagpclgappcnbaaGreat.Al
open Go.RowKit

theorem at'_take {L : List Al} {n j : Nat} (h : j < n) : at' (L.take n) j = at' L j := by
  unfold at'
  rw [List.getElem?_take_of_lt h]
/-- the last one is cut off, and its key deleted -/
theorem Spec.cut {L : List Al} {M : List (Int × Int)} (h : Spec L M) {n : Nat} (hn : L.length = n + 1) : Spec (L.take n) (aDel (at' L n).2 M) := by
  refine ⟨fun j hj => ?_, fun k hk => ?_, h.once.del _⟩
  · have hj' : j < n := by simp at hj; omega
    rw [at'_take hj', aGet_aDel _ _ h.once, if_neg (fun e => by have := h.inj (by omega) (by omega) e; omega)]
    exact h.at_ j (by omega)
  · rw [aGet_aDel _ _ h.once]
    by_cases e : k = (at' L n).2
    · rw [if_pos e]
    · rw [if_neg e]
      refine h.no k fun j hj e2 => ?_
      by_cases hjn : j = n
      · subst hjn; exact e e2.symm
      · have hj' : j < n := by omega
        exact hk j (by simp; omega) (by rw [at'_take hj']; exact e2)
end Go.Proofs.YtagpclgappcnbaaGreat.Al
namespace Go.Proofs.YtagpclgappcnbaaGreat.Al
open Go.RowKit

def peekE (L : List Al) : Int := if L.length = 0 then 4 else 0
set_option maxRecDepth 100000 in
theorem peek_any (w : World) (F : Nat → Prop) (hb m : Nat) (sv : Value) (L : List Al) (M : List (Int × Int)) (h : RawAt w F hb m sv L M) :
    Calls Tryz.prog 87 #[.pointer (some ⟨hb, 0, none⟩)] w fun e w' => e = .returned (.tuple #[alV (at' L 0), .int .i64 (peekE L)]) ∧ Below w.heap.size w w' := by
  have b1 : Below w.heap.size w (w.alloc (.cells #[.int .i64 0, .int .i64 0] 114)) := (Below.refl _ w).alloc (Nat.le_refl _) _
  have HNO := Lib.hid (h.below b1).none
  obtain ⟨oa, cap, rfl, q1, q2, q3⟩ := row_sub h.row
  unfold maxLen at q2
  have c0 : w.cell? ⟨hb, 0, none⟩ = some (.slice oa L.length cap) := cell_at h.box 0
  have hz := h.lt.1
  by_cases h0 : L.length = 0
  · have hL : L = [] := List.eq_nil_of_length_eq_zero h0
    subst hL
    clear h q3
    go_enter Tryz.func87, Tryz.ntmps87
    go_wp2_with fail
    refine HNO.out.mono ?_
    rintro e w1 ⟨rfl, rfl⟩
    go_wp2
    have o2 : obj (w.alloc (.cells #[.int .i64 0, .int .i64 0] 114)) w.heap.size = some (.cells #[.int .i64 0, .int .i64 0] 114 (0, 0)) := obj_alloc_at _ _ _ rfl
    refine bodyPost_ret (results_cell_tmp rfl _ rfl (by rw [run_load32, o2]; rfl)) rfl ?_
    exact ⟨rfl, b1⟩
  · obtain ⟨g, cur, rfl, _, _, hg, hcs, htk⟩ := q3 (by omega)
    have s1 := row_get htk hcs q1 (i := 0) (by omega)
    have hat : at' L 0 = L[0]'(by omega) := at'_eq (by omega)
    rw [← hg] at s1
    have hgz := lt_of_obj hg
    have HA := Lib.hid hat
    generalize L[0]'(by omega) = x at *
    obtain ⟨x1, x2⟩ := x
    have HPE := Lib.hid (show peekE L = 0 from if_neg h0)
    have hpos : (0 : Int) < (L.length : Int) := by omega
    clear h htk hcs hat hg
    go_enter Tryz.func87, Tryz.ntmps87
    go_wp2_with fail
    refine HNO.out.mono ?_
    rintro e w1 ⟨rfl, rfl⟩
    go_wp2
    have o2 : obj (w.alloc (.cells #[.int .i64 x1, .int .i64 x2] 114)) w.heap.size = some (.cells #[.int .i64 x1, .int .i64 x2] 114 (0, 0)) := obj_alloc_at _ _ _ rfl
    refine bodyPost_ret (results_cell_tmp rfl _ rfl (by rw [run_load32, o2]; rfl)) rfl ?_
    exact ⟨by rw [HA.out, HPE.out]; rfl, (Below.refl _ w).alloc (Nat.le_refl _) _⟩
end Go.Proofs.YtagpclgappcnbaaGreat.Al
namespace Go.Proofs.YtagpclgappcnbaaGreat.Al
open Go.RowKit

theorem flatMap_take (n : Nat) : ∀ (L : List Al), (L.flatMap alL).take (n * 2) = (L.take n).flatMap alL := by
  induction n with
  | zero => intro L; simp
  | succ n ih =>
    intro L
    cases L with
    | nil => simp
    | cons x L =>
      have := ih L
      rw [List.take_succ_cons, List.flatMap_cons, List.flatMap_cons, show (n + 1) * 2 = n * 2 + 2 by omega]
      simp only [alL, List.cons_append, List.nil_append, List.take_succ_cons]
      rw [this]
/-- the last one is cut off the row -/
theorem rawAt_cut {w : World} {F : Nat → Prop} {hb m g cap n : Nat} {L : List Al} {M : List (Int × Int)} (h : RawAt w F hb m (.slice (some ⟨g, 0, none⟩) L.length cap) L M) (hn : L.length = n + 1) :
    RawAt (w.setCell ⟨hb, 0, none⟩ (.slice (some ⟨g, 0, none⟩) n cap)) F hb m (.slice (some ⟨g, 0, none⟩) n cap) (L.take n) M := by
  obtain ⟨_, _, e', p1, p2, p3⟩ := row_sub h.row
  simp only [Value.slice.injEq] at e'
  obtain ⟨rfl, _, rfl⟩ := e'
  obtain ⟨g', cur, e2, _, _, hg, hcs, htk⟩ := p3 (by omega)
  simp only [Option.some.injEq, Addr.mk.injEq, and_true] at e2
  subst e2
  have hbox := h.box
  have hl : (L.take n).length = n := by simp; omega
  have n1 : g ≠ hb := fun e => by subst e; rw [hbox] at hg; cases hg
  obtain ⟨es, clk, hm, hr⟩ := h.map
  have n2 : m ≠ hb := fun e => by subst e; rw [hbox] at hm; cases hm
  refine ⟨by rw [obj_setCell_at _ hbox]; rfl, ⟨by rw [flatMap_len alL_length], .inr ⟨g, cap, cur, by rw [hl], Nat.zero_le _, (obj_setCell_ne _ ⟨hb, 0, none⟩ _ _ n1).trans hg, by rw [hl]; omega, p2, hcs, ?_⟩⟩, ⟨es, clk, (obj_setCell_ne _ ⟨hb, 0, none⟩ _ _ n2).trans hm, hr⟩, h.fb, h.fm, fun g' hg' => h.fr g' hg', fun k hk => by have := h.old k hk; simpa using this⟩
  rw [hl, ← flatMap_take, ← htk, List.take_take, Nat.min_eq_left (by omega)]
/-- the map turns -/
theorem rawAt_map {w : World} {F : Nat → Prop} {hb m : Nat} {sv : Value} {L : List Al} {M M' : List (Int × Int)} (h : RawAt w F hb m sv L M) {es : Array MapEntry} {clk : Nat} (hr : RepI intV es.toList M') : RawAt (putObj w m (.map es clk)) F hb m sv L M' := by
  have hbox := h.box
  obtain ⟨es0, clk0, hm, _⟩ := h.map
  have n1 : hb ≠ m := fun e => by subst e; rw [hbox] at hm; cases hm
  refine ⟨(obj_putObj_ne _ _ _ _ n1).trans hbox, ⟨h.row.1, ?_⟩, ⟨es, clk, obj_putObj_eq _ _ _ (lt_of_obj hm), hr⟩, h.fb, h.fm, h.fr, fun n hn => by have := h.old n hn; simpa using this⟩
  rcases h.row.2 with h1 | ⟨g, cap, cur, e, h2, h3, h4⟩
  · exact .inl h1
  · have e3 : obj w g = some (.cells cur 114 (0, 0)) := h3
    have n2 : g ≠ m := fun e' => by subst e'; rw [e3] at hm; cases hm
    exact .inr ⟨g, cap, cur, e, h2, (obj_putObj_ne _ _ _ _ n2).trans e3, h4⟩
end Go.Proofs.YtagpclgappcnbaaGreat.Al
namespace Go.Proofs.YtagpclgappcnbaaGreat.Al
open Go.RowKit

set_option maxRecDepth 100000 in
set_option maxHeartbeats 2000000 in
theorem take_any (w : World) (F : Nat → Prop) (hb m : Nat) (sv : Value) (L : List Al) (M : List (Int × Int)) (i : Nat) (h : RawAt w F hb m sv L M) (hs : Spec L M) (hi : i < L.length) (hlen : L.length ≤ 100000) :
    Calls Tryz.prog 103 #[.pointer (some ⟨hb, 0, none⟩), .int .i64 i] w fun e w' => e = .returned (alV (at' L i)) ∧
      (∃ sv' M', RawAt w' F hb m sv' (takeOut L i) M' ∧ Spec (takeOut L i) M') ∧ Keeps F w w' := by
  obtain ⟨n, hn⟩ : ∃ n, L.length = n + 1 := ⟨L.length - 1, by omega⟩
  obtain ⟨oa, cap, rfl, q1, q2, q3⟩ := row_sub h.row
  obtain ⟨g, cur, rfl, hgo, _, hg, hcs, htk⟩ := q3 (by omega)
  unfold maxLen at q2
  have s1 := row_get htk hcs q1 hi
  rw [← hg] at s1
  have hgz := lt_of_obj hg
  have hbz := h.lt.1
  have c0 : w.cell? ⟨hb, 0, none⟩ = some (.slice (some ⟨g, 0, none⟩) L.length cap) := cell_at h.box 0
  have hw : IntKind.i64.wrap ((L.length : Int) - 1) = (n : Int) := by rw [pred_wrap (by omega) (by omega)]; omega
  have HA := Lib.hid (at'_eq hi)
  have HH := Lib.hid h
  have HSP := Lib.hid hs
  generalize hx : L[i] = x at *
  obtain ⟨x1, x2⟩ := x
  clear h hs q3 htk hg hcs
  go_enter Tryz.func103, Tryz.ntmps103
  go_wp2
  go_region
  have bw : Below w.heap.size w ((w.alloc (.cells #[.int .i64 0, .int .i64 0] 114)).alloc (.cells #[.int .i64 x1, .int .i64 x2] 114)).drew := (((Below.refl _ w).alloc (Nat.le_refl _) _).alloc (by simp) _).drew
  have o4 : obj ((w.alloc (.cells #[.int .i64 0, .int .i64 0] 114)).alloc (.cells #[.int .i64 x1, .int .i64 x2] 114)).drew w.heap.size = some (.cells #[.int .i64 0, .int .i64 0] 114 (0, 0)) := (obj_alloc_past _ _ _ (by simp)).trans (obj_alloc_at _ _ _ rfl)
  have o5 : obj ((w.alloc (.cells #[.int .i64 0, .int .i64 0] 114)).alloc (.cells #[.int .i64 x1, .int .i64 x2] 114)).drew (w.heap.size + 1) = some (.cells #[.int .i64 x1, .int .i64 x2] 114 (0, 0)) := obj_alloc_at _ _ _ (by simp)
  have f4 : ¬ F w.heap.size := fun hf => absurd (HH.out.old _ hf) (by omega)
  have f5 : ¬ F (w.heap.size + 1) := fun hf => absurd (HH.out.old _ hf) (by omega)
  generalize ((w.alloc (.cells #[.int .i64 0, .int .i64 0] 114)).alloc (.cells #[.int .i64 x1, .int .i64 x2] 114)).drew = w1 at *
  have R1 := Lib.hid (HH.out.below bw)
  have HSW := Lib.hid (swap_any w1 F hb m _ L M i n R1.out hi (by omega))
  go_wp2_with fail
  refine HSW.out.mono ?_
  rintro e w2 ⟨⟨v2, rfl⟩, r2, k2⟩
  have z4 := lt_of_obj o4
  have z5 := lt_of_obj o5
  have p4 := (k2.block _ z4 f4).trans o4
  have p5 := (k2.block _ z5 f5).trans o5
  have K2 := Lib.hid ((Keeps.of_below bw).trans k2)
  have c2 : w2.cell? ⟨hb, 0, none⟩ = some (.slice (some ⟨g, 0, none⟩) L.length cap) := cell_at r2.box 0
  have fz2 := frozen_at r2.box
  have hz2 := r2.lt.1
  have hl2 : (Value.slice (some ⟨g, 0, none⟩) L.length cap) = .slice (some ⟨g, 0, none⟩) (swapL L i n).length cap := by rw [swapL_length]
  rw [hl2] at r2
  have HC := Lib.hid (rawAt_cut r2 (n := n) (by rw [swapL_length]; exact hn))
  clear r2 hl2 k2 o4 o5 c0 s1 hw
  go_wp2
  have p5' : obj (w2.setCell ⟨hb, 0, none⟩ (.slice (some ⟨g, 0, none⟩) n cap)) (w.heap.size + 1) = some (.cells #[.int .i64 x1, .int .i64 x2] 114 (0, 0)) := (obj_setCell_ne _ ⟨hb, 0, none⟩ _ _ (by show _ ≠ hb; omega)).trans p5
  have p4' : obj (w2.setCell ⟨hb, 0, none⟩ (.slice (some ⟨g, 0, none⟩) n cap)) w.heap.size = some (.cells #[.int .i64 0, .int .i64 0] 114 (0, 0)) := (obj_setCell_ne _ ⟨hb, 0, none⟩ _ _ (by show _ ≠ hb; omega)).trans p4
  have K3 := Lib.hid (K2.out.setCell (a := ⟨hb, 0, none⟩) (.inl HH.out.fb) (.slice (some ⟨g, 0, none⟩) n cap))
  generalize w2.setCell ⟨hb, 0, none⟩ (.slice (some ⟨g, 0, none⟩) n cap) = w3 at *
  obtain ⟨es, clk, hm3, hr3⟩ := HC.out.map
  have c3 : w3.cell? ⟨hb, 1, none⟩ = some (.map (some m)) := cell_at HC.out.box 1
  have y3 := HC.out.lt.1
  have y5 := lt_of_obj p5'
  have d5 : w3.cell? ⟨w.heap.size + 1, 1, none⟩ = some (.int .i64 x2) := cell_at p5' 1
  obtain ⟨es', hdl, hr'⟩ := run_delete_int (enc := intV) (clk := clk) Tryz.underlying125 Tryz.underlying2 0 2 hr3 m x2
  have hdl3 := hdl w3.drew hm3
  have R4 := Lib.hid ((rawAt_map (w := w3) (clk := clk) HC.out hr').below (Below.refl _ _).drew)
  have K4 := Lib.hid ((K3.out.putObj HH.out.fm (.map es' clk)).drew)
  have n4 : w.heap.size ≠ m := fun e => f4 (e ▸ HH.out.fm)
  have n5 : w.heap.size + 1 ≠ m := fun e => f5 (e ▸ HH.out.fm)
  have x4 : obj (putObj w3 m (.map es' clk)).drew w.heap.size = some (.cells #[.int .i64 0, .int .i64 0] 114 (0, 0)) := (obj_putObj_ne _ _ _ _ n4).trans p4'
  have x5 : obj (putObj w3 m (.map es' clk)).drew (w.heap.size + 1) = some (.cells #[.int .i64 x1, .int .i64 x2] 114 (0, 0)) := (obj_putObj_ne _ _ _ _ n5).trans p5'
  have HX : Hid (x2 = (at' (swapL L i n) n).2) := Lib.hid (by
    rw [at'_swap hi (by omega)]
    by_cases e : n = i
    · rw [if_pos e, e, HA.out]
    · rw [if_neg e, if_pos rfl, HA.out])
  have HS1 := Lib.hid (HSP.out.swap (i := i) (k := n) hi (by omega))
  have HS2 := Lib.hid (HS1.out.cut (n := n) (by rw [swapL_length]; exact hn))
  rw [← HX.out] at HS2
  have hl3 : ((swapL L i n).take n).length = n := by simp; omega
  by_cases hin : i < n
  · have hini : (i : Int) < (n : Int) := by omega
    refine wp_region_quiet_tail 6 (by kernel_rfl) (by kernel_rfl) ?_
    simp only [List.take_succ_cons, List.take_zero, List.drop_succ_cons, List.drop_zero]
    repeat (go_big_quiet_step (fail))
    refine wpQuiet_nil ?_
    have HT : Hid (takeOut L i = settle ((swapL L i n).take n) i) := Lib.hid (by
      unfold takeOut
      rw [show L.length - 1 = n by omega]
      simp only [if_pos hin])
    have HST := Lib.hid (settle_any _ F hb m _ _ _ i R4.out HS2.out (by rw [hl3]; exact hin) (by rw [hl3]; omega))
    go_wp2_with fail
    refine HST.out.mono ?_
    rintro e w5 ⟨⟨v5, rfl⟩, ⟨M5, r5, s5⟩, k5⟩
    have z4' := lt_of_obj x4
    have z5' := lt_of_obj x5
    have t4 := (k5.block _ z4' f4).trans x4
    have t5 := (k5.block _ z5' f5).trans x5
    have q4 := lt_of_obj t4
    have q5 := lt_of_obj t5
    have HF := Lib.hid (And.intro r5 (And.intro s5 (K4.out.trans k5)))
    clear r5 s5 k5 x4 x5
    go_wp2
    have oo : obj (putObj w5 w.heap.size (.cells #[.int .i64 x1, .int .i64 x2] 114)) w.heap.size = some (.cells #[.int .i64 x1, .int .i64 x2] 114 (0, 0)) := obj_putObj_eq _ _ _ q4
    refine bodyPost_ret (results_cell rfl _ rfl (by rw [run_load32, oo]; rfl)) rfl ?_
    have hne : ∀ n, F n → n ≠ w.heap.size := fun n hf e => f4 (e ▸ hf)
    refine ⟨by rw [HA.out]; rfl, ⟨.slice (some ⟨g, 0, none⟩) n cap, M5, ?_, ?_⟩, ?_⟩
    · rw [HT.out]; exact HF.out.1.of_obj (by simp) (fun n _ hf => obj_putObj_ne _ _ _ _ (hne n hf))
    · rw [HT.out]; exact HF.out.2.1
    · have kk := HF.out.2.2
      exact ⟨kk.os, kk.tape, kk.output, by rw [size_putObj]; exact kk.size, fun n hn hf => (obj_putObj_ne _ _ _ _ (by omega)).trans (kk.block n hn hf)⟩
  · have HT : Hid (takeOut L i = (swapL L i n).take n) := Lib.hid (by
      unfold takeOut
      rw [show L.length - 1 = n by omega]
      simp only [if_neg hin])
    have hini : (n : Int) ≤ (i : Int) := by omega
    refine wp_region_quiet_tail 6 (by kernel_rfl) (by kernel_rfl) ?_
    simp only [List.take_succ_cons, List.take_zero, List.drop_succ_cons, List.drop_zero]
    repeat (go_big_quiet_step (fail))
    refine wpQuiet_nil ?_
    go_wp2
    have oo : obj (putObj (putObj w3 m (.map es' clk)) w.heap.size (.cells #[.int .i64 x1, .int .i64 x2] 114)).drew w.heap.size = some (.cells #[.int .i64 x1, .int .i64 x2] 114 (0, 0)) := obj_putObj_eq _ _ _ (lt_of_obj x4)
    refine bodyPost_ret (results_cell rfl _ rfl (by rw [run_load32, oo]; rfl)) rfl ?_
    have hne : ∀ n, F n → n ≠ w.heap.size := fun n hf e => f4 (e ▸ hf)
    refine ⟨by rw [HA.out]; rfl, ⟨.slice (some ⟨g, 0, none⟩) n cap, _, ?_, HT.out ▸ HS2.out⟩, ?_⟩
    · rw [HT.out]; exact R4.out.of_obj (by simp) (fun n _ hf => obj_putObj_ne _ _ _ _ (hne n hf))
    · have kk := K4.out
      exact ⟨kk.os, kk.tape, kk.output, by simpa using kk.size, fun n hn hf => (obj_putObj_ne _ _ _ _ (by omega)).trans (kk.block n hn hf)⟩
end Go.Proofs.YtagpclgappcnbaaGreat.Al
