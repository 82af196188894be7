namespace Go.Proofs.Ytggpmepiggnnnaa

/-! ### heaps of alarms: the plain law -/
abbrev Al := Int × Int
def alLt (a b : Al) : Bool := decide (a.1 < b.1) || (decide (a.1 = b.1) && decide (a.2 < b.2))
theorem alLt_irrefl (a : Al) : alLt a a = false := by simp [alLt]
theorem alLt_trans {a b c : Al} (h1 : alLt a b = true) (h2 : alLt b c = true) : alLt a c = true := by
  simp only [alLt, Bool.or_eq_true, Bool.and_eq_true, decide_eq_true_eq] at *; omega
/-- not behind -/
def alLe (a b : Al) : Prop := alLt b a = false
theorem alLe_iff {a b : Al} : alLe a b ↔ a.1 < b.1 ∨ (a.1 = b.1 ∧ a.2 ≤ b.2) := by
  simp only [alLe, alLt, Bool.or_eq_false_iff, Bool.and_eq_false_iff, decide_eq_false_iff_not]; omega
theorem alLt_iff {a b : Al} : alLt a b = true ↔ a.1 < b.1 ∨ (a.1 = b.1 ∧ a.2 < b.2) := by
  simp only [alLt, Bool.or_eq_true, Bool.and_eq_true, decide_eq_true_eq]
theorem alLe_refl (a : Al) : alLe a a := alLt_irrefl a
theorem alLe_trans {a b c : Al} (h1 : alLe a b) (h2 : alLe b c) : alLe a c := by rw [alLe_iff] at *; omega
theorem alLe_of_lt {a b : Al} (h : alLt a b = true) : alLe a b := by rw [alLe_iff]; rw [alLt_iff] at h; omega
theorem alLe_antisymm {a b : Al} (h1 : alLe a b) (h2 : alLe b a) : a = b := by
  rw [alLe_iff] at *; exact Prod.ext (by omega) (by omega)

def swapL (L : List Al) (i k : Nat) : List Al := (L.set i (L[k]?.getD (0, 0))).set k (L[i]?.getD (0, 0))
@[simp] theorem swapL_length (L : List Al) (i k : Nat) : (swapL L i k).length = L.length := by simp [swapL]
/-- what lies at a place -/
def at' (L : List Al) (i : Nat) : Al := L[i]?.getD (0, 0)
theorem at'_eq {L : List Al} {i : Nat} (h : i < L.length) : at' L i = L[i] := by simp [at', h]
theorem at'_swap {L : List Al} {i k : Nat} (hi : i < L.length) (hk : k < L.length) (j : Nat) :
    at' (swapL L i k) j = if j = i then at' L k else if j = k then at' L i else at' L j := by
  unfold at' swapL
  rw [List.getElem?_set, List.getElem?_set]
  simp only [List.length_set]
  by_cases h1 : j = k
  · subst h1
    by_cases h2 : j = i
    · subst h2; simp [hk]
    · simp [hk, h2]
  · by_cases h2 : j = i
    · subst h2
      simp [hi, Ne.symm h1]
    · simp [h1, h2, Ne.symm h1, Ne.symm h2]
theorem swapL_perm {L : List Al} {i k : Nat} (hi : i < L.length) (hk : k < L.length) : (swapL L i k).Perm L := by
  have : swapL L i k = (L.set i L[k]).set k L[i] := by simp [swapL, hi, hk]
  rw [this]
  exact List.set_set_perm hi hk

def riseF : Nat → List Al → Nat → List Al
  | 0, L, _ => L
  | n + 1, L, i => if i = 0 then L else if alLt (at' L i) (at' L ((i - 1) / 2)) then riseF n (swapL L i ((i - 1) / 2)) ((i - 1) / 2) else L
def rise (L : List Al) (i : Nat) : List Al := riseF (i + 1) L i
def leastF (L : List Al) (i : Nat) : Nat :=
  let b1 := if 2 * i + 1 < L.length ∧ alLt (at' L (2 * i + 1)) (at' L i) = true then 2 * i + 1 else i
  if 2 * i + 2 < L.length ∧ alLt (at' L (2 * i + 2)) (at' L b1) = true then 2 * i + 2 else b1
def sinkF : Nat → List Al → Nat → List Al
  | 0, L, _ => L
  | n + 1, L, i => if leastF L i = i then L else sinkF n (swapL L i (leastF L i)) (leastF L i)
def sink (L : List Al) (i : Nat) : List Al := sinkF (L.length + 1) L i
def settle (L : List Al) (i : Nat) : List Al := sink (rise L i) i

theorem riseF_perm : ∀ (n : Nat) (L : List Al) (i : Nat), i < L.length → (riseF n L i).Perm L
  | 0, _, _, _ => List.Perm.refl _
  | n + 1, L, i, hi => by
    unfold riseF
    split
    · exact List.Perm.refl _
    · split
      · exact (riseF_perm n _ _ (by simp; omega)).trans (swapL_perm hi (by omega))
      · exact List.Perm.refl _
theorem leastF_lt {L : List Al} {i : Nat} (hi : i < L.length) : leastF L i < L.length := by
  unfold leastF; simp only; split <;> split <;> omega
theorem leastF_ge (L : List Al) (i : Nat) : i ≤ leastF L i := by
  unfold leastF; simp only; split <;> split <;> omega
theorem sinkF_perm : ∀ (n : Nat) (L : List Al) (i : Nat), i < L.length → (sinkF n L i).Perm L
  | 0, _, _, _ => List.Perm.refl _
  | n + 1, L, i, hi => by
    unfold sinkF
    split
    · exact List.Perm.refl _
    · exact (sinkF_perm n _ _ (by simpa using leastF_lt hi)).trans (swapL_perm hi (leastF_lt hi))
theorem rise_perm {L : List Al} {i : Nat} (hi : i < L.length) : (rise L i).Perm L := riseF_perm _ _ _ hi
theorem sink_perm {L : List Al} {i : Nat} (hi : i < L.length) : (sink L i).Perm L := sinkF_perm _ _ _ hi
theorem settle_perm {L : List Al} {i : Nat} (hi : i < L.length) : (settle L i).Perm L := (sink_perm (by rw [(rise_perm hi).length_eq]; exact hi)).trans (rise_perm hi)

/-- each is not ahead of the one above it -/
def IsHeap (L : List Al) : Prop := ∀ j, 0 < j → j < L.length → alLe (at' L ((j - 1) / 2)) (at' L j)
theorem IsHeap.root {L : List Al} (h : IsHeap L) : ∀ j, j < L.length → alLe (at' L 0) (at' L j) := by
  intro j
  induction j using Nat.strongRecOn with
  | ind j ih =>
    intro hj
    by_cases h0 : j = 0
    · subst h0; exact alLe_refl _
    · exact alLe_trans (ih _ (by omega) (by omega)) (h j (by omega) hj)
/-- a heap but for the place i and the one above it -/
def UpHeap (L : List Al) (i : Nat) : Prop := (∀ j, 0 < j → j < L.length → j ≠ i → alLe (at' L ((j - 1) / 2)) (at' L j)) ∧ (0 < i → ∀ j, 0 < j → j < L.length → (j - 1) / 2 = i → alLe (at' L ((i - 1) / 2)) (at' L j))
theorem riseF_heap : ∀ (n : Nat) (L : List Al) (i : Nat), i < n → i < L.length → UpHeap L i → IsHeap (riseF n L i)
  | 0, _, _, h, _, _ => by omega
  | n + 1, L, i, hn, hi, h => by
    unfold riseF
    by_cases h0 : i = 0
    · rw [if_pos h0]
      intro j hj hl
      exact h.1 j hj hl (by omega)
    · rw [if_neg h0]
      by_cases hlt : alLt (at' L i) (at' L ((i - 1) / 2)) = true
      · rw [if_pos hlt]
        have hu : (i - 1) / 2 < L.length := by omega
        refine riseF_heap n _ _ (by omega) (by simpa using hu) ⟨fun j hj hl hne => ?_, fun hu0 j hj hl hp => ?_⟩
        · rw [swapL_length] at hl
          rw [at'_swap hi hu, at'_swap hi hu]
          by_cases hji : j = i
          · subst hji
            rw [if_neg (by omega), if_pos rfl, if_pos rfl]
            exact alLe_of_lt hlt
          · rw [if_neg hji, if_neg hne]
            by_cases hpi : (j - 1) / 2 = i
            · rw [if_pos hpi]
              exact h.2 (by omega) j hj hl hpi
            · rw [if_neg hpi]
              by_cases hpu : (j - 1) / 2 = (i - 1) / 2
              · rw [if_pos hpu]
                have := h.1 j hj hl hji
                rw [hpu] at this
                exact alLe_trans (alLe_of_lt hlt) this
              · rw [if_neg hpu]
                exact h.1 j hj hl hji
        · rw [swapL_length] at hl
          rw [at'_swap hi hu, at'_swap hi hu, if_neg (by omega), if_neg (by omega)]
          have hup : alLe (at' L (((i - 1) / 2 - 1) / 2)) (at' L ((i - 1) / 2)) := h.1 _ hu0 hu (by omega)
          by_cases hji : j = i
          · rw [if_pos hji]; exact hup
          · rw [if_neg hji, if_neg (by omega)]
            have := h.1 j hj hl hji
            rw [hp] at this
            exact alLe_trans hup this
      · rw [if_neg hlt]
        intro j hj hl
        by_cases hji : j = i
        · subst hji
          simpa [alLe] using hlt
        · exact h.1 j hj hl hji
/-- what was put behind a heap rises to its place -/
theorem push_heap {L : List Al} (h : IsHeap L) (a : Al) : IsHeap (rise (L ++ [a]) L.length) := by
  have hat : ∀ j, j < L.length → at' (L ++ [a]) j = at' L j := fun j hj => by simp [at', List.getElem?_append, hj]
  refine riseF_heap _ _ _ (by omega) (by simp) ⟨fun j hj hl hne => ?_, fun _ j hj hl hp => ?_⟩
  · simp at hl
    rw [hat j (by omega), hat _ (by omega)]
    exact h j hj (by omega)
  · simp at hl; omega
theorem leastF_spec {L : List Al} {i : Nat} (hi : i < L.length) : (∀ j, (j = i ∨ ((j - 1) / 2 = i ∧ 0 < j)) → j < L.length → alLe (at' L (leastF L i)) (at' L j)) ∧ (leastF L i ≠ i → (leastF L i - 1) / 2 = i ∧ 0 < leastF L i ∧ alLt (at' L (leastF L i)) (at' L i) = true) := by
  have cases_j : ∀ j, ((j - 1) / 2 = i ∧ 0 < j) → j = 2 * i + 1 ∨ j = 2 * i + 2 := fun j h => by omega
  unfold leastF
  simp only
  by_cases h1 : 2 * i + 1 < L.length ∧ alLt (at' L (2 * i + 1)) (at' L i) = true
  · rw [if_pos h1]
    by_cases h2 : 2 * i + 2 < L.length ∧ alLt (at' L (2 * i + 2)) (at' L (2 * i + 1)) = true
    · rw [if_pos h2]
      refine ⟨fun j hj hl => ?_, fun _ => ⟨by omega, by omega, alLt_trans h2.2 h1.2⟩⟩
      rcases hj with rfl | hj
      · exact alLe_of_lt (alLt_trans h2.2 h1.2)
      · rcases cases_j j hj with rfl | rfl
        · exact alLe_of_lt h2.2
        · exact alLe_refl _
    · rw [if_neg h2]
      refine ⟨fun j hj hl => ?_, fun _ => ⟨by omega, by omega, h1.2⟩⟩
      rcases hj with rfl | hj
      · exact alLe_of_lt h1.2
      · rcases cases_j j hj with rfl | rfl
        · exact alLe_refl _
        · simpa [alLe, hl] using h2
  · rw [if_neg h1]
    by_cases h2 : 2 * i + 2 < L.length ∧ alLt (at' L (2 * i + 2)) (at' L i) = true
    · rw [if_pos h2]
      refine ⟨fun j hj hl => ?_, fun _ => ⟨by omega, by omega, h2.2⟩⟩
      rcases hj with rfl | hj
      · exact alLe_of_lt h2.2
      · rcases cases_j j hj with rfl | rfl
        · have h3 : alLe (at' L i) (at' L (2 * i + 1)) := by simpa [alLe, hl] using h1
          exact alLe_trans (alLe_of_lt h2.2) h3
        · exact alLe_refl _
    · rw [if_neg h2]
      refine ⟨fun j hj hl => ?_, fun h => absurd rfl h⟩
      rcases hj with rfl | hj
      · exact alLe_refl _
      · rcases cases_j j hj with rfl | rfl
        · simpa [alLe, hl] using h1
        · simpa [alLe, hl] using h2
/-- a heap but for what is right below the place i -/
def DownHeap (L : List Al) (i : Nat) : Prop := (∀ j, 0 < j → j < L.length → (j - 1) / 2 ≠ i → alLe (at' L ((j - 1) / 2)) (at' L j)) ∧ (0 < i → ∀ j, 0 < j → j < L.length → (j - 1) / 2 = i → alLe (at' L ((i - 1) / 2)) (at' L j))
theorem sinkF_heap : ∀ (n : Nat) (L : List Al) (i : Nat), L.length ≤ n + i → i < L.length → DownHeap L i → IsHeap (sinkF n L i)
  | 0, L, i, h1, h2, _ => by omega
  | n + 1, L, i, hn, hi, h => by
    obtain ⟨s1, s2⟩ := leastF_spec hi
    have s3 := leastF_lt hi
    unfold sinkF
    by_cases hk : leastF L i = i
    · rw [if_pos hk]
      rw [hk] at s1
      intro j hj hl
      by_cases hp : (j - 1) / 2 = i
      · rw [hp]; exact s1 j (.inr ⟨hp, hj⟩) hl
      · exact h.1 j hj hl hp
    · rw [if_neg hk]
      obtain ⟨hp, h0, hlt⟩ := s2 hk
      generalize leastF L i = k at *
      refine sinkF_heap n _ _ (by simp; omega) (by simpa using s3) ⟨fun j hj hl hne => ?_, fun _ j hj hl hpj => ?_⟩
      · rw [swapL_length] at hl
        rw [at'_swap hi s3, at'_swap hi s3]
        by_cases hji : j = i
        · subst hji
          rw [if_neg (by omega), if_neg (by omega), if_pos rfl]
          exact h.2 hj k h0 s3 hp
        · rw [if_neg hji]
          by_cases hjk : j = k
          · subst hjk
            rw [if_pos rfl, if_pos hp]
            exact alLe_of_lt hlt
          · rw [if_neg hjk]
            by_cases hpi : (j - 1) / 2 = i
            · rw [if_pos hpi]
              exact s1 j (.inr ⟨hpi, hj⟩) hl
            · rw [if_neg hpi, if_neg hne]
              exact h.1 j hj hl hpi
      · rw [swapL_length] at hl
        rw [at'_swap hi s3, at'_swap hi s3, hp, if_pos rfl, if_neg (by omega), if_neg (by omega)]
        have := h.1 j hj hl (by omega)
        rw [hpj] at this
        exact this
theorem heap_sink {L : List Al} {i : Nat} (hi : i < L.length) (h : IsHeap L) : sink L i = L := by
  unfold sink sinkF
  have hk : leastF L i = i := by
    obtain ⟨_, s2⟩ := leastF_spec hi
    refine Decidable.byContradiction fun hk => ?_
    obtain ⟨hp, h0, hlt⟩ := s2 hk
    have := h _ h0 (leastF_lt hi)
    rw [hp] at this
    unfold alLe at this
    rw [this] at hlt
    cases hlt
  rw [if_pos hk]
/-- a heap but for the place i -/
def ButHeap (L : List Al) (i : Nat) : Prop := (∀ j, 0 < j → j < L.length → j ≠ i → (j - 1) / 2 ≠ i → alLe (at' L ((j - 1) / 2)) (at' L j)) ∧ (0 < i → ∀ j, 0 < j → j < L.length → (j - 1) / 2 = i → alLe (at' L ((i - 1) / 2)) (at' L j))
theorem settle_heap {L : List Al} {i : Nat} (hi : i < L.length) (h : ButHeap L i) : IsHeap (settle L i) := by
  unfold settle
  by_cases hr : 0 < i ∧ alLt (at' L i) (at' L ((i - 1) / 2)) = true
  · have hh : IsHeap (rise L i) := by
      unfold rise riseF
      rw [if_neg (by omega), if_pos hr.2]
      have hu : (i - 1) / 2 < L.length := by omega
      refine riseF_heap i _ _ (by omega) (by simpa using hu) ⟨fun j hj hl hne => ?_, fun hu0 j hj hl hp => ?_⟩
      · rw [swapL_length] at hl
        rw [at'_swap hi hu, at'_swap hi hu]
        by_cases hji : j = i
        · subst hji
          rw [if_neg (by omega), if_pos rfl, if_pos rfl]
          exact alLe_of_lt hr.2
        · rw [if_neg hji, if_neg hne]
          by_cases hpi : (j - 1) / 2 = i
          · rw [if_pos hpi]
            exact h.2 (by omega) j hj hl hpi
          · rw [if_neg hpi]
            by_cases hpu : (j - 1) / 2 = (i - 1) / 2
            · rw [if_pos hpu]
              have := h.1 j hj hl hji hpi
              rw [hpu] at this
              exact alLe_trans (alLe_of_lt hr.2) this
            · rw [if_neg hpu]
              exact h.1 j hj hl hji hpi
      · rw [swapL_length] at hl
        rw [at'_swap hi hu, at'_swap hi hu, if_neg (by omega), if_neg (by omega)]
        have hup : alLe (at' L (((i - 1) / 2 - 1) / 2)) (at' L ((i - 1) / 2)) := h.1 _ hu0 hu (by omega) (by omega)
        by_cases hji : j = i
        · rw [if_pos hji]; exact hup
        · rw [if_neg hji, if_neg (by omega)]
          have := h.1 j hj hl hji (by omega)
          rw [hp] at this
          exact alLe_trans hup this
    rw [heap_sink (by rw [(rise_perm hi).length_eq]; exact hi) hh]
    exact hh
  · have hr' : rise L i = L := by
      unfold rise riseF
      by_cases h0 : i = 0
      · rw [if_pos h0]
      · rw [if_neg h0, if_neg (fun e => hr ⟨by omega, e⟩)]
    rw [hr']
    refine sinkF_heap _ _ _ (by omega) hi ⟨fun j hj hl hne => ?_, h.2⟩
    by_cases hji : j = i
    · subst hji
      have : ¬ alLt (at' L j) (at' L ((j - 1) / 2)) = true := fun e => hr ⟨hj, e⟩
      simpa [alLe] using this
    · exact h.1 j hj hl hji hne
/-- the place i is taken out -/
def takeOut (L : List Al) (i : Nat) : List Al :=
  let M := (swapL L i (L.length - 1)).take (L.length - 1)
  if i < L.length - 1 then settle M i else M
theorem takeOut_perm {L : List Al} {i : Nat} (hi : i < L.length) : (at' L i :: takeOut L i).Perm L := by
  have hl : L.length - 1 < L.length := by omega
  have h1 : swapL L i (L.length - 1) = (swapL L i (L.length - 1)).take (L.length - 1) ++ [at' L i] := by
    apply List.ext_getElem?
    intro j
    rw [List.getElem?_append]
    simp only [List.length_take, swapL_length, Nat.min_eq_left (Nat.sub_le _ _)]
    by_cases hj : j < L.length - 1
    · rw [if_pos hj, List.getElem?_take_of_lt hj]
    · rw [if_neg hj]
      by_cases hje : j = L.length - 1
      · subst hje
        have := at'_swap hi hl (L.length - 1)
        unfold at' at this
        rw [if_pos rfl] at this
        have hb : L.length - 1 < (swapL L i (L.length - 1)).length := by simpa using hl
        rw [List.getElem?_eq_getElem hb] at this ⊢
        simp only [Option.getD_some] at this
        rw [this]
        simp only [Nat.sub_self, List.getElem?_cons_zero]
        unfold at'
        split
        · rename_i e; rw [e]
        · rfl
      · rw [List.getElem?_eq_none (by simp; omega), List.getElem?_eq_none (by simp; omega)]
  have h2 : (at' L i :: (swapL L i (L.length - 1)).take (L.length - 1)).Perm L := by
    refine List.Perm.trans ?_ (swapL_perm hi hl)
    conv => rhs; rw [h1]
    exact (List.perm_append_singleton _ _).symm
  unfold takeOut
  simp only
  split
  · rename_i hlt
    exact ((settle_perm (by simp; omega)).cons _).trans h2
  · exact h2
theorem takeOut_heap {L : List Al} {i : Nat} (hi : i < L.length) (h : IsHeap L) : IsHeap (takeOut L i) := by
  have hl : L.length - 1 < L.length := by omega
  have hat : ∀ j, j < L.length - 1 → at' ((swapL L i (L.length - 1)).take (L.length - 1)) j = if j = i then at' L (L.length - 1) else at' L j := fun j hj => by
    have h1 : at' ((swapL L i (L.length - 1)).take (L.length - 1)) j = at' (swapL L i (L.length - 1)) j := by
      unfold at'; rw [List.getElem?_take_of_lt hj]
    rw [h1, at'_swap hi hl]
    by_cases hji : j = i
    · rw [if_pos hji, if_pos hji]
    · rw [if_neg hji, if_neg hji, if_neg (by omega)]
  have hlen : ((swapL L i (L.length - 1)).take (L.length - 1)).length = L.length - 1 := by simp
  unfold takeOut
  simp only
  split
  · rename_i hlt
    refine settle_heap (by omega) ⟨fun j hj hjl hne hpe => ?_, fun h0 j hj hjl hp => ?_⟩
    · rw [hlen] at hjl
      rw [hat j hjl, hat _ (by omega), if_neg hne, if_neg hpe]
      exact h j hj (by omega)
    · rw [hlen] at hjl
      rw [hat j hjl, hat _ (by omega), if_neg (by omega), if_neg (by omega)]
      have h1 := h j hj (by omega)
      rw [hp] at h1
      exact alLe_trans (h i h0 hi) h1
  · intro j hj hjl
    rw [hlen] at hjl
    rw [hat j hjl, hat _ (by omega), if_neg (by omega), if_neg (by omega)]
    exact h j hj (by omega)
end Go.Proofs.Ytggpmepiggnnnaa
