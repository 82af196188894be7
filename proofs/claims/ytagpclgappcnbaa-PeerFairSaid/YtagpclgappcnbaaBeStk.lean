import Derived.Test.YtagpclgappcnbaaBeSeq
namespace Go.Proofs.Ytagpclgappcnbaa.Be

/-! ### the weight of some (plain) -/
def wtA (l : List Vd) (v : Int) : Int := (l.getD v.toNat ⟨ByteArray.empty, 0⟩).wt
def stkF (l : List Vd) : List Int → Int
  | [] => 0
  | v :: r => wtA l v + stkF l r
def stkI (l : List Vd) (s : List St) (now : Int) : Int := if chk l = 0 ∧ s.length = l.length then stkF l (blL s now) else 0
theorem stkF_app (l : List Vd) : ∀ a b, stkF l (a ++ b) = stkF l a + stkF l b := by
  intro a
  induction a with
  | nil => intro b; simp [stkF]
  | cons x a ih => intro b; simp only [List.cons_append, stkF, ih]; omega
theorem wtA_pos {l : List Vd} (h : ∀ x ∈ l, 1 ≤ x.wt) (v : Int) : 0 ≤ wtA l v := by
  unfold wtA
  by_cases hk : v.toNat < l.length
  · have : l.getD v.toNat ⟨ByteArray.empty, 0⟩ = l[v.toNat] := by simp [List.getD, hk]
    rw [this]; have := h _ (List.getElem_mem hk); omega
  · have : l.getD v.toNat ⟨ByteArray.empty, 0⟩ = ⟨ByteArray.empty, 0⟩ := by simp [List.getD, hk]
    rw [this]; exact Int.le_refl _
theorem stkF_pos {l : List Vd} (h : ∀ x ∈ l, 1 ≤ x.wt) : ∀ a, 0 ≤ stkF l a := by
  intro a
  induction a with
  | nil => exact Int.le_refl _
  | cons x a ih => have := wtA_pos h x; simp only [stkF]; omega
theorem stkF_pre {l : List Vd} (h : ∀ x ∈ l, 1 ≤ x.wt) {a b : List Int} (hp : a <+: b) : stkF l a ≤ stkF l b := by
  obtain ⟨c, rfl⟩ := hp
  have := stkF_pos h c
  rw [stkF_app]; omega
theorem blF_mem (now : Int) : ∀ (r : List St) (i : Nat) (x : Int), x ∈ blF now r i → ∃ k : Nat, x = k ∧ i ≤ k ∧ k < i + r.length := by
  intro r
  induction r with
  | nil => intro i x h; simp [blF] at h
  | cons y r ih =>
    intro i x h
    rw [blF_cons] at h
    have rest : x ∈ blF now r (i + 1) → ∃ k : Nat, x = k ∧ i ≤ k ∧ k < i + (y :: r).length := fun h => by
      obtain ⟨k, e, h1, h2⟩ := ih _ _ h
      exact ⟨k, e, by omega, by simp; omega⟩
    split at h
    · rcases List.mem_cons.1 h with rfl | h
      · exact ⟨i, rfl, Nat.le_refl _, by simp⟩
      · exact rest h
    · exact rest h
theorem stkF_blF {l : List Vd} (now : Int) (h : ∀ x ∈ l, 1 ≤ x.wt) : ∀ (r : List St) (i : Nat), i + r.length = l.length → stkF l (blF now r i) ≤ sumW (l.drop i) := by
  intro r
  induction r with
  | nil => intro i hi; simp only [blF, stkF]; exact sumW_drop l i h
  | cons y r ih =>
    intro i hi
    have hlt : i < l.length := by simp at hi; omega
    have h1 := ih (i + 1) (by simp at hi; omega)
    have hg : wtA l (i : Int) = l[i].wt := by unfold wtA; simp [List.getD, hlt]
    have hw := h _ (List.getElem_mem hlt)
    rw [blF_cons, List.drop_eq_getElem_cons hlt]
    split
    · simp only [stkF, sumW]; omega
    · simp only [sumW]; omega
theorem stkF_le {l : List Vd} {s : List St} {now : Int} (h : ∀ x ∈ l, 1 ≤ x.wt) (hl : s.length = l.length) {a : List Int} (hp : a <+: blL s now) : stkF l a ≤ sumW l := by
  have h1 := stkF_pre h hp
  have h2 := stkF_blF now h s 0 (by simpa using hl)
  rw [List.drop_zero] at h2
  exact Int.le_trans h1 h2
end Go.Proofs.Ytagpclgappcnbaa.Be
