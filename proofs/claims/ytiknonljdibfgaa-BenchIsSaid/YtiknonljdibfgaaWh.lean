import Derived.Test.YtiknonljdibfgaaNext
import Derived.Test.YtiknonljdibfgaaShr
import Derived.Test.YtiknonljdibfgaaTold
namespace Go.Proofs.Ytiknonljdibfgaa
open Go.RowKit

/-! ### plain: up to when -/
theorem nx_fold (s : List St) : ∀ (l : List Int) (n : Int), 0 ≤ n → (∀ v ∈ l, 0 < untA s v) → (l = [] ∧ l.foldl (nxS s) n = n) ∨ (l ≠ [] ∧ 0 < l.foldl (nxS s) n ∧ (l.foldl (nxS s) n = n ∨ ∃ v ∈ l, l.foldl (nxS s) n = untA s v) ∧ (0 < n → l.foldl (nxS s) n ≤ n) ∧ ∀ v ∈ l, l.foldl (nxS s) n ≤ untA s v) := by
  intro l
  induction l with
  | nil => intro n _ _; exact .inl ⟨rfl, rfl⟩
  | cons x l ih =>
    intro n hn hp
    right
    have hx := hp x (by simp)
    have hs : nxS s n x = n ∧ 0 < n ∧ n ≤ untA s x ∨ nxS s n x = untA s x ∧ (0 < n → untA s x ≤ n) := by
      unfold nxS
      split
      · right; refine ⟨rfl, fun h => ?_⟩; omega
      · left; omega
    have h0 : 0 ≤ nxS s n x := by rcases hs with h | h <;> omega
    refine ⟨by simp, ?_⟩
    rw [List.foldl_cons]
    rcases ih (nxS s n x) h0 (fun v hv => hp v (by simp [hv])) with ⟨rfl, h⟩ | ⟨hne, g1, g2, g3, g4⟩
    · rw [h]
      refine ⟨by rcases hs with h | h <;> omega, ?_, by intro hh; rcases hs with h | h <;> omega, fun v hv => ?_⟩
      · rcases hs with h | h
        · exact .inl h.1
        · exact .inr ⟨x, by simp, h.1⟩
      · simp at hv; subst hv; rcases hs with h | h <;> omega
    · have hpos : 0 < nxS s n x := by rcases hs with h | h <;> omega
      have h3 := g3 hpos
      refine ⟨g1, ?_, ?_, fun v hv => ?_⟩
      · rcases g2 with e | ⟨v, hv, e⟩
        · rcases hs with h | h
          · exact .inl (e.trans h.1)
          · exact .inr ⟨x, by simp, e.trans h.1⟩
        · exact .inr ⟨v, by simp [hv], e⟩
      · intro hh; rcases hs with h | h <;> omega
      · rcases List.mem_cons.1 hv with rfl | hv
        · rcases hs with h | h <;> omega
        · exact g4 v hv
theorem bl_mem {now : Int} : ∀ (r : List St) (i : Nat) (x : Int), x ∈ blF now r i ↔ ∃ k : Nat, ∃ h : k < r.length, x = ((i + k : Nat) : Int) ∧ 0 ≤ now ∧ now < r[k].u := by
  intro r
  induction r with
  | nil => intro i x; simp [blF]
  | cons y r ih =>
    intro i x
    rw [blF_cons]
    constructor
    · intro h
      have rest : x ∈ blF now r (i + 1) → ∃ k : Nat, ∃ h : k < (y :: r).length, x = ((i + k : Nat) : Int) ∧ 0 ≤ now ∧ now < (y :: r)[k].u := fun h => by
        obtain ⟨k, hk, e, h1, h2⟩ := (ih (i + 1) x).1 h
        exact ⟨k + 1, by simpa using hk, by rw [e]; congr 1; omega, h1, by simpa using h2⟩
      split at h
      · rename_i hc
        rcases List.mem_cons.1 h with rfl | h
        · exact ⟨0, by simp, rfl, hc.1, hc.2⟩
        · exact rest h
      · exact rest h
    · rintro ⟨k, hk, e, h1, h2⟩
      cases k with
      | zero =>
        simp only [List.getElem_cons_zero] at h2
        rw [if_pos ⟨h1, h2⟩, e]; simp
      | succ k =>
        have : x ∈ blF now r (i + 1) := (ih (i + 1) x).2 ⟨k, by simpa using hk, by rw [e]; congr 1; omega, h1, by simpa using h2⟩
        split
        · simp [this]
        · exact this
theorem bl_sub {now n : Int} (h0 : 0 ≤ now) (hn : now ≤ n) : ∀ (r : List St) (i : Nat), (blF n r i).Sublist (blF now r i) := by
  intro r
  induction r with
  | nil => intro i; exact List.Sublist.refl _
  | cons y r ih =>
    intro i
    rw [blF_cons, blF_cons]
    by_cases h : 0 ≤ n ∧ n < y.u
    · rw [if_pos h, if_pos ⟨h0, by omega⟩]
      exact (ih (i + 1)).cons_cons _
    · rw [if_neg h]
      split
      · exact (ih (i + 1)).cons _
      · exact ih (i + 1)
theorem bl_eq {now m : Int} (h0 : 0 ≤ now) (hn : now ≤ m) : ∀ (r : List St) (i : Nat), (∀ x ∈ r, now < x.u → m < x.u) → blF m r i = blF now r i := by
  intro r
  induction r with
  | nil => intro i _; rfl
  | cons y r ih =>
    intro i hh
    rw [blF_cons, blF_cons, ih (i + 1) (fun x hx => hh x (by simp [hx]))]
    by_cases h : now < y.u
    · have := hh y (by simp) h
      rw [if_pos ⟨by omega, this⟩, if_pos ⟨h0, h⟩]
    · rw [if_neg (by omega), if_neg (by omega)]
theorem sub_less {l : List Vd} (hw : ∀ x ∈ l, 1 ≤ x.wt) {a b : List Int} (h : a.Sublist b) : (a.length ≤ b.length ∧ stkF l a ≤ stkF l b) ∧ ∀ x ∈ b, x ∉ a → a.length < b.length ∧ stkF l a + wtA l x ≤ stkF l b := by
  induction h with
  | slnil => exact ⟨⟨Nat.le_refl _, Int.le_refl _⟩, fun x hx => by simp at hx⟩
  | cons y h ih =>
    have hy := wtA_pos hw y
    refine ⟨⟨by simp; omega, by simp only [stkF]; omega⟩, fun x hx hxa => ?_⟩
    rcases List.mem_cons.1 hx with rfl | hx
    · exact ⟨by simp; omega, by simp only [stkF]; omega⟩
    · have := ih.2 x hx hxa
      exact ⟨by simp; omega, by simp only [stkF]; omega⟩
  | cons_cons y h ih =>
    refine ⟨⟨by simp; omega, by simp only [stkF]; omega⟩, fun x hx hxa => ?_⟩
    simp only [List.mem_cons, not_or] at hxa
    rcases List.mem_cons.1 hx with rfl | hx
    · exact absurd rfl hxa.1
    · have := ih.2 x hx hxa.2
      exact ⟨by simp; omega, by simp only [stkF]; omega⟩
theorem untA_at {s : List St} {k : Nat} (h : k < s.length) : untA s (k : Int) = s[k].u := by unfold untA; simp [List.getD, h]
/-- what is told of the time that Next tells -/
theorem while_all {r : Rul} {l : List Vd} {s : List St} (hm : mayE r l s = 0) (now : Int) : (nxF s (blL s now) = 0 → blL s now = [] ∧ stkI l s now = 0) ∧
    (nxF s (blL s now) ≠ 0 → now < nxF s (blL s now) ∧ 0 ≤ now ∧ nxF s (blL s now) ≤ 4611686018427387903 ∧ blL s now ≠ [] ∧ blL s (nxF s (blL s now) - 1) = blL s now ∧ (∀ x ∈ blL s (nxF s (blL s now)), x ∈ blL s now) ∧
      (blL s (nxF s (blL s now))).length < (blL s now).length ∧ stkI l s (nxF s (blL s now)) < stkI l s now) := by
  obtain ⟨_, hc, hl, _⟩ := mayE_0 hm
  obtain ⟨_, _, _, hw⟩ := chk_32 hc
  obtain ⟨_, _, s2⟩ := wtsF_sum _ _ hw (by decide)
  have hmem : ∀ x ∈ blL s now, ∃ k : Nat, ∃ h : k < s.length, x = (k : Int) ∧ 0 ≤ now ∧ now < s[k].u := fun x hx => by
    obtain ⟨k, hk, e, h1, h2⟩ := (bl_mem s 0 x).1 hx
    exact ⟨k, hk, by rw [e, Nat.zero_add], h1, h2⟩
  have hpos : ∀ v ∈ blL s now, 0 < untA s v := fun v hv => by
    obtain ⟨k, hk, rfl, h1, h2⟩ := hmem v hv
    rw [untA_at hk]; omega
  have hs : ∀ n, stkI l s n = stkF l (blL s n) := fun n => if_pos ⟨hc, hl⟩
  rcases nx_fold s (blL s now) 0 (Int.le_refl _) hpos with ⟨he, h⟩ | ⟨hne, g1, g2, g3, g4⟩
  · refine ⟨fun _ => ⟨he, by rw [hs, he]; rfl⟩, fun h' => absurd h h'⟩
  · have hnx : nxF s (blL s now) = (blL s now).foldl (nxS s) 0 := rfl
    rw [← hnx] at g1 g2 g4
    generalize nxF s (blL s now) = n at *
    refine ⟨fun h => by omega, fun _ => ?_⟩
    obtain ⟨v, hv, e⟩ : ∃ v ∈ blL s now, n = untA s v := by
      rcases g2 with h | h
      · omega
      · exact h
    obtain ⟨k, hk, rfl, hn0, hlt⟩ := hmem v hv
    rw [untA_at hk] at e
    have hmx := mayB_n (mayE_at hm hk)
    have hsub := bl_sub hn0 (show now ≤ n by omega) s 0
    have hnot : ((k : Nat) : Int) ∉ blL s n := fun hx => by
      obtain ⟨k', hk', e', _, h2⟩ := (bl_mem s 0 _).1 hx
      have : k' = k := by omega
      subst this
      omega
    have hless := (sub_less s2 hsub).2 _ hv hnot
    have hwt : 1 ≤ wtA l (k : Int) := by
      have hkl : k < l.length := by omega
      have hg : wtA l (k : Int) = l[k].wt := by unfold wtA; simp [List.getD, hkl]
      rw [hg]; exact s2 _ (List.getElem_mem hkl)
    refine ⟨by omega, hn0, by omega, hne, ?_, fun x hx => hsub.subset hx, hless.1, ?_⟩
    · refine bl_eq hn0 (by omega) s 0 (fun x hx hxu => ?_)
      obtain ⟨j, hj, rfl⟩ := List.getElem_of_mem hx
      have hj2 : ((j : Nat) : Int) ∈ blL s now := (bl_mem s 0 _).2 ⟨j, hj, by simp, hn0, hxu⟩
      have := g4 _ hj2
      rw [untA_at hj] at this
      omega
    · rw [hs, hs]
      have h2 : stkF l (blL s n) + wtA l (k : Int) ≤ stkF l (blL s now) := hless.2
      omega
end Go.Proofs.Ytiknonljdibfgaa
