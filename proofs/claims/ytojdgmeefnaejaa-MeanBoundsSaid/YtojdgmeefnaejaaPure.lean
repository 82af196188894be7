import Derived.Test.YtojdgmeefnaejaaAll
namespace Go.Proofs.Ytojdgmeefnaejaa
open Go.RowKit

theorem obs_keeps {r : RuleD} {m : MeanD} {took now : Int} (hm : MeanOk r m) (h : m.at_ ≤ now) (h2 : now ≤ 4611686018427387903) : MeanOk r ⟨obsV r m took now, now⟩ := by
  have hb := obs_bd (took := took) hm h
  obtain ⟨hr, g1, g2, g3, g4⟩ := hm
  exact ⟨hr, hb.2.2.2.2.2.2.1, hb.2.2.2.2.2.2.2, by simp only; omega, h2⟩
theorem obs_between {r : RuleD} {m : MeanD} {took now : Int} (hm : MeanOk r m) (h : m.at_ ≤ now) :
    min (16 * clip 0 took r.max) m.value ≤ obsV r m took now ∧ obsV r m took now ≤ max (16 * clip 0 took r.max) m.value ∧ (16 * clip 0 took r.max = m.value → obsV r m took now = m.value) ∧ (r.half ≤ now - m.at_ → obsV r m took now = 16 * clip 0 took r.max) := by
  have hb := obs_bd (took := took) hm h
  obtain ⟨⟨h1, h2, h3, h4, h5, h6, h7, h8⟩, g1, g2, g3, g4⟩ := hm
  have hD : obsD r m took = 16 * clip 0 took r.max - m.value := rfl
  have hV : obsV r m took now = m.value + obsW r m now * obsD r m took / (r.half + 1) := rfl
  have hW : r.half ≤ now - m.at_ → obsW r m now = r.half + 1 := by intro hh; unfold obsW; omega
  have hz : obsD r m took = 0 → obsW r m now * obsD r m took / (r.half + 1) = 0 := by intro hh; rw [hh, Int.mul_zero, Int.zero_ediv]
  have hf : r.half ≤ now - m.at_ → obsW r m now * obsD r m took / (r.half + 1) = obsD r m took := by
    intro hh; rw [hW hh, Int.mul_ediv_cancel_left _ (by omega)]
  by_cases hd : 0 ≤ obsD r m took
  · have := floor_pos (w := obsW r m now) (y := r.half + 1) (by omega) hb.2.1 (by omega) hd
    refine ⟨by omega, by omega, fun e => ?_, fun e => ?_⟩
    · have := hz (by omega); omega
    · have := hf e; omega
  · have := floor_neg (w := obsW r m now) (y := r.half + 1) (by omega) hb.2.1 (by omega) (by omega : obsD r m took ≤ 0)
    refine ⟨by omega, by omega, fun e => ?_, fun e => ?_⟩
    · have := hz (by omega); omega
    · have := hf e; omega
theorem clip_mono {a n m b : Int} (hab : a ≤ b) (h : n ≤ m) : clip a n b ≤ clip a m b := by unfold clip; split <;> (try split) <;> (try split) <;> (try split) <;> omega
theorem obs_mono_took {r : RuleD} {m : MeanD} {x y now : Int} (hm : MeanOk r m) (h : m.at_ ≤ now) (hxy : x ≤ y) : obsV r m x now ≤ obsV r m y now := by
  have hb := obs_bd (took := x) hm h
  obtain ⟨⟨h1, h2, h3, h4, h5, h6, h7, h8⟩, g1, g2, g3, g4⟩ := hm
  have hc := clip_mono (a := 0) (b := r.max) (by omega) hxy
  unfold obsV obsD
  have := Int.ediv_le_ediv (c := r.half + 1) (by omega) (Int.mul_le_mul_of_nonneg_left (show 16 * clip 0 x r.max - m.value ≤ 16 * clip 0 y r.max - m.value by omega) (show 0 ≤ obsW r m now by omega))
  omega
theorem obs_mono_value {r : RuleD} {a b : MeanD} {x now : Int} (hm : MeanOk r a) (hat : a.at_ = b.at_) (h : a.at_ ≤ now) (hv : a.value ≤ b.value) : obsV r a x now ≤ obsV r b x now := by
  have hb := obs_bd (took := x) hm h
  obtain ⟨⟨h1, h2, h3, h4, h5, h6, h7, h8⟩, g1, g2, g3, g4⟩ := hm
  have hw : obsW r b now = obsW r a now := by unfold obsW; rw [hat]
  unfold obsV obsD
  rw [hw]
  generalize obsW r a now = W at *
  have k1 : W * (b.value - a.value) ≤ (r.half + 1) * (b.value - a.value) := Int.mul_le_mul_of_nonneg_right (by omega) (by omega)
  have k2 : W * (16 * clip 0 x r.max - a.value) ≤ W * (16 * clip 0 x r.max - b.value) + (r.half + 1) * (b.value - a.value) := by
    rw [show 16 * clip 0 x r.max - a.value = (16 * clip 0 x r.max - b.value) + (b.value - a.value) from by omega, Int.mul_add]
    omega
  have k3 := Int.ediv_le_ediv (c := r.half + 1) (by omega) k2
  rw [Int.add_mul_ediv_left _ _ (by omega)] at k3
  omega
theorem tmo_mono {r : RuleD} {a b : MeanD} (ha : MeanOk r a) (hb : MeanOk r b) (h : a.value ≤ b.value) : tmoR r a ≤ tmoR r b := by
  unfold tmoR
  rw [if_pos ha, if_pos hb]
  obtain ⟨⟨h1, h2, h3, h4, h5, h6, h7, h8⟩, g1, g2, g3, g4⟩ := ha
  have := Int.mul_le_mul_of_nonneg_right h (show 0 ≤ r.quart by omega)
  unfold tmoV
  exact clip_mono (by omega) (by omega)
theorem tmo_bd {r : RuleD} {m : MeanD} (h : MeanOk r m) : r.min ≤ tmoR r m ∧ tmoR r m ≤ r.max := by
  unfold tmoR
  rw [if_pos h]
  obtain ⟨⟨h1, h2, h3, h4, h5, h6, h7, h8⟩, _⟩ := h
  exact clip_bd _ _ _ (by omega)
theorem new_keeps {r : RuleD} {now : Int} (h : RuleOk r) (h1 : 0 ≤ now) (h2 : now ≤ 4611686018427387903) : MeanOk r ⟨newV r, now⟩ := ⟨h, (newV_bd h).1, (newV_bd h).2, h1, h2⟩
theorem new_first {r : RuleD} {now : Int} (h : RuleOk r) (h1 : 0 ≤ now) (h2 : now ≤ 4611686018427387903) (hv : newV r < 16 * r.max) : r.first ≤ tmoR r ⟨newV r, now⟩ := by
  have hi := (newV_iff h (newV r) (newV_bd h).1 hv).2 (Int.le_refl _)
  unfold tmoR
  rw [if_pos (new_keeps h h1 h2)]
  obtain ⟨h1, h2, h3, h4, h5, h6, h7, h8⟩ := h
  unfold tmoV clip
  simp only
  split
  · omega
  · split <;> omega
theorem all_keeps {r : RuleD} {L : Nat → MeanD} : ∀ (k i : Nat) (m : MeanD), MeanOk r m → MeanOk r (allR r L k i m).1 ∧ i ≤ (allR r L k i m).2.1 ∧ (allR r L k i m).2.1 ≤ i + k
  | 0, i, m, h => ⟨h, Nat.le_refl _, Nat.le_refl _⟩
  | k + 1, i, m, h => by
    unfold allR
    split
    · rename_i he
      have hk : MeanOk r (obsR r m (L i).value (L i).at_).1 := by
        unfold obsR at he ⊢
        rw [if_pos h] at he ⊢
        by_cases hn : m.at_ ≤ (L i).at_ ∧ (L i).at_ ≤ 4611686018427387903
        · rw [if_pos hn]
          exact obs_keeps h hn.1 hn.2
        · rw [if_neg hn] at he
          simp at he
      have ih := all_keeps (r := r) (L := L) k (i + 1) _ hk
      exact ⟨ih.1, by omega, by omega⟩
    · exact ⟨h, Nat.le_refl _, by simp only; omega⟩
end Go.Proofs.Ytojdgmeefnaejaa
