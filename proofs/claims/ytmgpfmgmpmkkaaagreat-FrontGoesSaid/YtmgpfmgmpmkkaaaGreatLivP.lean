import Derived.Test.YtmgpfmgmpmkkaaaGreatStke
namespace Go.Proofs.YtmgpfmgmpmkkaaaGreat
open Go.RowKit Go.Shelf Go.Sort

/-! ### the chapter's example, in plain words -/
theorem compact_asc : ∀ {zs : List Int}, zs.Pairwise (· ≤ ·) → (Lib.compact zs).Pairwise (· < ·) ∧ ∀ x, x ∈ Lib.compact zs ↔ x ∈ zs := by
  intro zs h
  have hg : ∀ i (hi : i < zs.length), zs.toArray[i]! = zs[i] := fun i hi => by simp [hi]
  have hp := List.pairwise_iff_getElem.1 h
  unfold Lib.compact Lib.compactUpTo
  refine ⟨?_, fun x => ?_⟩
  · rw [List.pairwise_map]
    refine List.Pairwise.imp_of_mem ?_ (List.pairwise_lt_range.filter (p := Lib.keeps zs.toArray))
    intro i j hi hj hij
    rw [List.mem_filter, List.mem_range] at hi hj
    have hk := hj.2
    unfold Lib.keeps at hk
    have h1 : zs.toArray[j]! ≠ zs.toArray[j - 1]! := by
      intro e
      rw [e] at hk
      simp at hk
      omega
    rw [hg j hj.1, hg (j - 1) (by omega)] at h1
    rw [hg i hi.1, hg j hj.1]
    have h2 := hp (j - 1) j (by omega) hj.1 (by omega)
    by_cases e : i = j - 1
    · subst e; omega
    · have h3 := hp i (j - 1) hi.1 (by omega) (by omega)
      omega
  · rw [List.mem_map]
    constructor
    · rintro ⟨i, hi, rfl⟩
      rw [List.mem_filter, List.mem_range] at hi
      rw [hg i hi.1]
      exact List.getElem_mem _
    · intro hx
      obtain ⟨i, hi, rfl⟩ := List.getElem_of_mem hx
      clear hx
      induction i with
      | zero => exact ⟨0, by rw [List.mem_filter, List.mem_range]; exact ⟨hi, Lib.keeps_lt_one _ 0 (by omega)⟩, hg 0 hi⟩
      | succ i ih =>
        by_cases e : zs.toArray[i + 1]! = zs.toArray[i + 1 - 1]!
        · obtain ⟨j, hj, e2⟩ := ih (by omega)
          refine ⟨j, hj, ?_⟩
          rw [e2]
          rw [hg (i + 1) hi, hg (i + 1 - 1) (by omega)] at e
          exact e.symm
        · exact ⟨i + 1, by rw [List.mem_filter, List.mem_range]; exact ⟨hi, Lib.keeps_pos e⟩, hg (i + 1) hi⟩
theorem openOf_spec (zs : List Int) : (openOf zs).Pairwise (· < ·) ∧ ∀ x, x ∈ openOf zs ↔ x ∈ zs := by
  have h1 := List.pairwise_mergeSort (le := fun x y : Int => decide (x ≤ y)) (fun a b c h1 h2 => by simp at *; omega) (fun a b => by simp; omega) zs
  obtain ⟨h2, h3⟩ := compact_asc (h1.imp fun h => by simpa using h)
  exact ⟨h2, fun x => (h3 x).trans (List.mergeSort_perm _ _).mem_iff⟩
theorem ascI_uniq {l l' : List Int} (h : l.Pairwise (· < ·)) (h' : l'.Pairwise (· < ·)) (e : ∀ x, x ∈ l ↔ x ∈ l') : l = l' := asc_uniq (fun a b h1 h2 => by omega) h h' e
theorem sortS_asc {l : List SaidM} (h : AscS l) : sortS l = l := ascS_uniq (sortS_lt (ascS_nodup h)) h fun x => (sortS_perm l).mem_iff
theorem sortI_asc {l : List ID} (h : risB l = true) : sortI l = l := ris_uniq (risB_iff.2 (sortI_lt (ris_nodup h))) h fun x => (sortI_perm l).mem_iff
def bID (n : UInt8) : ID := ⟨n :: List.replicate 31 0, rfl⟩
def V3 : List Vd := [⟨{ data := #[97] }, 1⟩, ⟨{ data := #[98] }, 2⟩, ⟨{ data := #[99] }, 3⟩]
def F0 : FrM := ⟨1, [0, 2], [], []⟩
def F1 : FrM := ⟨1, [2], [bID 1], []⟩
def F2 : FrM := ⟨2, [0, 1, 2], [bID 1], []⟩
def F3 : FrM := ⟨2, [0, 2], [bID 1], [⟨1, [bID 1]⟩]⟩
def F4 : FrM := ⟨2, [0], [bID 1], [⟨1, [bID 1]⟩, ⟨2, [bID 1]⟩]⟩
def F5 : FrM := ⟨3, [], [bID 1], [⟨1, [bID 1]⟩, ⟨2, [bID 1]⟩]⟩
theorem chk3 : chk V3 = 0 := by kernel_rfl
theorem l_new : newR V3 [2, 2, 0] = (F0, 0) := by
  have ho : openOf [2, 2, 0] = [0, 2] := ascI_uniq (openOf_spec _).1 (by decide) fun x => by rw [(openOf_spec _).2]; simp; omega
  unfold newR
  rw [chk3, if_neg (by decide), ho, if_neg (by decide)]
  rfl
theorem may0 : mayB V3 F0 = true := by unfold mayB; rw [chk3]; decide
theorem may1 : mayB V3 F1 = true := by unfold mayB; rw [chk3]; decide
theorem may2 : mayB V3 F2 = true := by unfold mayB; rw [chk3]; decide
theorem may3 : mayB V3 F3 = true := by unfold mayB; rw [chk3]; decide
theorem may4 : mayB V3 F4 = true := by unfold mayB; rw [chk3]; decide
theorem may5 : mayB V3 F5 = true := by unfold mayB; rw [chk3]; decide
theorem l_tip : tipR V3 F0 0 (bID 1) = (F1, 0) := by
  have ha : asksE V3 F0 1 0 = 0 := by unfold asksE; rw [if_pos may0]; decide
  have hs : addT [] (bID 1) = [bID 1] := by unfold addT; rw [if_neg (by simp)]; exact sortI_asc (by decide)
  unfold tipR tipM
  rw [ha, if_neg (by decide), if_neg (by decide)]
  show (closedM 3 { F0 with tips := addT [] (bID 1) } 0, (0 : Int)) = _
  rw [hs]
  rfl
theorem l_fail : failR V3 F1 2 = (F2, 0) := by
  have ha : asksE V3 F1 0 2 = 0 := by unfold asksE; rw [if_pos may1]; decide
  unfold failR
  rw [ha, if_neg (by decide)]
  rfl
theorem l_acc : accR V3 F2 1 [bID 1] = (F3, 0) := by
  have ha : asksE V3 F2 2 1 = 0 := by unfold asksE; rw [if_pos may2]; decide
  have hs : addS F2 1 [bID 1] = [⟨1, [bID 1]⟩] := by unfold addS; exact sortS_asc (by simp [AscS, F2])
  unfold accR accM
  rw [ha, if_neg (by decide), hs]
  rfl
theorem l_acc2 : accR V3 F3 2 [bID 1, bID 2] = (F4, 0) := by
  have ha : asksE V3 F3 2 2 = 0 := by unfold asksE; rw [if_pos may3]; decide
  have hs : addS F3 2 [bID 1, bID 2] = [⟨1, [bID 1]⟩, ⟨2, [bID 1]⟩] := by unfold addS; exact sortS_asc (by simp [AscS, F3])
  unfold accR accM
  rw [ha, if_neg (by decide), hs]
  rfl
theorem l_fail2 : failR V3 F4 0 = (F5, 0) := by
  have ha : asksE V3 F4 0 0 = 0 := by unfold asksE; rw [if_pos may4]; decide
  unfold failR
  rw [ha, if_neg (by decide)]
  rfl
theorem l_stake : stake V3 F5 (bID 1) = 5 := by
  unfold stake
  rw [if_pos may5]
  decide
end Go.Proofs.YtmgpfmgmpmkkaaaGreat
