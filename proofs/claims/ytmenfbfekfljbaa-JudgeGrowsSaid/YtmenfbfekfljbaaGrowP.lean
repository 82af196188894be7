import Derived.Test.YtmenfbfekfljbaaVotP
import Derived.Test.YtmenfbfekfljbaaAgree
namespace Go.Proofs.Ytmenfbfekfljbaa
open Go.RowKit

/-! ### of more facts behind them -/
theorem lineM_append (xs ys : List FactD) (node : Int) : lineM (xs ++ ys) node = lineM xs node ++ lineM ys node := by
  unfold lineM
  rw [List.filter_append, List.map_append]
theorem parM_append (xs ys : List FactD) (a : ID) : parM (xs ++ ys) a = (parM xs a).or (parM ys a) := by
  unfold parM
  rw [List.find?_append]
  cases xs.find? (fun x => x.kind == 1 && decide (x.id = a)) <;> simp
theorem parM_none {ys : List FactD} (h : ∀ y ∈ ys, ¬ y.kind = 1) (a : ID) : parM ys a = none := by
  unfold parM
  rw [List.find?_eq_none.2 (fun y hy => by simp [h y hy])]
  rfl
theorem parM_more {xs ys : List FactD} (h : ∀ y ∈ ys, ¬ y.kind = 1) : parM (xs ++ ys) = parM xs := by
  funext a
  rw [parM_append, parM_none h]
  simp
theorem itF_mono {par par' : ID → Option ID} (h : ∀ a p, par a = some p → par' a = some p) : ∀ (k : Nat) (a b : ID), itF par k a = some b → itF par' k a = some b
  | 0, _, _, e => e
  | k + 1, a, b, e => by
    rw [itF] at e ⊢
    cases hk : itF par k a with
    | none => rw [hk] at e; cases e
    | some c =>
      rw [hk] at e
      rw [itF_mono h k a c hk]
      exact h c b e
theorem under_more {xs : List FactD} (ys : List FactD) {a b : ID} (h : underM xs a b = true) : underM (xs ++ ys) a b = true := by
  unfold underM at h ⊢
  rw [underF_iff] at h ⊢
  obtain ⟨k, hk, hi⟩ := h
  refine ⟨k, by rw [List.length_append]; omega, itF_mono (fun c p hp => ?_) k a b hi⟩
  rw [parM_append, hp]
  rfl
theorem under_fuel {xs : List FactD} {a b : ID} {n : Nat} (h : underF (parM xs) n a b = true) : underM xs a b = true := by
  have key : ∀ (k : Nat) (V : List ID) (c : ID), PathInv (parM xs) a b V c → itF (parM xs) k c = some b → underM xs a b = true := by
    intro k
    induction k with
    | zero =>
      intro V c hi hc
      have e : c = b := by simpa [itF] using hc
      subst e
      exact hi.hit (by have := hi.le; omega)
    | succ k ih =>
      intro V c hi hc
      by_cases hcb : c = b
      · subst hcb
        exact hi.hit (by have := hi.le; omega)
      · by_cases hcV : c ∈ V
        · have := hi.cycle hcV n
          rw [h] at this
          cases this
        · rw [itF_succ] at hc
          cases hp : parM xs c with
          | none => rw [hp] at hc; cases hc
          | some p =>
            rw [hp] at hc
            exact ih _ p (hi.step hcV hcb hp) hc
  obtain ⟨k, _, hk⟩ := (underF_iff _ _ _ _).1 h
  exact key k [] a (PathInv.start _ _ _) hk
theorem under_same {xs ys : List FactD} (h : ∀ y ∈ ys, ¬ y.kind = 1) (a b : ID) : underM (xs ++ ys) a b = underM xs a b := by
  cases h1 : underM xs a b with
  | true => exact under_more ys h1
  | false =>
    cases h2 : underM (xs ++ ys) a b with
    | false => rfl
    | true =>
      unfold underM at h2
      rw [parM_more h] at h2
      rw [under_fuel h2] at h1
      cases h1
theorem conflict_same {xs ys : List FactD} (h : ∀ y ∈ ys, ¬ y.kind = 1) (a b : ID) : conflictR (xs ++ ys) a b = conflictR xs a b := by
  unfold conflictR
  rw [parM_more h, under_same h, under_same h]
theorem agreeR_iff2 (xs : List FactD) : agreeR xs = true ↔ ∀ i (hi : i < xs.length) k (hk : k < i), clashR xs xs[i] (xs[k]'(by omega)) = false := by
  constructor
  · intro h i hi k hk
    unfold agreeR at h
    rw [List.all_eq_true] at h
    have h1 := h i (List.mem_range.2 hi)
    rw [List.all_eq_true] at h1
    have h2 := h1 k (List.mem_range.2 hk)
    rw [getElem!_pos xs i hi, getElem!_pos xs k (by omega)] at h2
    simpa using h2
  · exact agreeR_yes
theorem agree_less {xs ys : List FactD} (h : ∀ y ∈ ys, ¬ y.kind = 1) (ha : agreeR (xs ++ ys) = true) : agreeR xs = true := by
  rw [agreeR_iff2] at ha ⊢
  intro i hi k hk
  have := ha i (by rw [List.length_append]; omega) k hk
  rw [List.getElem_append_left hi, List.getElem_append_left (by omega)] at this
  unfold clashR at this ⊢
  rw [conflict_same h] at this
  exact this
theorem votersF_same {xs ys : List FactD} (h : ∀ y ∈ ys, ¬ y.kind = 1) (nd po : Int) (id : ID) (l : List FactD) : votersF (xs ++ ys) nd po id l = votersF xs nd po id l := by
  unfold votersF votL
  have e : votB (xs ++ ys) nd po id = votB xs nd po id := by
    funext x
    unfold votB
    rw [under_same h]
  rw [e]
theorem wins_more {xs ys : List FactD} (h : ∀ y ∈ ys, ¬ y.kind = 1) (beta : Int) : (winsK (xs ++ ys) beta (xs ++ ys).length).take (winsK xs beta xs.length).length = winsK xs beta xs.length := by
  have h1 : ∀ i, i < xs.length → wsel (xs ++ ys) i = wsel xs i ∧ winOf (xs ++ ys) beta i = winOf xs beta i := by
    intro i hi
    have e1 : (xs ++ ys)[i]? = xs[i]? := List.getElem?_append_left hi
    have e2 : (xs ++ ys).take i = xs.take i := List.take_append_of_le_length (by omega)
    constructor
    · unfold wsel; rw [e1, e2]
    · unfold winOf
      rw [e1, e2]
      cases xs[i]? with
      | none => rfl
      | some x =>
        simp only [WinM.mk.injEq, true_and]
        unfold windowF
        refine List.map_congr_left fun j _ => ?_
        unfold wv
        rw [votersF_same h]
  have h2 : (List.range xs.length).filter (wsel (xs ++ ys)) = (List.range xs.length).filter (wsel xs) := List.filter_congr fun i hi => (h1 i (List.mem_range.1 hi)).1
  have h3 : winsK (xs ++ ys) beta xs.length = winsK xs beta xs.length := by
    unfold winsK
    rw [h2]
    refine List.map_congr_left fun i hi => (h1 i ?_).2
    exact List.mem_range.1 (List.mem_filter.1 hi).1
  have h4 : winsK (xs ++ ys) beta (xs ++ ys).length = winsK (xs ++ ys) beta xs.length ++ (((List.range ys.length).map (xs.length + ·)).filter (wsel (xs ++ ys))).map (winOf (xs ++ ys) beta) := by
    unfold winsK
    rw [List.length_append, List.range_add, List.filter_append, List.map_append]
  rw [h4, h3]
  exact List.take_left' rfl
theorem wins_le {xs ys : List FactD} (h : ∀ y ∈ ys, ¬ y.kind = 1) (beta : Int) : (winsK xs beta xs.length).length ≤ (winsK (xs ++ ys) beta (xs ++ ys).length).length := by
  have := congrArg List.length (wins_more (xs := xs) h beta)
  rw [List.length_take] at this
  omega
end Go.Proofs.Ytmenfbfekfljbaa
