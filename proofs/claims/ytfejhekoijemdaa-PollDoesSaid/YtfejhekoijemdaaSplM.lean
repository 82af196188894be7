import Derived.Test.YtfejhekoijemdaaWide
import Derived.Deep.RegionHeld3
import Derived.Deep.RegionLaw
namespace Go.Proofs.Ytfejhekoijemdaa

/-! ### a region whose last operation waits for all others: that one is run behind them, and a held condition need not outlive it -/
def lastQ (P : Program) (ops : Array Oper) (n : Nat) (Q : Exit → Act → World → Prop) : Exit → Act → World → Prop
  | .normal, a, w => wpOp P ops Q n (Q .normal) a w
  | e, a, w => Q e a w
section
variable {P : Program} {ops : Array Oper} {Q Q' : Exit → Act → World → Prop} {md : Region.Mode} {S : World → Prop}
theorem lets_of (hQ : ∀ e, e ≠ .normal → ∀ a w, Q' e a w → Q e a w) (h : LetsOut Q') : LetsOut Q := by
  obtain ⟨a, w, h⟩ := h
  exact ⟨a, w, hQ _ (by intro e; cases e) _ _ h⟩
theorem wpOp_post (hQ : ∀ e, e ≠ .normal → ∀ a w, Q' e a w → Q e a w) {i : Nat} {K : Act → World → Prop} {a : Act} {w : World} (h : wpOp P ops Q' i K a w) : wpOp P ops Q i K a w := by
  unfold wpOp at *
  split
  · rename_i e; simpa [e] using h
  · rename_i o e
    simp only [e] at h
    split
    · rename_i hw
      simp only [hw, if_true] at h
      rcases h with h | ⟨h1, h2⟩
      · refine .inl ?_
        unfold Oper.wp at *
        generalize (execOp a.eval o).run P w = r at *
        cases r with
        | ok n w' =>
          cases n <;> simp only [Oper.upon] at h ⊢
          case value u => exact h
          case skip => exact h
          case defer d => exact h
          case enter f args =>
            refine Calls.mono h fun e w'' he => ?_
            cases e with
            | returned u => exact he
            | panicked c => exact hQ _ (by intro e; cases e) _ _ he
            | outgrown => exact lets_of hQ he
          case row row args => exact h
        | halt x w' =>
          cases x <;> simp only [Oper.upon] at h ⊢
          case panic u => exact hQ _ (by intro e; cases e) _ _ h
      · exact .inr ⟨h1, lets_of hQ h2⟩
    · rename_i hw
      simpa [hw] using h
theorem ready_ne (hlow : ∀ (j : Nat) (o : Oper), ops[j]? = some o → ∀ e ∈ o.after, e.on < j) : ∀ (k : Nat) (listed : Array Bool), k < ops.size → listed.getD k true = false → listed.size = ops.size → Region.ready md ops listed ≠ [] := by
  intro k
  induction k using Nat.strongRecOn with
  | ind k ih =>
    intro listed hk hl hs
    by_cases hh : ∃ j, j < k ∧ listed.getD j true = false
    · obtain ⟨j, h1, h2⟩ := hh
      exact ih j h1 listed (by omega) h2 hs
    · intro he
      have hm : k ∈ Region.ready md ops listed := by
        refine mem_ready.2 ⟨hl, ops[k], Array.getElem?_eq_getElem hk, fun e he _ => ?_⟩
        have h3 := hlow k _ (Array.getElem?_eq_getElem hk) e he
        have h4 : ¬ listed.getD e.on true = false := fun h => hh ⟨e.on, h3, h⟩
        have h5 : e.on < listed.size := by omega
        simp [Array.getD, h5] at h4 ⊢
        exact h4
      rw [he] at hm
      cases hm
def Closed (md : Region.Mode) (ops : Array Oper) (listed : Array Bool) : Prop := ∀ (i : Nat) (o : Oper), ops[i]? = some o → listed.getD i false = true → ∀ e ∈ o.after, Region.binds md e = true → listed.getD e.on false = true
theorem listed_mono {listed : Array Bool} {k : Nat} (i : Nat) (h : listed.getD k false = true) : (listed.setIfInBounds i true).getD k false = true := by
  by_cases e : k = i
  · subst e
    by_cases hk : k < listed.size
    · simp [Array.getD, hk]
    · simp [Array.getD, hk] at h
  · rw [getD_set_ne false (Ne.symm e)]; exact h
theorem Closed.set {listed : Array Bool} (h : Closed md ops listed) {i : Nat} (hi : i ∈ Region.ready md ops listed) : Closed md ops (listed.setIfInBounds i true) := by
  obtain ⟨_, o, ho, h2⟩ := mem_ready.1 hi
  intro k o' ho' hk e he hb
  refine listed_mono i ?_
  by_cases hki : k = i
  · subst hki
    rw [ho] at ho'
    cases ho'
    exact h2 e he hb
  · rw [getD_set_ne false (Ne.symm hki)] at hk
    exact h k o' ho' hk e he hb
theorem any_split {n : Nat} {st : Oper} (hn : ops[n]? = some st) (hlast : n + 1 = ops.size) (hall : ∀ j, j < n → ∃ e ∈ st.after, Region.binds md e = true ∧ (e.on = j ∨ ∃ o, ops[e.on]? = some o ∧ ∃ e2 ∈ o.after, Region.binds md e2 = true ∧ e2.on = j)) (hlow : ∀ (j : Nat) (o : Oper), ops[j]? = some o → ∀ e ∈ o.after, e.on < j) :
    ∀ (fuel : Nat) (listed : Array Bool) (a : Act) (w : World), listed.size = ops.size → Closed md ops listed → listed.getD n true = false → wpAnyH P md ops (lastQ P ops n Q) S fuel (listed.setIfInBounds n true) a w → wpAny P md ops Q (fuel + 1) listed a w := by
  have hQ : ∀ e, e ≠ .normal → ∀ a w, lastQ P ops n Q e a w → Q e a w := fun e he a w h => by
    cases e <;> first | exact absurd rfl he | exact h
  have same : ∀ (listed : Array Bool) (i : Nat), i ≠ n → (i ∈ Region.ready md ops listed ↔ i ∈ Region.ready md ops (listed.setIfInBounds n true)) := fun listed i hi => by
    rw [mem_ready, mem_ready, getD_set_ne true (Ne.symm hi)]
    refine and_congr Iff.rfl (exists_congr fun o => and_congr_right fun ho => forall_congr' fun e => forall_congr' fun he => forall_congr' fun _ => ?_)
    have h1 := hlow i o ho e he
    have h2 := (Array.getElem?_eq_some_iff.1 ho).1
    rw [getD_set_ne false (by omega)]
  have empty : ∀ (listed : Array Bool), listed.size = ops.size → Closed md ops listed → n ∈ Region.ready md ops listed → Region.ready md ops (listed.setIfInBounds n true) = [] := fun listed hs hc hm => by
    obtain ⟨_, o, ho, h2⟩ := mem_ready.1 hm
    rw [hn] at ho
    cases ho
    apply List.eq_nil_iff_forall_not_mem.2
    intro j hj
    obtain ⟨h3, oj, h4, _⟩ := mem_ready.1 hj
    have hjs := (Array.getElem?_eq_some_iff.1 h4).1
    by_cases e : j = n
    · subst e
      have : j < listed.size := by omega
      simp [Array.getD, this] at h3
    · obtain ⟨ed, g1, g2, g3⟩ := hall j (by omega)
      have h5 : listed.getD j false = true := by
        rcases g3 with g3 | ⟨o, g4, e2, g5, g6, g7⟩
        · rw [← g3]; exact h2 ed g1 g2
        · rw [← g7]; exact hc _ o g4 (h2 ed g1 g2) e2 g5 g6
      rw [getD_set_ne true (Ne.symm e)] at h3
      have : j < listed.size := by omega
      simp [Array.getD, this] at h3 h5
      rw [h5] at h3
      cases h3
  intro fuel
  induction fuel with
  | zero =>
    intro listed a w hs hcl hl H
    refine ⟨fun he => absurd he (ready_ne hlow n listed (by omega) hl hs), fun i hi => ?_⟩
    by_cases e : i = n
    · subst e
      exact wpOp_mono (fun a' w' h' => ⟨H.1, h'⟩) H.2
    · have := (same listed i e).1 hi
      rw [H.1] at this
      cases this
  | succ fuel ih =>
    intro listed a w hs hcl hl H
    refine ⟨fun he => absurd he (ready_ne hlow n listed (by omega) hl hs), fun i hi => ?_⟩
    by_cases e : i = n
    · subst e
      have h0 := empty listed hs hcl hi
      exact wpOp_mono (fun a' w' h' => ⟨fun _ => h', fun j hj => by rw [h0] at hj; cases hj⟩) (H.1 h0)
    · refine wpOp_mono (fun a' w' h' => ?_) (wpOp_post hQ (H.2 i ((same listed i e).1 hi)))
      refine ih _ a' w' (by simpa using hs) (hcl.set hi) (by rw [getD_set_ne true e]; exact hl) ?_
      have hc : (listed.setIfInBounds i true).setIfInBounds n true = (listed.setIfInBounds n true).setIfInBounds i true := Array.setIfInBounds_comm _ _ (by exact e)
      rw [hc]
      exact h'.2
/-- the beginning of such a walk: the last operation counts as listed, and is run behind the others -/
theorem wp_region_last {id n : Nat} {st : Oper} {a : Act} {w : World} (hm : P.follows .mixedOrders = true) (hn : ops[n]? = some st) (hlast : n + 1 = ops.size) (hall : ∀ j, j < n → ∃ e ∈ st.after, Region.binds .any e = true ∧ (e.on = j ∨ ∃ o, ops[e.on]? = some o ∧ ∃ e2 ∈ o.after, Region.binds .any e2 = true ∧ e2.on = j)) (hlow : ∀ (j : Nat) (o : Oper), ops[j]? = some o → ∀ e ∈ o.after, e.on < j)
    (hS : S w.drew) (h : S w.drew → wpAnyH P .any ops (lastQ P ops n Q) S n ((Array.replicate ops.size false).setIfInBounds n true) a w.drew) : (Code.region id ops true).wp P Q a w := by
  refine wp_region_any hm ?_
  rw [← hlast]
  rw [← hlast] at h
  exact any_split hn hlast hall hlow n _ a _ (by simp [hlast]) (fun i o _ hi => by simp [Array.getD] at hi) (by simp [Array.getD]) (h hS)
/-- the same, its two conditions as sums that the kernel reckons -/
theorem wp_region_last' {id : Nat} (n : Nat) {st : Oper} {a : Act} {w : World} (hm : P.follows .mixedOrders = true) (hn : ops[n]? = some st) (hlast : n + 1 = ops.size)
    (hall : ((List.range n).all fun j => st.after.any fun e => Region.binds .any e && (e.on == j || match ops[e.on]? with | some o => o.after.any fun e2 => Region.binds .any e2 && e2.on == j | none => false)) = true) (hlow : ((List.range ops.size).all fun j => match ops[j]? with | some o => o.after.all fun e => decide (e.on < j) | none => true) = true)
    (hS : S w.drew) (h : S w.drew → wpAnyH P .any ops (lastQ P ops n Q) S n ((Array.replicate ops.size false).setIfInBounds n true) a w.drew) : (Code.region id ops true).wp P Q a w := by
  refine wp_region_last hm hn hlast (fun j hj => ?_) (fun j o ho e he => ?_) hS h
  · have h1 := List.all_eq_true.1 hall j (List.mem_range.2 hj)
    obtain ⟨i, hi, h2⟩ := Array.any_eq_true.1 h1
    simp only [Bool.and_eq_true, Bool.or_eq_true, beq_iff_eq] at h2
    refine ⟨_, Array.getElem_mem hi, h2.1, h2.2.imp (fun h => h) fun h3 => ?_⟩
    split at h3
    · rename_i o ho
      obtain ⟨i2, hi2, h4⟩ := Array.any_eq_true.1 h3
      simp only [Bool.and_eq_true, beq_iff_eq] at h4
      exact ⟨o, ho, _, Array.getElem_mem hi2, h4.1, h4.2⟩
    · cases h3
  · have h1 := List.all_eq_true.1 hlow j (List.mem_range.2 (Array.getElem?_eq_some_iff.1 ho).1)
    simp only [ho] at h1
    have h2 := Array.all_eq_true_iff_forall_mem.1 h1 e he
    simpa using h2
end
end Go.Proofs.Ytfejhekoijemdaa
namespace Go.Proofs.Ytfejhekoijemdaa

/-! ### the ways through a region, joined in one -/
def AtEnd (R : Act → World → Prop) : Exit → Act → World → Prop
  | .normal, a, w => R a w
  | _, _, _ => False
theorem region_merge {P : Program} {c : Code} {Q : Exit → Act → World → Prop} {a : Act} {w : World} (Good : World → Prop)
    (h : ∃ fr : Act, c.wp P (AtEnd fun a' w' => a' = fr ∧ Good w') a w ∧ ∀ w', Good w' → Q .normal fr w') : c.wp P Q a w := by
  obtain ⟨fr, h1, h2⟩ := h
  refine Code.wp_mono ?_ h1
  intro e a' w' h
  cases e <;> first | exact h.elim | (obtain ⟨rfl, hg⟩ := h; exact h2 w' hg)
theorem region_merge2 {P : Program} {c : Code} {Q : Exit → Act → World → Prop} {a : Act} {w : World} {α β : Type} (Good : α → β → World → Prop)
    (h : ∃ fr : α → β → Act, c.wp P (AtEnd fun a' w' => ∃ x y, a' = fr x y ∧ Good x y w') a w ∧ ∀ x y w', Good x y w' → Q .normal (fr x y) w') : c.wp P Q a w := by
  obtain ⟨fr, h1, h2⟩ := h
  refine Code.wp_mono ?_ h1
  intro e a' w' h
  cases e <;> first | exact h.elim | (obtain ⟨x, y, rfl, hg⟩ := h; exact h2 x y w' hg)
theorem region_merge3 {P : Program} {c : Code} {Q : Exit → Act → World → Prop} {a : Act} {w : World} {α β γ : Type} (Good : α → β → γ → World → Prop)
    (h : ∃ fr : α → β → γ → Act, c.wp P (AtEnd fun a' w' => ∃ x y z, a' = fr x y z ∧ Good x y z w') a w ∧ ∀ x y z w', Good x y z w' → Q .normal (fr x y z) w') : c.wp P Q a w := by
  obtain ⟨fr, h1, h2⟩ := h
  refine Code.wp_mono ?_ h1
  intro e a' w' h
  cases e <;> first | exact h.elim | (obtain ⟨x, y, z, rfl, hg⟩ := h; exact h2 x y z w' hg)
end Go.Proofs.Ytfejhekoijemdaa
