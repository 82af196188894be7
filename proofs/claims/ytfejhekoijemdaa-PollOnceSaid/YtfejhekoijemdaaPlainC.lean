import Derived.Test.YtfejhekoijemdaaPlainB
namespace Go.Proofs.Ytfejhekoijemdaa

/-! ### what is told of a bag -/
def goodV (l : List Vt) : List Vt := if bagE l = 0 then l else []
theorem goodV_ok (l : List Vt) : Asc (goodV l) ∧ Pos (goodV l) ∧ sumN (goodV l) ≤ 1048576 := by
  unfold goodV
  split
  · rename_i h; exact bagE_0 h
  · exact ⟨List.Pairwise.nil, fun x hx => (by cases hx), by decide⟩
theorem goodV_len (l : List Vt) : (goodV l).length ≤ l.length := by unfold goodV; split <;> simp
theorem goodV_of {l : List Vt} (h : bagE l = 0) : goodV l = l := if_pos h
def totV (l : List Vt) : Int := sumN (goodV l)
def countV (l : List Vt) (id : ID) : Int := cnt id (goodV l)
def modeF : Vt → List Vt → Vt
  | b, [] => b
  | b, x :: r => modeF (if b.n < x.n then x else b) r
def modeV (l : List Vt) : Vt := modeF ⟨ID.zero, 0⟩ (goodV l)
def atlV (l : List Vt) (n : Int) : List ID := ((goodV l).filter fun x => decide (n ≤ x.n)).map (·.id)
def onlyV (l : List Vt) (ids : List ID) : List Vt := (goodV l).filter fun x => decide (x.id ∈ ids)
theorem totV_bd (l : List Vt) : 0 ≤ totV l ∧ totV l ≤ 1048576 := ⟨sumN_pos (goodV_ok l).2.1, (goodV_ok l).2.2⟩
theorem cnt_at {l : List Vt} (ha : Asc l) {x : Vt} (hx : x ∈ l) : cnt x.id l = x.n := by
  induction l with
  | nil => cases hx
  | cons y l ih =>
    have hy := List.pairwise_cons.1 ha
    simp only [cnt]
    rcases List.mem_cons.1 hx with rfl | hx
    · rw [if_pos rfl, cnt_gt (fun z hz e => ltI_ne (hy.1 z hz) e.symm)]; omega
    · rw [if_neg (ltI_ne (hy.1 x hx)), ih hy.2 hx]; omega
theorem modeF_max : ∀ (l : List Vt) (b : Vt), b.n ≤ (modeF b l).n ∧ (∀ x ∈ l, x.n ≤ (modeF b l).n) ∧ (modeF b l = b ∨ modeF b l ∈ l) := by
  intro l
  induction l with
  | nil => intro b; exact ⟨Int.le_refl _, fun x hx => (by cases hx), .inl rfl⟩
  | cons y r ih =>
    intro b
    simp only [modeF]
    obtain ⟨h1, h2, h3⟩ := ih (if b.n < y.n then y else b)
    by_cases h : b.n < y.n
    · rw [if_pos h] at h1 h2 h3 ⊢
      refine ⟨by omega, fun x hx => ?_, ?_⟩
      · rcases List.mem_cons.1 hx with rfl | hx
        · exact h1
        · exact h2 x hx
      · rcases h3 with e | e
        · right; rw [e]; simp
        · right; simp [e]
    · rw [if_neg h] at h1 h2 h3 ⊢
      refine ⟨h1, fun x hx => ?_, ?_⟩
      · rcases List.mem_cons.1 hx with rfl | hx
        · omega
        · exact h2 x hx
      · rcases h3 with e | e
        · exact .inl e
        · right; simp [e]
theorem mode_count {l : List Vt} (h : bagE l = 0) : countV l (modeV l).id = (modeV l).n ∧ ∀ x ∈ l, x.n ≤ (modeV l).n := by
  obtain ⟨ha, hp, hs⟩ := bagE_0 h
  have hg := goodV_of h
  unfold countV modeV
  rw [hg]
  obtain ⟨h1, h2, h3⟩ := modeF_max l ⟨ID.zero, 0⟩
  refine ⟨?_, h2⟩
  rcases h3 with e | e
  · have hn : (modeF ⟨ID.zero, 0⟩ l).n = 0 := by rw [e]
    have hl : l = [] := by
      cases l with
      | nil => rfl
      | cons x r =>
        have := h2 x (by simp)
        have := hp x (by simp)
        omega
    subst hl
    rfl
  · exact cnt_at ha e
theorem atl_len {k : Int} (hk : 1 ≤ k) : ∀ {l : List Vt}, Pos l → k * (((l.filter fun x => decide (k ≤ x.n)).map (·.id)).length : Int) ≤ sumN l := by
  intro l
  induction l with
  | nil => intro _; simp [sumN]
  | cons x r ih =>
    intro hp
    have h1 := ih (fun y hy => hp y (by simp [hy]))
    have h2 := hp x (by simp)
    simp only [sumN]
    by_cases h : k ≤ x.n
    · rw [List.filter_cons, if_pos (by simpa using h), List.map_cons, List.length_cons]
      push_cast
      rw [Int.mul_add]
      omega
    · rw [List.filter_cons, if_neg (by simpa using h)]
      omega
/-! ### occurrences -/
theorem cnt_ones_perm {a b : List ID} (h : a.Perm b) (id : ID) : cnt id (ones a) = cnt id (ones b) := by
  induction h with
  | nil => rfl
  | cons x _ ih => simp only [ones, List.map_cons, cnt] at *; omega
  | swap x y l => simp only [ones, List.map_cons, cnt]; omega
  | trans _ _ h1 h2 => exact h1.trans h2
theorem cnt_append (id : ID) (a b : List Vt) : cnt id (a ++ b) = cnt id a + cnt id b := by
  induction a with
  | nil => simp [cnt]
  | cons x a ih => simp only [List.cons_append, cnt, ih]; omega
theorem ofV_ok (ids : List ID) : Asc (ofV [] ids) ∧ Pos (ofV [] ids) ∧ sumN (ofV [] ids) = ids.length ∧ ∀ id, cnt id (ofV [] ids) = cnt id (ones ids) := by
  rw [ofV_merge]
  obtain ⟨h1, h2⟩ := mergeV_ok (ones ids) [] List.Pairwise.nil (fun x hx => by cases hx) (ones_pos ids)
  refine ⟨h1, h2, ?_, fun id => ?_⟩
  · rw [mergeV_sum, ones_sum]; simp [sumN]
  · rw [mergeV_cnt]; simp [cnt]
theorem ofV_bag {ids : List ID} (h : ids.length ≤ 1048576) : bagE (ofV [] ids) = 0 := by
  obtain ⟨h1, h2, h3, _⟩ := ofV_ok ids
  exact bagE_of h1 h2 (by rw [h3]; omega)
theorem ofV_perm {a b : List ID} (h : a.Perm b) : ofV [] a = ofV [] b := by
  obtain ⟨h1, h2, _, h4⟩ := ofV_ok a
  obtain ⟨k1, k2, _, k4⟩ := ofV_ok b
  exact bag_uniq h1 k1 h2 k2 (fun id => by rw [h4, k4]; exact cnt_ones_perm h id)
theorem ofV_parts (ids : List ID) (k : Nat) : mergeV (ofV [] (ids.take k)) (ofV [] (ids.drop k)) = ofV [] ids := by
  obtain ⟨h1, h2, _, h4⟩ := ofV_ok (ids.take k)
  obtain ⟨k1, k2, _, k4⟩ := ofV_ok (ids.drop k)
  obtain ⟨m1, m2, _, m4⟩ := ofV_ok ids
  obtain ⟨n1, n2⟩ := mergeV_ok (ofV [] (ids.drop k)) (ofV [] (ids.take k)) h1 h2 k2
  refine bag_uniq n1 m1 n2 m2 (fun id => ?_)
  rw [mergeV_cnt, h4, k4, m4, ← cnt_append]
  congr 1
  unfold ones
  rw [← List.map_append, List.take_append_drop]
theorem ofV_snoc (ids : List ID) (id : ID) : ∀ l, ofV l (ids ++ [id]) = putV (ofV l ids) id 1 := by
  induction ids with
  | nil => intro l; rfl
  | cons x r ih => intro l; simp only [List.cons_append, ofV]; exact ih _
/-! ### parts -/
theorem cnt_filter (id : ID) (p : Vt → Bool) (l : List Vt) : cnt id (l.filter p) + cnt id (l.filter fun x => !p x) = cnt id l := by
  induction l with
  | nil => rfl
  | cons x r ih =>
    rw [List.filter_cons, List.filter_cons]
    cases h : p x
    · simp only [Bool.not_false, if_true, Bool.false_eq_true, if_false, cnt]; omega
    · simp only [Bool.not_true, if_true, Bool.false_eq_true, if_false, cnt]; omega
theorem sum_filter (p : Vt → Bool) (l : List Vt) : sumN (l.filter p) + sumN (l.filter fun x => !p x) = sumN l := by
  induction l with
  | nil => rfl
  | cons x r ih =>
    rw [List.filter_cons, List.filter_cons]
    cases h : p x
    · simp only [Bool.not_false, if_true, Bool.false_eq_true, if_false, sumN]; omega
    · simp only [Bool.not_true, if_true, Bool.false_eq_true, if_false, sumN]; omega
theorem filter_bag {l : List Vt} (h : bagE l = 0) (p : Vt → Bool) : bagE (l.filter p) = 0 := by
  obtain ⟨ha, hp, hs⟩ := bagE_0 h
  have hp1 : Pos (l.filter p) := fun x hx => hp x (List.mem_filter.1 hx).1
  have hp2 : Pos (l.filter fun x => !p x) := fun x hx => hp x (List.mem_filter.1 hx).1
  have h1 := sum_filter p l
  have h2 := sumN_pos hp2
  exact bagE_of (ha.sublist List.filter_sublist) hp1 (by omega)
theorem parts_merge {l : List Vt} (h : bagE l = 0) (p : Vt → Bool) : mergeV (l.filter p) (l.filter fun x => !p x) = l := by
  obtain ⟨ha, hp, hs⟩ := bagE_0 h
  obtain ⟨a1, p1, _⟩ := bagE_0 (filter_bag h p)
  obtain ⟨a2, p2, _⟩ := bagE_0 (filter_bag h (fun x => !p x))
  obtain ⟨n1, n2⟩ := mergeV_ok _ _ a1 p1 p2
  refine bag_uniq n1 ha n2 hp (fun id => ?_)
  rw [mergeV_cnt]
  exact cnt_filter id p l
end Go.Proofs.Ytfejhekoijemdaa
