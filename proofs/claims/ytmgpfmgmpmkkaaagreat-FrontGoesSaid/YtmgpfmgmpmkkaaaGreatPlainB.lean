import Derived.Test.YtmgpfmgmpmkkaaaGreatPlain
namespace Go.Proofs.YtmgpfmgmpmkkaaaGreat

/-! ### association lists, told by their keys -/
def getN (L : List (ID × Int)) (id : ID) : Int := (kGet id L).getD 0
theorem kGet_put (k : ID) (v : Int) : ∀ (L : List (ID × Int)) (k' : ID), kGet k' (kPut k v L) = if k' = k then some v else kGet k' L := by
  intro L
  induction L with
  | nil => intro k'; simp [kPut, kGet]
  | cons x L ih =>
    obtain ⟨j, u⟩ := x
    intro k'
    unfold kPut
    by_cases hj : k = j
    · subst hj
      rw [if_pos rfl]
      simp only [kGet]
      by_cases hk : k' = k <;> simp [hk]
    · rw [if_neg hj]
      simp only [kGet]
      by_cases hk : k' = j
      · subst hk
        rw [if_pos rfl, if_neg (Ne.symm hj), if_pos rfl]
      · rw [if_neg hk, ih, if_neg hk]
theorem getN_put (k : ID) (v : Int) (L : List (ID × Int)) (k' : ID) : getN (kPut k v L) k' = if k' = k then v else getN L k' := by
  unfold getN
  rw [kGet_put]
  split <;> rfl
theorem keys_put (k : ID) (v : Int) : ∀ (L : List (ID × Int)) (y : ID), y ∈ (kPut k v L).map (·.1) ↔ y = k ∨ y ∈ L.map (·.1) := by
  intro L
  induction L with
  | nil => intro y; simp [kPut]
  | cons x L ih =>
    obtain ⟨j, u⟩ := x
    intro y
    unfold kPut
    by_cases hj : k = j
    · subst hj; rw [if_pos rfl]; simp
    · rw [if_neg hj, List.map_cons, List.mem_cons, ih]
      simp only [List.map_cons, List.mem_cons]
      constructor
      · rintro (h | h | h)
        · exact .inr (.inl h)
        · exact .inl h
        · exact .inr (.inr h)
      · rintro (h | h | h)
        · exact .inr (.inl h)
        · exact .inl h
        · exact .inr (.inr h)
theorem nodup_put (k : ID) (v : Int) : ∀ (L : List (ID × Int)), (L.map (·.1)).Nodup → ((kPut k v L).map (·.1)).Nodup := by
  intro L
  induction L with
  | nil => intro _; simp [kPut]
  | cons x L ih =>
    obtain ⟨j, u⟩ := x
    intro h
    rw [List.map_cons, List.nodup_cons] at h
    unfold kPut
    by_cases hj : k = j
    · rw [if_pos hj]; exact List.nodup_cons.2 h
    · rw [if_neg hj, List.map_cons, List.nodup_cons]
      refine ⟨fun hm => ?_, ih h.2⟩
      rcases (keys_put k v L j).1 hm with h1 | h1
      · exact hj h1.symm
      · exact h.1 h1
theorem kGet_mem {L : List (ID × Int)} (hn : (L.map (·.1)).Nodup) {x : ID × Int} (hx : x ∈ L) : kGet x.1 L = some x.2 := by
  induction L with
  | nil => cases hx
  | cons y L ih =>
    obtain ⟨j, u⟩ := y
    rw [List.map_cons, List.nodup_cons] at hn
    unfold kGet
    rcases List.mem_cons.1 hx with rfl | hx
    · rw [if_pos rfl]
    · have hne : ¬ x.1 = j := fun e => hn.1 (by rw [← e]; exact List.mem_map.2 ⟨x, hx, rfl⟩)
      rw [if_neg hne]
      exact ih hn.2 hx
theorem kGet_none {L : List (ID × Int)} {k : ID} (h : k ∉ L.map (·.1)) : kGet k L = none := by
  induction L with
  | nil => rfl
  | cons y L ih =>
    obtain ⟨j, u⟩ := y
    simp only [List.map_cons, List.mem_cons, not_or] at h
    unfold kGet
    rw [if_neg h.1]
    exact ih h.2
/-! ### names put in order -/
def leI (a b : ID) : Bool := !ltI b a
def sortI (l : List ID) : List ID := l.mergeSort leI
theorem sortI_perm (l : List ID) : (sortI l).Perm l := List.mergeSort_perm _ _
theorem leI_antisymm {a b : ID} (h1 : leI a b = true) (h2 : leI b a = true) : a = b := by
  unfold leI at h1 h2
  rcases ltI_total a b with h | h | h
  · rw [h] at h2; cases h2
  · exact h
  · rw [h] at h1; cases h1
theorem leI_lt {a b : ID} (h : leI a b = true) (hne : a ≠ b) : ltI a b = true := by
  rcases ltI_total a b with h1 | h1 | h1
  · exact h1
  · exact absurd h1 hne
  · unfold leI at h; rw [h1] at h; cases h
theorem sortI_le (l : List ID) : (sortI l).Pairwise fun a b => leI a b = true := by
  refine List.pairwise_mergeSort (le := leI) ?_ ?_ l
  · intro a b c h1 h2
    unfold leI at *
    simp only [Bool.not_eq_true'] at *
    cases h : ltI c a with
    | false => rfl
    | true =>
      rcases ltI_total b c with h3 | h3 | h3
      · have := ltI_trans h3 h; rw [h1] at this; cases this
      · subst h3; rw [h1] at h; cases h
      · rw [h3] at h2; cases h2
  · intro a b
    unfold leI
    cases h : ltI b a with
    | false => simp
    | true => simp [ltI_asymm h]
theorem sortI_lt {l : List ID} (hn : l.Nodup) : (sortI l).Pairwise fun a b => ltI a b = true := by
  have h1 := sortI_le l
  have h2 : (sortI l).Nodup := (sortI_perm l).nodup_iff.2 hn
  exact (h1.and h2).imp fun h => leI_lt h.1 h.2
/-- the bag that a map is -/
def bagOf (L : List (ID × Int)) : List Vt := (sortI ((L.filter fun x => decide (0 < x.2)).map (·.1))).map fun id => ⟨id, getN L id⟩
theorem filter_keys {L : List (ID × Int)} (hn : (L.map (·.1)).Nodup) (id : ID) : id ∈ (L.filter fun x => decide (0 < x.2)).map (·.1) ↔ 0 < getN L id := by
  constructor
  · intro h
    obtain ⟨x, hx, rfl⟩ := List.mem_map.1 h
    rw [List.mem_filter] at hx
    unfold getN
    rw [kGet_mem hn hx.1]
    simpa using hx.2
  · intro h
    by_cases hm : id ∈ L.map (·.1)
    · obtain ⟨x, hx, rfl⟩ := List.mem_map.1 hm
      unfold getN at h
      rw [kGet_mem hn hx] at h
      exact List.mem_map.2 ⟨x, List.mem_filter.2 ⟨hx, by simpa using h⟩, rfl⟩
    · unfold getN at h
      rw [kGet_none hm] at h
      simp at h
theorem bagOf_asc {L : List (ID × Int)} (hn : (L.map (·.1)).Nodup) : Asc (bagOf L) := by
  unfold bagOf Asc
  rw [List.pairwise_map]
  refine sortI_lt ?_
  exact List.Nodup.sublist (List.Sublist.map _ List.filter_sublist) hn
theorem bagOf_pos {L : List (ID × Int)} (hn : (L.map (·.1)).Nodup) : Pos (bagOf L) := by
  intro x hx
  unfold bagOf at hx
  obtain ⟨id, hid, rfl⟩ := List.mem_map.1 hx
  have := (filter_keys hn id).1 ((sortI_perm _).mem_iff.1 hid)
  show 1 ≤ getN L id
  omega
theorem cnt_map (f : ID → Int) (id : ID) : ∀ (l : List ID), l.Nodup → cnt id (l.map fun k => ⟨k, f k⟩) = if id ∈ l then f id else 0 := by
  intro l
  induction l with
  | nil => intro _; simp [cnt]
  | cons k l ih =>
    intro hn
    rw [List.nodup_cons] at hn
    simp only [List.map_cons, cnt]
    rw [ih hn.2]
    by_cases hk : k = id
    · subst hk
      rw [if_pos rfl, if_neg hn.1, if_pos (by simp)]; omega
    · rw [if_neg hk]
      by_cases hm : id ∈ l
      · rw [if_pos hm, if_pos (by simp [hm])]; omega
      · rw [if_neg hm, if_neg (by simp [hm, Ne.symm hk])]; omega
theorem bagOf_cnt {L : List (ID × Int)} (hn : (L.map (·.1)).Nodup) (id : ID) : cnt id (bagOf L) = if 0 < getN L id then getN L id else 0 := by
  unfold bagOf
  have hnd : (sortI ((L.filter fun x => decide (0 < x.2)).map (·.1))).Nodup := (sortI_perm _).nodup_iff.2 (List.Nodup.sublist (List.Sublist.map _ List.filter_sublist) hn)
  rw [cnt_map _ _ _ hnd]
  by_cases h : 0 < getN L id
  · rw [if_pos h, if_pos ((sortI_perm _).mem_iff.2 ((filter_keys hn id).2 h))]
  · rw [if_neg h, if_neg (fun hm => h ((filter_keys hn id).1 ((sortI_perm _).mem_iff.1 hm)))]
theorem bagOf_len (L : List (ID × Int)) : (bagOf L).length ≤ L.length := by
  unfold bagOf
  rw [List.length_map, (sortI_perm _).length_eq, List.length_map]
  exact List.length_filter_le _ _
/-- votes gathered into a map -/
def gathK (L : List (ID × Int)) : List Vt → List (ID × Int)
  | [] => L
  | x :: r => gathK (kPut x.id (getN L x.id + x.n) L) r
theorem gathK_getN (id : ID) : ∀ (l : List Vt) (L : List (ID × Int)), getN (gathK L l) id = getN L id + cnt id l := by
  intro l
  induction l with
  | nil => intro L; simp [gathK, cnt]
  | cons x r ih =>
    intro L
    simp only [gathK, cnt]
    rw [ih, getN_put]
    by_cases h : id = x.id
    · subst h; rw [if_pos rfl, if_pos rfl]; omega
    · rw [if_neg h, if_neg (Ne.symm h)]; omega
theorem gathK_nodup : ∀ (l : List Vt) (L : List (ID × Int)), (L.map (·.1)).Nodup → ((gathK L l).map (·.1)).Nodup := by
  intro l
  induction l with
  | nil => intro L h; exact h
  | cons x r ih => intro L h; exact ih _ (nodup_put _ _ _ h)
theorem kPut_len (k : ID) (v : Int) : ∀ (L : List (ID × Int)), (kPut k v L).length ≤ L.length + 1 := by
  intro L
  induction L with
  | nil => simp [kPut]
  | cons x L ih =>
    obtain ⟨j, u⟩ := x
    unfold kPut
    split
    · simp
    · simp; exact ih
theorem gathK_len : ∀ (l : List Vt) (L : List (ID × Int)), (gathK L l).length ≤ L.length + l.length := by
  intro l
  induction l with
  | nil => intro L; simp [gathK]
  | cons x r ih =>
    intro L
    have h1 := ih (kPut x.id (getN L x.id + x.n) L)
    have h2 := kPut_len x.id (getN L x.id + x.n) L
    simp only [gathK, List.length_cons]
    omega
/-- a bag, gathered -/
theorem bagOf_gath {l : List Vt} (ha : Asc l) (hp : Pos l) : bagOf (gathK [] l) = l := by
  have hn := gathK_nodup l [] (by simp)
  refine bag_uniq (bagOf_asc hn) ha (bagOf_pos hn) hp (fun id => ?_)
  rw [bagOf_cnt hn, gathK_getN]
  have h0 : getN [] id = 0 := rfl
  rw [h0, Int.zero_add]
  have := cnt_nonneg (id := id) hp
  split <;> omega
theorem bagOf_put {l : List Vt} (ha : Asc l) (hp : Pos l) (id : ID) {n : Int} (hn0 : 0 ≤ n) : bagOf (kPut id (getN (gathK [] l) id + n) (gathK [] l)) = putV l id n := by
  have hn := nodup_put id (getN (gathK [] l) id + n) _ (gathK_nodup l [] (by simp))
  refine bag_uniq (bagOf_asc hn) (putV_asc ha id n) (bagOf_pos hn) (putV_pos hp id hn0) (fun id' => ?_)
  rw [bagOf_cnt hn, getN_put, gathK_getN, putV_cnt, gathK_getN]
  have h0 : ∀ i, getN [] i = 0 := fun _ => rfl
  rw [h0, h0, Int.zero_add, Int.zero_add]
  have := cnt_nonneg (id := id') hp
  by_cases h : id' = id
  · subst h
    rw [if_pos rfl, if_pos rfl]
    split <;> omega
  · rw [if_neg h, if_neg (Ne.symm h)]
    split <;> omega
/-- two bags in one -/
def mergeV (a : List Vt) : List Vt → List Vt
  | [] => a
  | x :: r => mergeV (putV a x.id x.n) r
theorem mergeV_cnt (id : ID) : ∀ (b a : List Vt), cnt id (mergeV a b) = cnt id a + cnt id b := by
  intro b
  induction b with
  | nil => intro a; simp [mergeV, cnt]
  | cons x r ih =>
    intro a
    simp only [mergeV, cnt]
    rw [ih, putV_cnt]; omega
theorem mergeV_ok : ∀ (b a : List Vt), Asc a → Pos a → Pos b → Asc (mergeV a b) ∧ Pos (mergeV a b) := by
  intro b
  induction b with
  | nil => intro a h1 h2 _; exact ⟨h1, h2⟩
  | cons x r ih =>
    intro a h1 h2 h3
    have := h3 x (by simp)
    exact ih _ (putV_asc h1 _ _) (putV_pos h2 _ (by omega)) (fun y hy => h3 y (by simp [hy]))
theorem mergeV_sum : ∀ (b a : List Vt), sumN (mergeV a b) = sumN a + sumN b := by
  intro b
  induction b with
  | nil => intro a; simp [mergeV, sumN]
  | cons x r ih => intro a; simp only [mergeV, sumN]; rw [ih, putV_sum]; omega
theorem bagOf_merge {a b : List Vt} (ha : Asc a) (hp : Pos a) (hpb : Pos b) : bagOf (gathK (gathK [] a) b) = mergeV a b := by
  have hn := gathK_nodup b _ (gathK_nodup a [] (by simp))
  obtain ⟨h1, h2⟩ := mergeV_ok b a ha hp hpb
  refine bag_uniq (bagOf_asc hn) h1 (bagOf_pos hn) h2 (fun id => ?_)
  rw [bagOf_cnt hn, gathK_getN, gathK_getN, mergeV_cnt]
  have h0 : getN [] id = 0 := rfl
  rw [h0, Int.zero_add]
  have := cnt_nonneg (id := id) hp
  have := cnt_nonneg (id := id) hpb
  split <;> omega
/-- the bag of names -/
def ofV (l : List Vt) : List ID → List Vt
  | [] => l
  | id :: r => ofV (putV l id 1) r
def ones : List ID → List Vt := List.map fun id => ⟨id, 1⟩
theorem ofV_merge : ∀ (ids : List ID) (l : List Vt), ofV l ids = mergeV l (ones ids) := by
  intro ids
  induction ids with
  | nil => intro l; rfl
  | cons id r ih => intro l; simp only [ofV, ones, List.map_cons, mergeV]; exact ih _
theorem ones_pos (ids : List ID) : Pos (ones ids) := fun x hx => by
  unfold ones at hx
  obtain ⟨id, _, rfl⟩ := List.mem_map.1 hx
  exact Int.le_refl 1
theorem ones_sum (ids : List ID) : sumN (ones ids) = ids.length := by
  induction ids with
  | nil => rfl
  | cons id r ih => simp only [ones, List.map_cons, sumN, List.length_cons] at *; rw [ih]; omega
theorem bagOf_ones (ids : List ID) : bagOf (gathK [] (ones ids)) = ofV [] ids := by
  rw [ofV_merge]
  exact bagOf_merge (a := []) List.Pairwise.nil (fun x hx => by cases hx) (ones_pos ids)
end Go.Proofs.YtmgpfmgmpmkkaaaGreat
