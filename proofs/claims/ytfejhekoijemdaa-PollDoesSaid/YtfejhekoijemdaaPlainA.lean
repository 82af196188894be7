import Derived.Test.YtfejhekoijemdaaWide
namespace Go.Proofs.Ytfejhekoijemdaa

/-! ### names in order -/
def ltL : List UInt8 → List UInt8 → Bool
  | [], _ => false
  | _ :: _, [] => false
  | x :: a, y :: b => if x = y then ltL a b else decide (x < y)
def ltI (a b : ID) : Bool := ltL a.l b.l
theorem ltL_irrefl : ∀ a, ltL a a = false := by
  intro a
  induction a with
  | nil => rfl
  | cons x a ih => simp [ltL, ih]
theorem ltL_trans : ∀ a b c, ltL a b = true → ltL b c = true → ltL a c = true := by
  intro a
  induction a with
  | nil => intro b c h; simp [ltL] at h
  | cons x a ih =>
    intro b c h1 h2
    cases b with
    | nil => simp [ltL] at h1
    | cons y b =>
      cases c with
      | nil => simp [ltL] at h2
      | cons z c =>
        simp only [ltL] at h1 h2 ⊢
        by_cases hxy : x = y
        · subst hxy
          rw [if_pos rfl] at h1
          by_cases hxz : x = z
          · subst hxz
            rw [if_pos rfl] at h2 ⊢
            exact ih b c h1 h2
          · rw [if_neg hxz] at h2 ⊢; exact h2
        · rw [if_neg hxy] at h1
          by_cases hyz : y = z
          · subst hyz
            rw [if_neg hxy]; exact h1
          · rw [if_neg hyz] at h2
            have h1' : x < y := by simpa using h1
            have h2' : y < z := by simpa using h2
            have h3 : x < z := UInt8.lt_trans h1' h2'
            have hne : ¬ x = z := fun e => by subst e; exact UInt8.lt_irrefl _ h3
            rw [if_neg hne]; simpa using h3
theorem ltL_total : ∀ a b : List UInt8, a.length = b.length → ltL a b = true ∨ a = b ∨ ltL b a = true := by
  intro a
  induction a with
  | nil => intro b h; right; left; exact (List.eq_nil_of_length_eq_zero h.symm).symm
  | cons x a ih =>
    intro b h
    cases b with
    | nil => simp at h
    | cons y b =>
      simp only [ltL]
      by_cases hxy : x = y
      · subst hxy
        rw [if_pos rfl, if_pos rfl]
        rcases ih b (by simpa using h) with h | h | h
        · exact .inl h
        · exact .inr (.inl (by rw [h]))
        · exact .inr (.inr h)
      · rw [if_neg hxy, if_neg (Ne.symm hxy)]
        rcases UInt8.lt_or_lt_of_ne hxy with h | h
        · left; simpa using h
        · right; right; simpa using h
theorem ltI_irrefl (a : ID) : ltI a a = false := ltL_irrefl _
theorem ltI_trans {a b c : ID} (h1 : ltI a b = true) (h2 : ltI b c = true) : ltI a c = true := ltL_trans _ _ _ h1 h2
theorem ltI_total (a b : ID) : ltI a b = true ∨ a = b ∨ ltI b a = true := by
  rcases ltL_total a.l b.l (by rw [a.h, b.h]) with h | h | h
  · exact .inl h
  · exact .inr (.inl (ID.ext' h))
  · exact .inr (.inr h)
theorem ltI_asymm {a b : ID} (h : ltI a b = true) : ltI b a = false := by
  cases hb : ltI b a with
  | false => rfl
  | true => have := ltI_trans h hb; rw [ltI_irrefl] at this; cases this
theorem ltI_ne {a b : ID} (h : ltI a b = true) : a ≠ b := fun e => by subst e; rw [ltI_irrefl] at h; cases h
/-! ### votes -/
structure Vt where
  id : ID
  n : Int
deriving DecidableEq
def Asc (l : List Vt) : Prop := l.Pairwise fun x y => ltI x.id y.id = true
def sumN : List Vt → Int
  | [] => 0
  | x :: r => x.n + sumN r
def cnt (id : ID) : List Vt → Int
  | [] => 0
  | x :: r => (if x.id = id then x.n else 0) + cnt id r
def okP : Option ID → ID → Bool
  | none, _ => true
  | some q, x => ltI q x
def bagF : Option ID → Int → List Vt → Bool
  | _, _, [] => true
  | p, left, x :: r => if okP p x.id = false ∨ x.n < 1 ∨ left < x.n then false else bagF (some x.id) (left - x.n) r
theorem bagF_cons (p : Option ID) (left : Int) (x : Vt) (r : List Vt) : bagF p left (x :: r) = if okP p x.id = false ∨ x.n < 1 ∨ left < x.n then false else bagF (some x.id) (left - x.n) r := rfl
def bagE (l : List Vt) : Int := if bagF none 1048576 l = true then 0 else 70
def Pos (l : List Vt) : Prop := ∀ x ∈ l, 1 ≤ x.n
theorem sumN_pos {l : List Vt} (h : Pos l) : 0 ≤ sumN l := by
  induction l with
  | nil => exact Int.le_refl _
  | cons x l ih =>
    have := ih (fun y hy => h y (by simp [hy]))
    have := h x (by simp)
    simp only [sumN]; omega
theorem bagF_iff : ∀ (l : List Vt) (p : Option ID) (left : Int), bagF p left l = true ↔ (0 ≤ left ∨ l = []) ∧ (∀ x ∈ l, okP p x.id = true) ∧ Asc l ∧ Pos l ∧ (l = [] ∨ sumN l ≤ left) := by
  intro l
  induction l with
  | nil => intro p left; simp [bagF, Asc, Pos]
  | cons x r ih =>
    intro p left
    rw [bagF_cons]
    constructor
    · intro h
      split at h
      · cases h
      · rename_i hn
        simp only [not_or] at hn
        obtain ⟨h1, h2, h3, h4, h5⟩ := (ih _ _).1 h
        have hpx : okP p x.id = true := by simpa using hn.1
        have hs : sumN (x :: r) ≤ left := by
          rcases h5 with rfl | h5
          · simp only [sumN]; omega
          · simp only [sumN]; omega
        refine ⟨.inl (by omega), ?_, ?_, ?_, .inr hs⟩
        · intro y hy
          rcases List.mem_cons.1 hy with rfl | hy
          · exact hpx
          · have hxy : ltI x.id y.id = true := h2 y hy
            cases p with
            | none => rfl
            | some q => exact ltI_trans hpx hxy
        · exact List.pairwise_cons.2 ⟨fun y hy => h2 y hy, h3⟩
        · intro y hy
          rcases List.mem_cons.1 hy with rfl | hy
          · omega
          · exact h4 y hy
    · rintro ⟨h1, h2, h3, h4, h5⟩
      have hx := h4 x (by simp)
      have hr : Pos r := fun y hy => h4 y (by simp [hy])
      have hs0 := sumN_pos hr
      have hs : sumN (x :: r) ≤ left := by
        rcases h5 with h | h
        · cases h
        · exact h
      simp only [sumN] at hs
      rw [if_neg (by
        have := h2 x (by simp)
        rintro (h | h | h)
        · rw [this] at h; cases h
        · omega
        · omega)]
      refine (ih _ _).2 ⟨.inl (by omega), fun y hy => (List.pairwise_cons.1 h3).1 y hy, (List.pairwise_cons.1 h3).2, hr, .inr (by omega)⟩
theorem bagE_0 {l : List Vt} (h : bagE l = 0) : Asc l ∧ Pos l ∧ sumN l ≤ 1048576 := by
  unfold bagE at h
  split at h
  · rename_i hb
    obtain ⟨_, _, h1, h2, h3⟩ := (bagF_iff l none 1048576).1 hb
    refine ⟨h1, h2, ?_⟩
    rcases h3 with rfl | h
    · decide
    · exact h
  · cases h
theorem bagE_of {l : List Vt} (h1 : Asc l) (h2 : Pos l) (h3 : sumN l ≤ 1048576) : bagE l = 0 := by
  unfold bagE
  rw [if_pos ((bagF_iff l none 1048576).2 ⟨.inl (by decide), fun _ _ => rfl, h1, h2, .inr h3⟩)]
theorem bagE_cases (l : List Vt) : bagE l = 0 ∨ bagE l = 70 := by unfold bagE; split <;> simp
theorem len_sum {l : List Vt} (h : Pos l) : (l.length : Int) ≤ sumN l := by
  induction l with
  | nil => exact Int.le_refl _
  | cons x l ih =>
    have := ih (fun y hy => h y (by simp [hy]))
    have := h x (by simp)
    simp only [sumN, List.length_cons]; omega
/-! ### a bag is what it counts -/
theorem cnt_gt {id : ID} {l : List Vt} (h : ∀ x ∈ l, x.id ≠ id) : cnt id l = 0 := by
  induction l with
  | nil => rfl
  | cons x l ih =>
    simp only [cnt]
    rw [if_neg (h x (by simp)), ih (fun y hy => h y (by simp [hy]))]; rfl
theorem cnt_nonneg {id : ID} {l : List Vt} (h : Pos l) : 0 ≤ cnt id l := by
  induction l with
  | nil => exact Int.le_refl _
  | cons x l ih =>
    have := ih (fun y hy => h y (by simp [hy]))
    have := h x (by simp)
    simp only [cnt]; split <;> omega
theorem bag_uniq : ∀ {l l' : List Vt}, Asc l → Asc l' → Pos l → Pos l' → (∀ id, cnt id l = cnt id l') → l = l' := by
  intro l
  induction l with
  | nil =>
    intro l' _ _ _ hp h
    cases l' with
    | nil => rfl
    | cons y r =>
      have h1 := h y.id
      have h2 := hp y (by simp)
      have h3 := cnt_nonneg (id := y.id) (l := r) (fun z hz => hp z (by simp [hz]))
      simp only [cnt, if_pos] at h1
      omega
  | cons x r ih =>
    intro l' ha ha' hp hp' h
    have hpx := hp x (by simp)
    have hpr : Pos r := fun z hz => hp z (by simp [hz])
    have hax := List.pairwise_cons.1 ha
    cases l' with
    | nil =>
      have h1 := h x.id
      have h3 := cnt_nonneg (id := x.id) hpr
      simp only [cnt, if_pos] at h1
      omega
    | cons y s =>
      have hpy := hp' y (by simp)
      have hps : Pos s := fun z hz => hp' z (by simp [hz])
      have hay := List.pairwise_cons.1 ha'
      have c0 : cnt x.id r = 0 := cnt_gt (fun z hz e => ltI_ne (hax.1 z hz) e.symm)
      have c1 : cnt y.id s = 0 := cnt_gt (fun z hz e => ltI_ne (hay.1 z hz) e.symm)
      have he : x.id = y.id := by
        rcases ltI_total x.id y.id with hlt | he | hlt
        · exfalso
          have h1 := h x.id
          have : cnt x.id (y :: s) = 0 := cnt_gt (fun z hz e => by
            rcases List.mem_cons.1 hz with rfl | hz
            · exact ltI_ne hlt e.symm
            · exact ltI_ne (ltI_trans hlt (hay.1 z hz)) e.symm)
          rw [this] at h1
          simp only [cnt, if_pos] at h1
          omega
        · exact he
        · exfalso
          have h1 := h y.id
          have : cnt y.id (x :: r) = 0 := cnt_gt (fun z hz e => by
            rcases List.mem_cons.1 hz with rfl | hz
            · exact ltI_ne hlt e.symm
            · exact ltI_ne (ltI_trans hlt (hax.1 z hz)) e.symm)
          rw [this] at h1
          simp only [cnt, if_pos] at h1
          omega
      have hn : x.n = y.n := by
        have h1 := h x.id
        simp only [cnt] at h1
        rw [if_pos trivial, if_pos he.symm, c0, he, c1] at h1
        omega
      have hxy : x = y := by cases x; cases y; simp_all
      subst hxy
      congr 1
      refine ih hax.2 hay.2 hpr hps (fun id => ?_)
      have h1 := h id
      simp only [cnt] at h1
      omega
/-- the document's insertion -/
def insV (id : ID) (n : Int) : List Vt → List Vt
  | [] => [⟨id, n⟩]
  | x :: r => if ltI x.id id = true then x :: insV id n r else if x.id = id then ⟨id, n + x.n⟩ :: r else ⟨id, n⟩ :: x :: r
def putV (l : List Vt) (id : ID) (n : Int) : List Vt := if n = 0 then l else insV id n l
theorem insV_cnt (id : ID) (n : Int) (l : List Vt) (id' : ID) : cnt id' (insV id n l) = cnt id' l + if id = id' then n else 0 := by
  induction l with
  | nil => simp only [insV, cnt]; omega
  | cons x r ih =>
    unfold insV
    split
    · simp only [cnt, ih]; omega
    · split
      · rename_i he
        simp only [cnt, he]
        split <;> omega
      · simp only [cnt]; omega
theorem insV_mem {id : ID} {n : Int} {l : List Vt} {y : Vt} (h : y ∈ insV id n l) : y ∈ l ∨ y.id = id := by
  induction l with
  | nil => simp [insV] at h; right; rw [h]
  | cons x r ih =>
    unfold insV at h
    split at h
    · rcases List.mem_cons.1 h with rfl | h
      · left; simp
      · rcases ih h with h | h
        · left; simp [h]
        · exact .inr h
    · split at h
      · rcases List.mem_cons.1 h with rfl | h
        · exact .inr rfl
        · left; simp [h]
      · rcases List.mem_cons.1 h with rfl | h
        · exact .inr rfl
        · exact .inl h
theorem insV_asc {id : ID} {n : Int} {l : List Vt} (h : Asc l) : Asc (insV id n l) := by
  induction l with
  | nil => exact List.pairwise_cons.2 ⟨fun y hy => by simp at hy, List.Pairwise.nil⟩
  | cons x r ih =>
    have hx := List.pairwise_cons.1 h
    unfold insV
    split
    · rename_i hlt
      refine List.pairwise_cons.2 ⟨fun y hy => ?_, ih hx.2⟩
      rcases insV_mem hy with hy | hy
      · exact hx.1 y hy
      · rw [hy]; exact hlt
    · rename_i hnlt
      split
      · rename_i he
        refine List.pairwise_cons.2 ⟨fun y hy => ?_, hx.2⟩
        show ltI id y.id = true
        rw [← he]; exact hx.1 y hy
      · rename_i hne
        have hlt : ltI id x.id = true := by
          rcases ltI_total id x.id with h | h | h
          · exact h
          · exact absurd h.symm hne
          · exact absurd h hnlt
        refine List.pairwise_cons.2 ⟨fun y hy => ?_, h⟩
        rcases List.mem_cons.1 hy with rfl | hy
        · exact hlt
        · exact ltI_trans hlt (hx.1 y hy)
theorem insV_pos {id : ID} {n : Int} {l : List Vt} (hn : 1 ≤ n) (h : Pos l) : Pos (insV id n l) := by
  induction l with
  | nil => intro y hy; simp [insV] at hy; rw [hy]; exact hn
  | cons x r ih =>
    have hx := h x (by simp)
    have hr : Pos r := fun z hz => h z (by simp [hz])
    unfold insV
    split
    · intro y hy
      rcases List.mem_cons.1 hy with rfl | hy
      · exact hx
      · exact ih hr y hy
    · split
      · intro y hy
        rcases List.mem_cons.1 hy with rfl | hy
        · simp only; omega
        · exact hr y hy
      · intro y hy
        rcases List.mem_cons.1 hy with rfl | hy
        · exact hn
        · exact h y hy
theorem insV_sum (id : ID) (n : Int) (l : List Vt) : sumN (insV id n l) = n + sumN l := by
  induction l with
  | nil => simp [insV, sumN]
  | cons x r ih =>
    unfold insV
    split
    · simp only [sumN, ih]; omega
    · split <;> simp only [sumN] <;> omega
theorem insV_len (id : ID) (n : Int) (l : List Vt) : (insV id n l).length ≤ l.length + 1 := by
  induction l with
  | nil => simp [insV]
  | cons x r ih =>
    unfold insV
    split
    · simp; exact ih
    · split <;> simp
theorem putV_cnt (l : List Vt) (id : ID) (n : Int) (id' : ID) : cnt id' (putV l id n) = cnt id' l + if id = id' then n else 0 := by
  unfold putV
  split
  · rename_i h; subst h; split <;> omega
  · exact insV_cnt id n l id'
theorem putV_asc {l : List Vt} (h : Asc l) (id : ID) (n : Int) : Asc (putV l id n) := by unfold putV; split; exact h; exact insV_asc h
theorem putV_pos {l : List Vt} (h : Pos l) (id : ID) {n : Int} (hn : 0 ≤ n) : Pos (putV l id n) := by
  unfold putV
  split
  · exact h
  · exact insV_pos (by omega) h
theorem putV_sum (l : List Vt) (id : ID) (n : Int) : sumN (putV l id n) = n + sumN l := by
  unfold putV
  split
  · rename_i h; subst h; omega
  · exact insV_sum id n l
theorem putV_len (l : List Vt) (id : ID) (n : Int) : (putV l id n).length ≤ l.length + 1 := by
  unfold putV
  split
  · omega
  · exact insV_len id n l
end Go.Proofs.Ytfejhekoijemdaa
namespace Go.Proofs.Ytfejhekoijemdaa

/-! ### association lists, told by their keys -/
def getN (L : List (ID × Int)) (id : ID) : Int := (kGet id L).getD 0
theorem kGet_put (k : ID) (v : Int) : ∀ (L : List (ID × Int)) (k' : ID), kGet k' (kPut k v L) = if k' = k then some v else kGet k' L := by
  intro L
  induction L with
  | nil => intro k'; simp [kPut, kGet]
  | cons x L ih =>
    obtain ⟨j, u⟩ := x
    intro k'
    unfold kPut
    by_cases hj : k = j
    · subst hj
      rw [if_pos rfl]
      simp only [kGet]
      by_cases hk : k' = k <;> simp [hk]
    · rw [if_neg hj]
      simp only [kGet]
      by_cases hk : k' = j
      · subst hk
        rw [if_pos rfl, if_neg (Ne.symm hj), if_pos rfl]
      · rw [if_neg hk, ih, if_neg hk]
theorem getN_put (k : ID) (v : Int) (L : List (ID × Int)) (k' : ID) : getN (kPut k v L) k' = if k' = k then v else getN L k' := by
  unfold getN
  rw [kGet_put]
  split <;> rfl
theorem keys_put (k : ID) (v : Int) : ∀ (L : List (ID × Int)) (y : ID), y ∈ (kPut k v L).map (·.1) ↔ y = k ∨ y ∈ L.map (·.1) := by
  intro L
  induction L with
  | nil => intro y; simp [kPut]
  | cons x L ih =>
    obtain ⟨j, u⟩ := x
    intro y
    unfold kPut
    by_cases hj : k = j
    · subst hj; rw [if_pos rfl]; simp
    · rw [if_neg hj, List.map_cons, List.mem_cons, ih]
      simp only [List.map_cons, List.mem_cons]
      constructor
      · rintro (h | h | h)
        · exact .inr (.inl h)
        · exact .inl h
        · exact .inr (.inr h)
      · rintro (h | h | h)
        · exact .inr (.inl h)
        · exact .inl h
        · exact .inr (.inr h)
theorem nodup_put (k : ID) (v : Int) : ∀ (L : List (ID × Int)), (L.map (·.1)).Nodup → ((kPut k v L).map (·.1)).Nodup := by
  intro L
  induction L with
  | nil => intro _; simp [kPut]
  | cons x L ih =>
    obtain ⟨j, u⟩ := x
    intro h
    rw [List.map_cons, List.nodup_cons] at h
    unfold kPut
    by_cases hj : k = j
    · rw [if_pos hj]; exact List.nodup_cons.2 h
    · rw [if_neg hj, List.map_cons, List.nodup_cons]
      refine ⟨fun hm => ?_, ih h.2⟩
      rcases (keys_put k v L j).1 hm with h1 | h1
      · exact hj h1.symm
      · exact h.1 h1
theorem kGet_mem {L : List (ID × Int)} (hn : (L.map (·.1)).Nodup) {x : ID × Int} (hx : x ∈ L) : kGet x.1 L = some x.2 := by
  induction L with
  | nil => cases hx
  | cons y L ih =>
    obtain ⟨j, u⟩ := y
    rw [List.map_cons, List.nodup_cons] at hn
    unfold kGet
    rcases List.mem_cons.1 hx with rfl | hx
    · rw [if_pos rfl]
    · have hne : ¬ x.1 = j := fun e => hn.1 (by rw [← e]; exact List.mem_map.2 ⟨x, hx, rfl⟩)
      rw [if_neg hne]
      exact ih hn.2 hx
theorem kGet_none {L : List (ID × Int)} {k : ID} (h : k ∉ L.map (·.1)) : kGet k L = none := by
  induction L with
  | nil => rfl
  | cons y L ih =>
    obtain ⟨j, u⟩ := y
    simp only [List.map_cons, List.mem_cons, not_or] at h
    unfold kGet
    rw [if_neg h.1]
    exact ih h.2
/-! ### names put in order -/
def leI (a b : ID) : Bool := !ltI b a
def sortI (l : List ID) : List ID := l.mergeSort leI
theorem sortI_perm (l : List ID) : (sortI l).Perm l := List.mergeSort_perm _ _
theorem leI_antisymm {a b : ID} (h1 : leI a b = true) (h2 : leI b a = true) : a = b := by
  unfold leI at h1 h2
  rcases ltI_total a b with h | h | h
  · rw [h] at h2; cases h2
  · exact h
  · rw [h] at h1; cases h1
theorem leI_lt {a b : ID} (h : leI a b = true) (hne : a ≠ b) : ltI a b = true := by
  rcases ltI_total a b with h1 | h1 | h1
  · exact h1
  · exact absurd h1 hne
  · unfold leI at h; rw [h1] at h; cases h
theorem sortI_le (l : List ID) : (sortI l).Pairwise fun a b => leI a b = true := by
  refine List.pairwise_mergeSort (le := leI) ?_ ?_ l
  · intro a b c h1 h2
    unfold leI at *
    simp only [Bool.not_eq_true'] at *
    cases h : ltI c a with
    | false => rfl
    | true =>
      rcases ltI_total b c with h3 | h3 | h3
      · have := ltI_trans h3 h; rw [h1] at this; cases this
      · subst h3; rw [h1] at h; cases h
      · rw [h3] at h2; cases h2
  · intro a b
    unfold leI
    cases h : ltI b a with
    | false => simp
    | true => simp [ltI_asymm h]
theorem sortI_lt {l : List ID} (hn : l.Nodup) : (sortI l).Pairwise fun a b => ltI a b = true := by
  have h1 := sortI_le l
  have h2 : (sortI l).Nodup := (sortI_perm l).nodup_iff.2 hn
  exact (h1.and h2).imp fun h => leI_lt h.1 h.2
/-- the bag that a map is -/
def bagOf (L : List (ID × Int)) : List Vt := (sortI ((L.filter fun x => decide (0 < x.2)).map (·.1))).map fun id => ⟨id, getN L id⟩
theorem filter_keys {L : List (ID × Int)} (hn : (L.map (·.1)).Nodup) (id : ID) : id ∈ (L.filter fun x => decide (0 < x.2)).map (·.1) ↔ 0 < getN L id := by
  constructor
  · intro h
    obtain ⟨x, hx, rfl⟩ := List.mem_map.1 h
    rw [List.mem_filter] at hx
    unfold getN
    rw [kGet_mem hn hx.1]
    simpa using hx.2
  · intro h
    by_cases hm : id ∈ L.map (·.1)
    · obtain ⟨x, hx, rfl⟩ := List.mem_map.1 hm
      unfold getN at h
      rw [kGet_mem hn hx] at h
      exact List.mem_map.2 ⟨x, List.mem_filter.2 ⟨hx, by simpa using h⟩, rfl⟩
    · unfold getN at h
      rw [kGet_none hm] at h
      simp at h
theorem bagOf_asc {L : List (ID × Int)} (hn : (L.map (·.1)).Nodup) : Asc (bagOf L) := by
  unfold bagOf Asc
  rw [List.pairwise_map]
  refine sortI_lt ?_
  exact List.Nodup.sublist (List.Sublist.map _ List.filter_sublist) hn
theorem bagOf_pos {L : List (ID × Int)} (hn : (L.map (·.1)).Nodup) : Pos (bagOf L) := by
  intro x hx
  unfold bagOf at hx
  obtain ⟨id, hid, rfl⟩ := List.mem_map.1 hx
  have := (filter_keys hn id).1 ((sortI_perm _).mem_iff.1 hid)
  show 1 ≤ getN L id
  omega
theorem cnt_map (f : ID → Int) (id : ID) : ∀ (l : List ID), l.Nodup → cnt id (l.map fun k => ⟨k, f k⟩) = if id ∈ l then f id else 0 := by
  intro l
  induction l with
  | nil => intro _; simp [cnt]
  | cons k l ih =>
    intro hn
    rw [List.nodup_cons] at hn
    simp only [List.map_cons, cnt]
    rw [ih hn.2]
    by_cases hk : k = id
    · subst hk
      rw [if_pos rfl, if_neg hn.1, if_pos (by simp)]; omega
    · rw [if_neg hk]
      by_cases hm : id ∈ l
      · rw [if_pos hm, if_pos (by simp [hm])]; omega
      · rw [if_neg hm, if_neg (by simp [hm, Ne.symm hk])]; omega
theorem bagOf_cnt {L : List (ID × Int)} (hn : (L.map (·.1)).Nodup) (id : ID) : cnt id (bagOf L) = if 0 < getN L id then getN L id else 0 := by
  unfold bagOf
  have hnd : (sortI ((L.filter fun x => decide (0 < x.2)).map (·.1))).Nodup := (sortI_perm _).nodup_iff.2 (List.Nodup.sublist (List.Sublist.map _ List.filter_sublist) hn)
  rw [cnt_map _ _ _ hnd]
  by_cases h : 0 < getN L id
  · rw [if_pos h, if_pos ((sortI_perm _).mem_iff.2 ((filter_keys hn id).2 h))]
  · rw [if_neg h, if_neg (fun hm => h ((filter_keys hn id).1 ((sortI_perm _).mem_iff.1 hm)))]
theorem bagOf_len (L : List (ID × Int)) : (bagOf L).length ≤ L.length := by
  unfold bagOf
  rw [List.length_map, (sortI_perm _).length_eq, List.length_map]
  exact List.length_filter_le _ _
/-- votes gathered into a map -/
def gathK (L : List (ID × Int)) : List Vt → List (ID × Int)
  | [] => L
  | x :: r => gathK (kPut x.id (getN L x.id + x.n) L) r
theorem gathK_getN (id : ID) : ∀ (l : List Vt) (L : List (ID × Int)), getN (gathK L l) id = getN L id + cnt id l := by
  intro l
  induction l with
  | nil => intro L; simp [gathK, cnt]
  | cons x r ih =>
    intro L
    simp only [gathK, cnt]
    rw [ih, getN_put]
    by_cases h : id = x.id
    · subst h; rw [if_pos rfl, if_pos rfl]; omega
    · rw [if_neg h, if_neg (Ne.symm h)]; omega
theorem gathK_nodup : ∀ (l : List Vt) (L : List (ID × Int)), (L.map (·.1)).Nodup → ((gathK L l).map (·.1)).Nodup := by
  intro l
  induction l with
  | nil => intro L h; exact h
  | cons x r ih => intro L h; exact ih _ (nodup_put _ _ _ h)
theorem kPut_len (k : ID) (v : Int) : ∀ (L : List (ID × Int)), (kPut k v L).length ≤ L.length + 1 := by
  intro L
  induction L with
  | nil => simp [kPut]
  | cons x L ih =>
    obtain ⟨j, u⟩ := x
    unfold kPut
    split
    · simp
    · simp; exact ih
theorem gathK_len : ∀ (l : List Vt) (L : List (ID × Int)), (gathK L l).length ≤ L.length + l.length := by
  intro l
  induction l with
  | nil => intro L; simp [gathK]
  | cons x r ih =>
    intro L
    have h1 := ih (kPut x.id (getN L x.id + x.n) L)
    have h2 := kPut_len x.id (getN L x.id + x.n) L
    simp only [gathK, List.length_cons]
    omega
/-- a bag, gathered -/
theorem bagOf_gath {l : List Vt} (ha : Asc l) (hp : Pos l) : bagOf (gathK [] l) = l := by
  have hn := gathK_nodup l [] (by simp)
  refine bag_uniq (bagOf_asc hn) ha (bagOf_pos hn) hp (fun id => ?_)
  rw [bagOf_cnt hn, gathK_getN]
  have h0 : getN [] id = 0 := rfl
  rw [h0, Int.zero_add]
  have := cnt_nonneg (id := id) hp
  split <;> omega
theorem bagOf_put {l : List Vt} (ha : Asc l) (hp : Pos l) (id : ID) {n : Int} (hn0 : 0 ≤ n) : bagOf (kPut id (getN (gathK [] l) id + n) (gathK [] l)) = putV l id n := by
  have hn := nodup_put id (getN (gathK [] l) id + n) _ (gathK_nodup l [] (by simp))
  refine bag_uniq (bagOf_asc hn) (putV_asc ha id n) (bagOf_pos hn) (putV_pos hp id hn0) (fun id' => ?_)
  rw [bagOf_cnt hn, getN_put, gathK_getN, putV_cnt, gathK_getN]
  have h0 : ∀ i, getN [] i = 0 := fun _ => rfl
  rw [h0, h0, Int.zero_add, Int.zero_add]
  have := cnt_nonneg (id := id') hp
  by_cases h : id' = id
  · subst h
    rw [if_pos rfl, if_pos rfl]
    split <;> omega
  · rw [if_neg h, if_neg (Ne.symm h)]
    split <;> omega
/-- two bags in one -/
def mergeV (a : List Vt) : List Vt → List Vt
  | [] => a
  | x :: r => mergeV (putV a x.id x.n) r
theorem mergeV_cnt (id : ID) : ∀ (b a : List Vt), cnt id (mergeV a b) = cnt id a + cnt id b := by
  intro b
  induction b with
  | nil => intro a; simp [mergeV, cnt]
  | cons x r ih =>
    intro a
    simp only [mergeV, cnt]
    rw [ih, putV_cnt]; omega
theorem mergeV_ok : ∀ (b a : List Vt), Asc a → Pos a → Pos b → Asc (mergeV a b) ∧ Pos (mergeV a b) := by
  intro b
  induction b with
  | nil => intro a h1 h2 _; exact ⟨h1, h2⟩
  | cons x r ih =>
    intro a h1 h2 h3
    have := h3 x (by simp)
    exact ih _ (putV_asc h1 _ _) (putV_pos h2 _ (by omega)) (fun y hy => h3 y (by simp [hy]))
theorem mergeV_sum : ∀ (b a : List Vt), sumN (mergeV a b) = sumN a + sumN b := by
  intro b
  induction b with
  | nil => intro a; simp [mergeV, sumN]
  | cons x r ih => intro a; simp only [mergeV, sumN]; rw [ih, putV_sum]; omega
theorem bagOf_merge {a b : List Vt} (ha : Asc a) (hp : Pos a) (hpb : Pos b) : bagOf (gathK (gathK [] a) b) = mergeV a b := by
  have hn := gathK_nodup b _ (gathK_nodup a [] (by simp))
  obtain ⟨h1, h2⟩ := mergeV_ok b a ha hp hpb
  refine bag_uniq (bagOf_asc hn) h1 (bagOf_pos hn) h2 (fun id => ?_)
  rw [bagOf_cnt hn, gathK_getN, gathK_getN, mergeV_cnt]
  have h0 : getN [] id = 0 := rfl
  rw [h0, Int.zero_add]
  have := cnt_nonneg (id := id) hp
  have := cnt_nonneg (id := id) hpb
  split <;> omega
/-- the bag of names -/
def ofV (l : List Vt) : List ID → List Vt
  | [] => l
  | id :: r => ofV (putV l id 1) r
def ones : List ID → List Vt := List.map fun id => ⟨id, 1⟩
theorem ofV_merge : ∀ (ids : List ID) (l : List Vt), ofV l ids = mergeV l (ones ids) := by
  intro ids
  induction ids with
  | nil => intro l; rfl
  | cons id r ih => intro l; simp only [ofV, ones, List.map_cons, mergeV]; exact ih _
theorem ones_pos (ids : List ID) : Pos (ones ids) := fun x hx => by
  unfold ones at hx
  obtain ⟨id, _, rfl⟩ := List.mem_map.1 hx
  exact Int.le_refl 1
theorem ones_sum (ids : List ID) : sumN (ones ids) = ids.length := by
  induction ids with
  | nil => rfl
  | cons id r ih => simp only [ones, List.map_cons, sumN, List.length_cons] at *; rw [ih]; omega
theorem bagOf_ones (ids : List ID) : bagOf (gathK [] (ones ids)) = ofV [] ids := by
  rw [ofV_merge]
  exact bagOf_merge (a := []) List.Pairwise.nil (fun x hx => by cases hx) (ones_pos ids)
end Go.Proofs.Ytfejhekoijemdaa
namespace Go.Proofs.Ytfejhekoijemdaa

/-! ### what is told of a bag -/
def goodV (l : List Vt) : List Vt := if bagE l = 0 then l else []
theorem goodV_ok (l : List Vt) : Asc (goodV l) ∧ Pos (goodV l) ∧ sumN (goodV l) ≤ 1048576 := by
  unfold goodV
  split
  · rename_i h; exact bagE_0 h
  · exact ⟨List.Pairwise.nil, fun x hx => (by cases hx), by decide⟩
theorem goodV_len (l : List Vt) : (goodV l).length ≤ l.length := by unfold goodV; split <;> simp
theorem goodV_of {l : List Vt} (h : bagE l = 0) : goodV l = l := if_pos h
def totV (l : List Vt) : Int := sumN (goodV l)
def countV (l : List Vt) (id : ID) : Int := cnt id (goodV l)
def modeF : Vt → List Vt → Vt
  | b, [] => b
  | b, x :: r => modeF (if b.n < x.n then x else b) r
def modeV (l : List Vt) : Vt := modeF ⟨ID.zero, 0⟩ (goodV l)
def atlV (l : List Vt) (n : Int) : List ID := ((goodV l).filter fun x => decide (n ≤ x.n)).map (·.id)
def onlyV (l : List Vt) (ids : List ID) : List Vt := (goodV l).filter fun x => decide (x.id ∈ ids)
theorem totV_bd (l : List Vt) : 0 ≤ totV l ∧ totV l ≤ 1048576 := ⟨sumN_pos (goodV_ok l).2.1, (goodV_ok l).2.2⟩
theorem cnt_at {l : List Vt} (ha : Asc l) {x : Vt} (hx : x ∈ l) : cnt x.id l = x.n := by
  induction l with
  | nil => cases hx
  | cons y l ih =>
    have hy := List.pairwise_cons.1 ha
    simp only [cnt]
    rcases List.mem_cons.1 hx with rfl | hx
    · rw [if_pos rfl, cnt_gt (fun z hz e => ltI_ne (hy.1 z hz) e.symm)]; omega
    · rw [if_neg (ltI_ne (hy.1 x hx)), ih hy.2 hx]; omega
theorem modeF_max : ∀ (l : List Vt) (b : Vt), b.n ≤ (modeF b l).n ∧ (∀ x ∈ l, x.n ≤ (modeF b l).n) ∧ (modeF b l = b ∨ modeF b l ∈ l) := by
  intro l
  induction l with
  | nil => intro b; exact ⟨Int.le_refl _, fun x hx => (by cases hx), .inl rfl⟩
  | cons y r ih =>
    intro b
    simp only [modeF]
    obtain ⟨h1, h2, h3⟩ := ih (if b.n < y.n then y else b)
    by_cases h : b.n < y.n
    · rw [if_pos h] at h1 h2 h3 ⊢
      refine ⟨by omega, fun x hx => ?_, ?_⟩
      · rcases List.mem_cons.1 hx with rfl | hx
        · exact h1
        · exact h2 x hx
      · rcases h3 with e | e
        · right; rw [e]; simp
        · right; simp [e]
    · rw [if_neg h] at h1 h2 h3 ⊢
      refine ⟨h1, fun x hx => ?_, ?_⟩
      · rcases List.mem_cons.1 hx with rfl | hx
        · omega
        · exact h2 x hx
      · rcases h3 with e | e
        · exact .inl e
        · right; simp [e]
theorem mode_count {l : List Vt} (h : bagE l = 0) : countV l (modeV l).id = (modeV l).n ∧ ∀ x ∈ l, x.n ≤ (modeV l).n := by
  obtain ⟨ha, hp, hs⟩ := bagE_0 h
  have hg := goodV_of h
  unfold countV modeV
  rw [hg]
  obtain ⟨h1, h2, h3⟩ := modeF_max l ⟨ID.zero, 0⟩
  refine ⟨?_, h2⟩
  rcases h3 with e | e
  · have hn : (modeF ⟨ID.zero, 0⟩ l).n = 0 := by rw [e]
    have hl : l = [] := by
      cases l with
      | nil => rfl
      | cons x r =>
        have := h2 x (by simp)
        have := hp x (by simp)
        omega
    subst hl
    rfl
  · exact cnt_at ha e
theorem atl_len {k : Int} (hk : 1 ≤ k) : ∀ {l : List Vt}, Pos l → k * (((l.filter fun x => decide (k ≤ x.n)).map (·.id)).length : Int) ≤ sumN l := by
  intro l
  induction l with
  | nil => intro _; simp [sumN]
  | cons x r ih =>
    intro hp
    have h1 := ih (fun y hy => hp y (by simp [hy]))
    have h2 := hp x (by simp)
    simp only [sumN]
    by_cases h : k ≤ x.n
    · rw [List.filter_cons, if_pos (by simpa using h), List.map_cons, List.length_cons]
      push_cast
      rw [Int.mul_add]
      omega
    · rw [List.filter_cons, if_neg (by simpa using h)]
      omega
/-! ### occurrences -/
theorem cnt_ones_perm {a b : List ID} (h : a.Perm b) (id : ID) : cnt id (ones a) = cnt id (ones b) := by
  induction h with
  | nil => rfl
  | cons x _ ih => simp only [ones, List.map_cons, cnt] at *; omega
  | swap x y l => simp only [ones, List.map_cons, cnt]; omega
  | trans _ _ h1 h2 => exact h1.trans h2
theorem cnt_append (id : ID) (a b : List Vt) : cnt id (a ++ b) = cnt id a + cnt id b := by
  induction a with
  | nil => simp [cnt]
  | cons x a ih => simp only [List.cons_append, cnt, ih]; omega
theorem ofV_ok (ids : List ID) : Asc (ofV [] ids) ∧ Pos (ofV [] ids) ∧ sumN (ofV [] ids) = ids.length ∧ ∀ id, cnt id (ofV [] ids) = cnt id (ones ids) := by
  rw [ofV_merge]
  obtain ⟨h1, h2⟩ := mergeV_ok (ones ids) [] List.Pairwise.nil (fun x hx => by cases hx) (ones_pos ids)
  refine ⟨h1, h2, ?_, fun id => ?_⟩
  · rw [mergeV_sum, ones_sum]; simp [sumN]
  · rw [mergeV_cnt]; simp [cnt]
theorem ofV_bag {ids : List ID} (h : ids.length ≤ 1048576) : bagE (ofV [] ids) = 0 := by
  obtain ⟨h1, h2, h3, _⟩ := ofV_ok ids
  exact bagE_of h1 h2 (by rw [h3]; omega)
theorem ofV_perm {a b : List ID} (h : a.Perm b) : ofV [] a = ofV [] b := by
  obtain ⟨h1, h2, _, h4⟩ := ofV_ok a
  obtain ⟨k1, k2, _, k4⟩ := ofV_ok b
  exact bag_uniq h1 k1 h2 k2 (fun id => by rw [h4, k4]; exact cnt_ones_perm h id)
theorem ofV_parts (ids : List ID) (k : Nat) : mergeV (ofV [] (ids.take k)) (ofV [] (ids.drop k)) = ofV [] ids := by
  obtain ⟨h1, h2, _, h4⟩ := ofV_ok (ids.take k)
  obtain ⟨k1, k2, _, k4⟩ := ofV_ok (ids.drop k)
  obtain ⟨m1, m2, _, m4⟩ := ofV_ok ids
  obtain ⟨n1, n2⟩ := mergeV_ok (ofV [] (ids.drop k)) (ofV [] (ids.take k)) h1 h2 k2
  refine bag_uniq n1 m1 n2 m2 (fun id => ?_)
  rw [mergeV_cnt, h4, k4, m4, ← cnt_append]
  congr 1
  unfold ones
  rw [← List.map_append, List.take_append_drop]
theorem ofV_snoc (ids : List ID) (id : ID) : ∀ l, ofV l (ids ++ [id]) = putV (ofV l ids) id 1 := by
  induction ids with
  | nil => intro l; rfl
  | cons x r ih => intro l; simp only [List.cons_append, ofV]; exact ih _
/-! ### parts -/
theorem cnt_filter (id : ID) (p : Vt → Bool) (l : List Vt) : cnt id (l.filter p) + cnt id (l.filter fun x => !p x) = cnt id l := by
  induction l with
  | nil => rfl
  | cons x r ih =>
    rw [List.filter_cons, List.filter_cons]
    cases h : p x
    · simp only [Bool.not_false, if_true, Bool.false_eq_true, if_false, cnt]; omega
    · simp only [Bool.not_true, if_true, Bool.false_eq_true, if_false, cnt]; omega
theorem sum_filter (p : Vt → Bool) (l : List Vt) : sumN (l.filter p) + sumN (l.filter fun x => !p x) = sumN l := by
  induction l with
  | nil => rfl
  | cons x r ih =>
    rw [List.filter_cons, List.filter_cons]
    cases h : p x
    · simp only [Bool.not_false, if_true, Bool.false_eq_true, if_false, sumN]; omega
    · simp only [Bool.not_true, if_true, Bool.false_eq_true, if_false, sumN]; omega
theorem filter_bag {l : List Vt} (h : bagE l = 0) (p : Vt → Bool) : bagE (l.filter p) = 0 := by
  obtain ⟨ha, hp, hs⟩ := bagE_0 h
  have hp1 : Pos (l.filter p) := fun x hx => hp x (List.mem_filter.1 hx).1
  have hp2 : Pos (l.filter fun x => !p x) := fun x hx => hp x (List.mem_filter.1 hx).1
  have h1 := sum_filter p l
  have h2 := sumN_pos hp2
  exact bagE_of (ha.sublist List.filter_sublist) hp1 (by omega)
theorem parts_merge {l : List Vt} (h : bagE l = 0) (p : Vt → Bool) : mergeV (l.filter p) (l.filter fun x => !p x) = l := by
  obtain ⟨ha, hp, hs⟩ := bagE_0 h
  obtain ⟨a1, p1, _⟩ := bagE_0 (filter_bag h p)
  obtain ⟨a2, p2, _⟩ := bagE_0 (filter_bag h (fun x => !p x))
  obtain ⟨n1, n2⟩ := mergeV_ok _ _ a1 p1 p2
  refine bag_uniq n1 ha n2 hp (fun id => ?_)
  rw [mergeV_cnt]
  exact cnt_filter id p l
end Go.Proofs.Ytfejhekoijemdaa
