import Derived.Test.YtmgpfmgmpmkkaaaGreatWide
namespace Go.Proofs.YtmgpfmgmpmkkaaaGreat

/-! ### names in order -/
def ltL : List UInt8 → List UInt8 → Bool
  | [], _ => false
  | _ :: _, [] => false
  | x :: a, y :: b => if x = y then ltL a b else decide (x < y)
def ltI (a b : ID) : Bool := ltL a.l b.l
theorem ltL_irrefl : ∀ a, ltL a a = false := by
  intro a
  induction a with
  | nil => rfl
  | cons x a ih => simp [ltL, ih]
theorem ltL_trans : ∀ a b c, ltL a b = true → ltL b c = true → ltL a c = true := by
  intro a
  induction a with
  | nil => intro b c h; simp [ltL] at h
  | cons x a ih =>
    intro b c h1 h2
    cases b with
    | nil => simp [ltL] at h1
    | cons y b =>
      cases c with
      | nil => simp [ltL] at h2
      | cons z c =>
        simp only [ltL] at h1 h2 ⊢
        by_cases hxy : x = y
        · subst hxy
          rw [if_pos rfl] at h1
          by_cases hxz : x = z
          · subst hxz
            rw [if_pos rfl] at h2 ⊢
            exact ih b c h1 h2
          · rw [if_neg hxz] at h2 ⊢; exact h2
        · rw [if_neg hxy] at h1
          by_cases hyz : y = z
          · subst hyz
            rw [if_neg hxy]; exact h1
          · rw [if_neg hyz] at h2
            have h1' : x < y := by simpa using h1
            have h2' : y < z := by simpa using h2
            have h3 : x < z := UInt8.lt_trans h1' h2'
            have hne : ¬ x = z := fun e => by subst e; exact UInt8.lt_irrefl _ h3
            rw [if_neg hne]; simpa using h3
theorem ltL_total : ∀ a b : List UInt8, a.length = b.length → ltL a b = true ∨ a = b ∨ ltL b a = true := by
  intro a
  induction a with
  | nil => intro b h; right; left; exact (List.eq_nil_of_length_eq_zero h.symm).symm
  | cons x a ih =>
    intro b h
    cases b with
    | nil => simp at h
    | cons y b =>
      simp only [ltL]
      by_cases hxy : x = y
      · subst hxy
        rw [if_pos rfl, if_pos rfl]
        rcases ih b (by simpa using h) with h | h | h
        · exact .inl h
        · exact .inr (.inl (by rw [h]))
        · exact .inr (.inr h)
      · rw [if_neg hxy, if_neg (Ne.symm hxy)]
        rcases UInt8.lt_or_lt_of_ne hxy with h | h
        · left; simpa using h
        · right; right; simpa using h
theorem ltI_irrefl (a : ID) : ltI a a = false := ltL_irrefl _
theorem ltI_trans {a b c : ID} (h1 : ltI a b = true) (h2 : ltI b c = true) : ltI a c = true := ltL_trans _ _ _ h1 h2
theorem ltI_total (a b : ID) : ltI a b = true ∨ a = b ∨ ltI b a = true := by
  rcases ltL_total a.l b.l (by rw [a.h, b.h]) with h | h | h
  · exact .inl h
  · exact .inr (.inl (ID.ext' h))
  · exact .inr (.inr h)
theorem ltI_asymm {a b : ID} (h : ltI a b = true) : ltI b a = false := by
  cases hb : ltI b a with
  | false => rfl
  | true => have := ltI_trans h hb; rw [ltI_irrefl] at this; cases this
theorem ltI_ne {a b : ID} (h : ltI a b = true) : a ≠ b := fun e => by subst e; rw [ltI_irrefl] at h; cases h
/-! ### votes -/
structure Vt where
  id : ID
  n : Int
deriving DecidableEq
def Asc (l : List Vt) : Prop := l.Pairwise fun x y => ltI x.id y.id = true
def sumN : List Vt → Int
  | [] => 0
  | x :: r => x.n + sumN r
def cnt (id : ID) : List Vt → Int
  | [] => 0
  | x :: r => (if x.id = id then x.n else 0) + cnt id r
def okP : Option ID → ID → Bool
  | none, _ => true
  | some q, x => ltI q x
def bagF : Option ID → Int → List Vt → Bool
  | _, _, [] => true
  | p, left, x :: r => if okP p x.id = false ∨ x.n < 1 ∨ left < x.n then false else bagF (some x.id) (left - x.n) r
theorem bagF_cons (p : Option ID) (left : Int) (x : Vt) (r : List Vt) : bagF p left (x :: r) = if okP p x.id = false ∨ x.n < 1 ∨ left < x.n then false else bagF (some x.id) (left - x.n) r := rfl
def bagE (l : List Vt) : Int := if bagF none 1048576 l = true then 0 else 70
def Pos (l : List Vt) : Prop := ∀ x ∈ l, 1 ≤ x.n
theorem sumN_pos {l : List Vt} (h : Pos l) : 0 ≤ sumN l := by
  induction l with
  | nil => exact Int.le_refl _
  | cons x l ih =>
    have := ih (fun y hy => h y (by simp [hy]))
    have := h x (by simp)
    simp only [sumN]; omega
theorem bagF_iff : ∀ (l : List Vt) (p : Option ID) (left : Int), bagF p left l = true ↔ (0 ≤ left ∨ l = []) ∧ (∀ x ∈ l, okP p x.id = true) ∧ Asc l ∧ Pos l ∧ (l = [] ∨ sumN l ≤ left) := by
  intro l
  induction l with
  | nil => intro p left; simp [bagF, Asc, Pos]
  | cons x r ih =>
    intro p left
    rw [bagF_cons]
    constructor
    · intro h
      split at h
      · cases h
      · rename_i hn
        simp only [not_or] at hn
        obtain ⟨h1, h2, h3, h4, h5⟩ := (ih _ _).1 h
        have hpx : okP p x.id = true := by simpa using hn.1
        have hs : sumN (x :: r) ≤ left := by
          rcases h5 with rfl | h5
          · simp only [sumN]; omega
          · simp only [sumN]; omega
        refine ⟨.inl (by omega), ?_, ?_, ?_, .inr hs⟩
        · intro y hy
          rcases List.mem_cons.1 hy with rfl | hy
          · exact hpx
          · have hxy : ltI x.id y.id = true := h2 y hy
            cases p with
            | none => rfl
            | some q => exact ltI_trans hpx hxy
        · exact List.pairwise_cons.2 ⟨fun y hy => h2 y hy, h3⟩
        · intro y hy
          rcases List.mem_cons.1 hy with rfl | hy
          · omega
          · exact h4 y hy
    · rintro ⟨h1, h2, h3, h4, h5⟩
      have hx := h4 x (by simp)
      have hr : Pos r := fun y hy => h4 y (by simp [hy])
      have hs0 := sumN_pos hr
      have hs : sumN (x :: r) ≤ left := by
        rcases h5 with h | h
        · cases h
        · exact h
      simp only [sumN] at hs
      rw [if_neg (by
        have := h2 x (by simp)
        rintro (h | h | h)
        · rw [this] at h; cases h
        · omega
        · omega)]
      refine (ih _ _).2 ⟨.inl (by omega), fun y hy => (List.pairwise_cons.1 h3).1 y hy, (List.pairwise_cons.1 h3).2, hr, .inr (by omega)⟩
theorem bagE_0 {l : List Vt} (h : bagE l = 0) : Asc l ∧ Pos l ∧ sumN l ≤ 1048576 := by
  unfold bagE at h
  split at h
  · rename_i hb
    obtain ⟨_, _, h1, h2, h3⟩ := (bagF_iff l none 1048576).1 hb
    refine ⟨h1, h2, ?_⟩
    rcases h3 with rfl | h
    · decide
    · exact h
  · cases h
theorem bagE_of {l : List Vt} (h1 : Asc l) (h2 : Pos l) (h3 : sumN l ≤ 1048576) : bagE l = 0 := by
  unfold bagE
  rw [if_pos ((bagF_iff l none 1048576).2 ⟨.inl (by decide), fun _ _ => rfl, h1, h2, .inr h3⟩)]
theorem bagE_cases (l : List Vt) : bagE l = 0 ∨ bagE l = 70 := by unfold bagE; split <;> simp
theorem len_sum {l : List Vt} (h : Pos l) : (l.length : Int) ≤ sumN l := by
  induction l with
  | nil => exact Int.le_refl _
  | cons x l ih =>
    have := ih (fun y hy => h y (by simp [hy]))
    have := h x (by simp)
    simp only [sumN, List.length_cons]; omega
/-! ### a bag is what it counts -/
theorem cnt_gt {id : ID} {l : List Vt} (h : ∀ x ∈ l, x.id ≠ id) : cnt id l = 0 := by
  induction l with
  | nil => rfl
  | cons x l ih =>
    simp only [cnt]
    rw [if_neg (h x (by simp)), ih (fun y hy => h y (by simp [hy]))]; rfl
theorem cnt_nonneg {id : ID} {l : List Vt} (h : Pos l) : 0 ≤ cnt id l := by
  induction l with
  | nil => exact Int.le_refl _
  | cons x l ih =>
    have := ih (fun y hy => h y (by simp [hy]))
    have := h x (by simp)
    simp only [cnt]; split <;> omega
theorem bag_uniq : ∀ {l l' : List Vt}, Asc l → Asc l' → Pos l → Pos l' → (∀ id, cnt id l = cnt id l') → l = l' := by
  intro l
  induction l with
  | nil =>
    intro l' _ _ _ hp h
    cases l' with
    | nil => rfl
    | cons y r =>
      have h1 := h y.id
      have h2 := hp y (by simp)
      have h3 := cnt_nonneg (id := y.id) (l := r) (fun z hz => hp z (by simp [hz]))
      simp only [cnt, if_pos] at h1
      omega
  | cons x r ih =>
    intro l' ha ha' hp hp' h
    have hpx := hp x (by simp)
    have hpr : Pos r := fun z hz => hp z (by simp [hz])
    have hax := List.pairwise_cons.1 ha
    cases l' with
    | nil =>
      have h1 := h x.id
      have h3 := cnt_nonneg (id := x.id) hpr
      simp only [cnt, if_pos] at h1
      omega
    | cons y s =>
      have hpy := hp' y (by simp)
      have hps : Pos s := fun z hz => hp' z (by simp [hz])
      have hay := List.pairwise_cons.1 ha'
      have c0 : cnt x.id r = 0 := cnt_gt (fun z hz e => ltI_ne (hax.1 z hz) e.symm)
      have c1 : cnt y.id s = 0 := cnt_gt (fun z hz e => ltI_ne (hay.1 z hz) e.symm)
      have he : x.id = y.id := by
        rcases ltI_total x.id y.id with hlt | he | hlt
        · exfalso
          have h1 := h x.id
          have : cnt x.id (y :: s) = 0 := cnt_gt (fun z hz e => by
            rcases List.mem_cons.1 hz with rfl | hz
            · exact ltI_ne hlt e.symm
            · exact ltI_ne (ltI_trans hlt (hay.1 z hz)) e.symm)
          rw [this] at h1
          simp only [cnt, if_pos] at h1
          omega
        · exact he
        · exfalso
          have h1 := h y.id
          have : cnt y.id (x :: r) = 0 := cnt_gt (fun z hz e => by
            rcases List.mem_cons.1 hz with rfl | hz
            · exact ltI_ne hlt e.symm
            · exact ltI_ne (ltI_trans hlt (hax.1 z hz)) e.symm)
          rw [this] at h1
          simp only [cnt, if_pos] at h1
          omega
      have hn : x.n = y.n := by
        have h1 := h x.id
        simp only [cnt] at h1
        rw [if_pos trivial, if_pos he.symm, c0, he, c1] at h1
        omega
      have hxy : x = y := by cases x; cases y; simp_all
      subst hxy
      congr 1
      refine ih hax.2 hay.2 hpr hps (fun id => ?_)
      have h1 := h id
      simp only [cnt] at h1
      omega
/-- the document's insertion -/
def insV (id : ID) (n : Int) : List Vt → List Vt
  | [] => [⟨id, n⟩]
  | x :: r => if ltI x.id id = true then x :: insV id n r else if x.id = id then ⟨id, n + x.n⟩ :: r else ⟨id, n⟩ :: x :: r
def putV (l : List Vt) (id : ID) (n : Int) : List Vt := if n = 0 then l else insV id n l
theorem insV_cnt (id : ID) (n : Int) (l : List Vt) (id' : ID) : cnt id' (insV id n l) = cnt id' l + if id = id' then n else 0 := by
  induction l with
  | nil => simp only [insV, cnt]; omega
  | cons x r ih =>
    unfold insV
    split
    · simp only [cnt, ih]; omega
    · split
      · rename_i he
        simp only [cnt, he]
        split <;> omega
      · simp only [cnt]; omega
theorem insV_mem {id : ID} {n : Int} {l : List Vt} {y : Vt} (h : y ∈ insV id n l) : y ∈ l ∨ y.id = id := by
  induction l with
  | nil => simp [insV] at h; right; rw [h]
  | cons x r ih =>
    unfold insV at h
    split at h
    · rcases List.mem_cons.1 h with rfl | h
      · left; simp
      · rcases ih h with h | h
        · left; simp [h]
        · exact .inr h
    · split at h
      · rcases List.mem_cons.1 h with rfl | h
        · exact .inr rfl
        · left; simp [h]
      · rcases List.mem_cons.1 h with rfl | h
        · exact .inr rfl
        · exact .inl h
theorem insV_asc {id : ID} {n : Int} {l : List Vt} (h : Asc l) : Asc (insV id n l) := by
  induction l with
  | nil => exact List.pairwise_cons.2 ⟨fun y hy => by simp at hy, List.Pairwise.nil⟩
  | cons x r ih =>
    have hx := List.pairwise_cons.1 h
    unfold insV
    split
    · rename_i hlt
      refine List.pairwise_cons.2 ⟨fun y hy => ?_, ih hx.2⟩
      rcases insV_mem hy with hy | hy
      · exact hx.1 y hy
      · rw [hy]; exact hlt
    · rename_i hnlt
      split
      · rename_i he
        refine List.pairwise_cons.2 ⟨fun y hy => ?_, hx.2⟩
        show ltI id y.id = true
        rw [← he]; exact hx.1 y hy
      · rename_i hne
        have hlt : ltI id x.id = true := by
          rcases ltI_total id x.id with h | h | h
          · exact h
          · exact absurd h.symm hne
          · exact absurd h hnlt
        refine List.pairwise_cons.2 ⟨fun y hy => ?_, h⟩
        rcases List.mem_cons.1 hy with rfl | hy
        · exact hlt
        · exact ltI_trans hlt (hx.1 y hy)
theorem insV_pos {id : ID} {n : Int} {l : List Vt} (hn : 1 ≤ n) (h : Pos l) : Pos (insV id n l) := by
  induction l with
  | nil => intro y hy; simp [insV] at hy; rw [hy]; exact hn
  | cons x r ih =>
    have hx := h x (by simp)
    have hr : Pos r := fun z hz => h z (by simp [hz])
    unfold insV
    split
    · intro y hy
      rcases List.mem_cons.1 hy with rfl | hy
      · exact hx
      · exact ih hr y hy
    · split
      · intro y hy
        rcases List.mem_cons.1 hy with rfl | hy
        · simp only; omega
        · exact hr y hy
      · intro y hy
        rcases List.mem_cons.1 hy with rfl | hy
        · exact hn
        · exact h y hy
theorem insV_sum (id : ID) (n : Int) (l : List Vt) : sumN (insV id n l) = n + sumN l := by
  induction l with
  | nil => simp [insV, sumN]
  | cons x r ih =>
    unfold insV
    split
    · simp only [sumN, ih]; omega
    · split <;> simp only [sumN] <;> omega
theorem insV_len (id : ID) (n : Int) (l : List Vt) : (insV id n l).length ≤ l.length + 1 := by
  induction l with
  | nil => simp [insV]
  | cons x r ih =>
    unfold insV
    split
    · simp; exact ih
    · split <;> simp
theorem putV_cnt (l : List Vt) (id : ID) (n : Int) (id' : ID) : cnt id' (putV l id n) = cnt id' l + if id = id' then n else 0 := by
  unfold putV
  split
  · rename_i h; subst h; split <;> omega
  · exact insV_cnt id n l id'
theorem putV_asc {l : List Vt} (h : Asc l) (id : ID) (n : Int) : Asc (putV l id n) := by unfold putV; split; exact h; exact insV_asc h
theorem putV_pos {l : List Vt} (h : Pos l) (id : ID) {n : Int} (hn : 0 ≤ n) : Pos (putV l id n) := by
  unfold putV
  split
  · exact h
  · exact insV_pos (by omega) h
theorem putV_sum (l : List Vt) (id : ID) (n : Int) : sumN (putV l id n) = n + sumN l := by
  unfold putV
  split
  · rename_i h; subst h; omega
  · exact insV_sum id n l
theorem putV_len (l : List Vt) (id : ID) (n : Int) : (putV l id n).length ≤ l.length + 1 := by
  unfold putV
  split
  · omega
  · exact insV_len id n l
end Go.Proofs.YtmgpfmgmpmkkaaaGreat
