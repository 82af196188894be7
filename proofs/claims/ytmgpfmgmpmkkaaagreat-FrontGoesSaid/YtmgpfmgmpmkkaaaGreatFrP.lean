import Derived.Test.YtmgpfmgmpmkkaaaGreatSrt
namespace Go.Proofs.YtmgpfmgmpmkkaaaGreat

/-! ### what the acts do, in plain words -/
def rangeI (n : Nat) : List Int := (List.range n).map fun (i : Nat) => (i : Int)
def zeroM : FrM := ⟨0, [], [], []⟩
def delI (l : List Int) (node : Int) : List Int := l.filter fun x => !(x == node)
def closedM (n : Nat) (m : FrM) (node : Int) : FrM :=
  if delI m.op node ≠ [] then { m with op := delI m.op node }
  else if m.phase = 1 ∧ m.tips ≠ [] then { m with phase := 2, op := rangeI n }
  else { m with phase := 3, op := [] }
def addT (tips : List ID) (id : ID) : List ID := if id ∈ tips then tips else sortI (tips ++ [id])
def sortS (l : List SaidM) : List SaidM := l.mergeSort fun a b => decide (a.node ≤ b.node)
def addS (m : FrM) (node : Int) (ids : List ID) : List SaidM := sortS (m.said ++ [⟨node, m.tips.filter fun id => decide (id ∈ ids)⟩])
def tipM (n : Nat) (m : FrM) (node : Int) (id : ID) : FrM := closedM n { m with tips := addT m.tips id } node
def accM (n : Nat) (m : FrM) (node : Int) (ids : List ID) : FrM := closedM n { m with said := addS m node ids } node
structure AnsM where
  fails : Bool
  tip : ID
  ids : List ID
instance : Inhabited AnsM := ⟨⟨true, default, []⟩⟩
def ansAt (av : List AnsM) (node : Int) : AnsM := if node < 0 then default else (av[node.toNat]?).getD default
def stepM (n : Nat) (m : FrM) (node : Int) (a : AnsM) : FrM :=
  if a.fails = true then closedM n m node else if m.phase = 1 then tipM n m node a.tip else accM n m node a.ids

/-! ### lists that rise -/
theorem asc_uniq {α : Type} {R : α → α → Prop} (h : ∀ a b, R a b → R b a → False) : ∀ {l l' : List α}, l.Pairwise R → l'.Pairwise R → (∀ x, x ∈ l ↔ x ∈ l') → l = l'
  | [], [], _, _, _ => rfl
  | [], b :: s, _, _, e => by simpa using (e b).2 (by simp)
  | a :: r, [], _, _, e => by simpa using (e a).1 (by simp)
  | a :: r, b :: s, p, q, e => by
    rw [List.pairwise_cons] at p q
    have hab : a = b := by
      rcases List.mem_cons.1 ((e a).1 (by simp)) with h1 | h1
      · exact h1
      · rcases List.mem_cons.1 ((e b).2 (by simp)) with h2 | h2
        · exact h2.symm
        · exact (h _ _ (p.1 b h2) (q.1 a h1)).elim
    subst hab
    congr 1
    refine asc_uniq h p.2 q.2 fun x => ?_
    constructor
    · intro hx
      rcases List.mem_cons.1 ((e x).1 (by simp [hx])) with h1 | h1
      · subst h1; exact (h _ _ (p.1 _ hx) (p.1 _ hx)).elim
      · exact h1
    · intro hx
      rcases List.mem_cons.1 ((e x).2 (by simp [hx])) with h1 | h1
      · subst h1; exact (h _ _ (q.1 _ hx) (q.1 _ hx)).elim
      · exact h1
theorem nodup_sub {α : Type} [DecidableEq α] : ∀ {l l' : List α}, l.Nodup → (∀ x ∈ l, x ∈ l') → l.length ≤ l'.length
  | [], _, _, _ => Nat.zero_le _
  | a :: r, l', hn, hs => by
    rw [List.nodup_cons] at hn
    have ha : a ∈ l' := hs a (by simp)
    have := nodup_sub (l := r) (l' := l'.erase a) hn.2 fun x hx => by
      have hne : x ≠ a := by rintro rfl; exact hn.1 hx
      exact (List.mem_erase_of_ne hne).2 (hs x (by simp [hx]))
    rw [List.length_erase_of_mem ha] at this
    have h0 : 0 < l'.length := List.length_pos_of_mem ha
    simp only [List.length_cons]
    omega
theorem risB_iff {l : List ID} : risB l = true ↔ l.Pairwise fun a b => ltI a b = true := by unfold risB; exact decide_eq_true_iff
theorem ris_nodup {l : List ID} (h : risB l = true) : l.Nodup := (risB_iff.1 h).imp fun h => ltI_ne h
theorem ris_uniq {l l' : List ID} (h : risB l = true) (h' : risB l' = true) (e : ∀ x, x ∈ l ↔ x ∈ l') : l = l' :=
  asc_uniq (fun a b h1 h2 => by rw [ltI_asymm h1] at h2; cases h2) (risB_iff.1 h) (risB_iff.1 h') e
theorem mem_addT {l : List ID} {id x : ID} : x ∈ addT l id ↔ x ∈ l ∨ x = id := by
  unfold addT
  split
  · rename_i h
    constructor
    · exact .inl
    · rintro (h1 | rfl)
      · exact h1
      · exact h
  · rw [(sortI_perm _).mem_iff]; simp
theorem ris_addT {l : List ID} (h : risB l = true) (id : ID) : risB (addT l id) = true := by
  unfold addT
  split
  · exact h
  · rename_i hid
    refine risB_iff.2 (sortI_lt ?_)
    rw [List.nodup_append]
    exact ⟨ris_nodup h, by simp, fun a ha b hb => by simp at hb; subst hb; rintro rfl; exact hid ha⟩
theorem len_addT (l : List ID) (id : ID) : (addT l id).length ≤ l.length + 1 := by
  unfold addT
  split
  · omega
  · rw [(sortI_perm _).length_eq]; simp
theorem ris_filter {l : List ID} (h : risB l = true) (p : ID → Bool) : risB (l.filter p) = true := risB_iff.2 ((risB_iff.1 h).filter p)
theorem sortS_perm (l : List SaidM) : (sortS l).Perm l := List.mergeSort_perm _ _
theorem sortS_le (l : List SaidM) : (sortS l).Pairwise fun a b => a.node ≤ b.node := by
  have := List.pairwise_mergeSort (le := fun a b : SaidM => decide (a.node ≤ b.node)) (fun a b c h1 h2 => by simp at *; omega) (fun a b => by simp; omega) l
  exact this.imp fun h => by simpa using h
def AscS (l : List SaidM) : Prop := l.Pairwise fun a b => a.node < b.node
theorem sortS_lt {l : List SaidM} (h : (l.map (·.node)).Nodup) : AscS (sortS l) := by
  have h1 := sortS_le l
  have h2 : ((sortS l).map (·.node)).Nodup := ((sortS_perm l).map _).nodup_iff.2 h
  rw [List.Nodup, List.pairwise_map] at h2
  exact (h1.and h2).imp fun ⟨a, b⟩ => by omega
theorem ascS_uniq {l l' : List SaidM} (h : AscS l) (h' : AscS l') (e : ∀ x, x ∈ l ↔ x ∈ l') : l = l' := asc_uniq (fun a b h1 h2 => by omega) h h' e
theorem ascS_nodup {l : List SaidM} (h : AscS l) : (l.map (·.node)).Nodup := by
  rw [List.Nodup, List.pairwise_map]
  exact h.imp fun h => by omega
theorem mem_rangeI {n : Nat} {x : Int} : x ∈ rangeI n ↔ 0 ≤ x ∧ x < n := by
  unfold rangeI
  rw [List.mem_map]
  constructor
  · rintro ⟨i, hi, rfl⟩
    rw [List.mem_range] at hi
    omega
  · intro h
    exact ⟨x.toNat, by rw [List.mem_range]; omega, by omega⟩
theorem asc_rangeI (n : Nat) : (rangeI n).Pairwise (· < ·) := by
  unfold rangeI
  rw [List.pairwise_map]
  exact List.pairwise_lt_range.imp fun h => by omega
theorem len_rangeI (n : Nat) : (rangeI n).length = n := by simp [rangeI]
theorem placesB_iff {n : Int} {l : List Int} : placesB n l = true ↔ (∀ x ∈ l, 0 ≤ x ∧ x < n) ∧ l.Pairwise (· < ·) := by
  unfold placesB
  rw [Bool.and_eq_true, decide_eq_true_iff, decide_eq_true_iff]
theorem places_rangeI (n : Nat) : placesB n (rangeI n) = true := placesB_iff.2 ⟨fun _ h => mem_rangeI.1 h, asc_rangeI n⟩
theorem places_filter {n : Int} {l : List Int} (h : placesB n l = true) (p : Int → Bool) : placesB n (l.filter p) = true := by
  rw [placesB_iff] at *
  exact ⟨fun x hx => h.1 x ((List.mem_filter.1 hx).1), h.2.filter p⟩
theorem places_nodup {n : Int} {l : List Int} (h : placesB n l = true) : l.Nodup := (placesB_iff.1 h).2.imp fun h => by omega
theorem places_len {n : Nat} {l : List Int} (h : placesB n l = true) : l.length ≤ n := by
  have := nodup_sub (places_nodup h) (l' := rangeI n) fun x hx => mem_rangeI.2 ((placesB_iff.1 h).1 x hx)
  rwa [len_rangeI] at this
end Go.Proofs.YtmgpfmgmpmkkaaaGreat
