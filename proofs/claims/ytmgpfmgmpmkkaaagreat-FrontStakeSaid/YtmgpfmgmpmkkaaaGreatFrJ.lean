import Derived.Test.YtmgpfmgmpmkkaaaGreatFrP
namespace Go.Proofs.YtmgpfmgmpmkkaaaGreat

/-! ### where a front stands behind so many answers -/
structure TipsOf (av : List AnsM) (D : List Int) (l : List ID) : Prop where
  ris : risB l = true
  len : l.length ≤ D.length
  mem : ∀ x, x ∈ l ↔ ∃ d ∈ D, (ansAt av d).fails = false ∧ (ansAt av d).tip = x
theorem TipsOf.nil (av : List AnsM) : TipsOf av [] [] := ⟨rfl, by simp, by simp⟩
theorem TipsOf.fail {av : List AnsM} {D : List Int} {l : List ID} (h : TipsOf av D l) {d : Int} (hf : (ansAt av d).fails = true) : TipsOf av (d :: D) l :=
  ⟨h.ris, by have := h.len; simp; omega, fun x => by
    rw [h.mem]
    constructor
    · rintro ⟨e, he, h1⟩; exact ⟨e, by simp [he], h1⟩
    · rintro ⟨e, he, h1, h2⟩
      rcases List.mem_cons.1 he with rfl | he
      · rw [hf] at h1; cases h1
      · exact ⟨e, he, h1, h2⟩⟩
theorem TipsOf.add {av : List AnsM} {D : List Int} {l : List ID} (h : TipsOf av D l) {d : Int} (hf : (ansAt av d).fails = false) : TipsOf av (d :: D) (addT l (ansAt av d).tip) :=
  ⟨ris_addT h.ris _, by have := h.len; have := len_addT l (ansAt av d).tip; simp; omega, fun x => by
    rw [mem_addT, h.mem]
    constructor
    · rintro (⟨e, he, h1⟩ | rfl)
      · exact ⟨e, by simp [he], h1⟩
      · exact ⟨d, by simp, hf, rfl⟩
    · rintro ⟨e, he, h1, h2⟩
      rcases List.mem_cons.1 he with rfl | he
      · exact .inr h2.symm
      · exact .inl ⟨e, he, h1, h2⟩⟩
theorem TipsOf.uniq {av : List AnsM} {D D' : List Int} {l l' : List ID} (h : TipsOf av D l) (h' : TipsOf av D' l') (e : ∀ d, d ∈ D ↔ d ∈ D') : l = l' :=
  ris_uniq h.ris h'.ris fun x => by
    rw [h.mem, h'.mem]
    constructor
    · rintro ⟨d, hd, h1⟩; exact ⟨d, (e d).1 hd, h1⟩
    · rintro ⟨d, hd, h1⟩; exact ⟨d, (e d).2 hd, h1⟩
/-- all the tips that are told -/
def allT (av : List AnsM) : List Int → List ID
  | [] => []
  | d :: D => if (ansAt av d).fails = true then allT av D else addT (allT av D) (ansAt av d).tip
theorem allT_of (av : List AnsM) : ∀ D, TipsOf av D (allT av D)
  | [] => TipsOf.nil av
  | d :: D => by
    unfold allT
    cases h : (ansAt av d).fails with
    | true => simpa using (allT_of av D).fail h
    | false => simpa using (allT_of av D).add h
structure SaidOf (av : List AnsM) (T : List ID) (D : List Int) (l : List SaidM) : Prop where
  asc : AscS l
  mem : ∀ s, s ∈ l ↔ s.node ∈ D ∧ (ansAt av s.node).fails = false ∧ s.ids = T.filter fun id => decide (id ∈ (ansAt av s.node).ids)
theorem SaidOf.nil (av : List AnsM) (T : List ID) : SaidOf av T [] [] := ⟨List.Pairwise.nil, by simp⟩
theorem SaidOf.fail {av : List AnsM} {T : List ID} {D : List Int} {l : List SaidM} (h : SaidOf av T D l) {d : Int} (hf : (ansAt av d).fails = true) : SaidOf av T (d :: D) l :=
  ⟨h.asc, fun s => by
    rw [h.mem, List.mem_cons]
    constructor
    · rintro ⟨a, b⟩; exact ⟨.inr a, b⟩
    · rintro ⟨a, b, c⟩
      rcases a with a | a
      · rw [a, hf] at b; cases b
      · exact ⟨a, b, c⟩⟩
theorem SaidOf.add {av : List AnsM} {T : List ID} {D : List Int} {l : List SaidM} (h : SaidOf av T D l) {d : Int} (hd : d ∉ D) (hf : (ansAt av d).fails = false) :
    SaidOf av T (d :: D) (sortS (l ++ [⟨d, T.filter fun id => decide (id ∈ (ansAt av d).ids)⟩])) := by
  refine ⟨sortS_lt ?_, fun s => ?_⟩
  · rw [List.map_append, List.nodup_append]
    refine ⟨ascS_nodup h.asc, by simp, fun a ha b hb => ?_⟩
    simp at hb
    subst hb
    rintro rfl
    obtain ⟨s, hs, e⟩ := List.mem_map.1 ha
    have := ((h.mem s).1 hs).1
    rw [e] at this
    exact hd this
  · rw [(sortS_perm _).mem_iff, List.mem_append, List.mem_singleton, h.mem, List.mem_cons]
    constructor
    · rintro (⟨a, b⟩ | rfl)
      · exact ⟨.inr a, b⟩
      · exact ⟨.inl rfl, hf, rfl⟩
    · rintro ⟨a, b, c⟩
      rcases a with a | a
      · refine .inr ?_
        obtain ⟨sn, si⟩ := s
        simp only at a b c
        subst a
        rw [c]
      · exact .inl ⟨a, b, c⟩
theorem SaidOf.uniq {av : List AnsM} {T : List ID} {D D' : List Int} {l l' : List SaidM} (h : SaidOf av T D l) (h' : SaidOf av T D' l') (e : ∀ d, d ∈ D ↔ d ∈ D') : l = l' :=
  ascS_uniq h.asc h'.asc fun x => by rw [h.mem, h'.mem, e]
def allS (av : List AnsM) (T : List ID) : List Int → List SaidM
  | [] => []
  | d :: D => if (ansAt av d).fails = true then allS av T D else sortS (allS av T D ++ [⟨d, T.filter fun id => decide (id ∈ (ansAt av d).ids)⟩])
theorem allS_of (av : List AnsM) (T : List ID) : ∀ D, D.Nodup → SaidOf av T D (allS av T D)
  | [], _ => SaidOf.nil av T
  | d :: D, hn => by
    rw [List.nodup_cons] at hn
    unfold allS
    cases h : (ansAt av d).fails with
    | true => simpa using (allS_of av T D hn.2).fail h
    | false => simpa using (allS_of av T D hn.2).add hn.1 h
/-! ### those that are still open -/
structure OpenOf (base D op : List Int) : Prop where
  nodup : D.Nodup
  sub : ∀ d ∈ D, d ∈ base
  op : op = base.filter fun x => !decide (x ∈ D)
theorem OpenOf.start (base : List Int) : OpenOf base [] base := ⟨List.nodup_nil, by simp, by simp only [List.not_mem_nil, decide_false, Bool.not_false]; exact (List.filter_eq_self.2 fun _ _ => rfl).symm⟩
theorem OpenOf.mem {base D op : List Int} (h : OpenOf base D op) {x : Int} : x ∈ op ↔ x ∈ base ∧ x ∉ D := by
  rw [h.op, List.mem_filter]; simp
theorem OpenOf.del {base D op : List Int} (h : OpenOf base D op) {x : Int} (hx : x ∈ op) : OpenOf base (x :: D) (delI op x) := by
  obtain ⟨h1, h2⟩ := h.mem.1 hx
  refine ⟨List.nodup_cons.2 ⟨h2, h.nodup⟩, fun d hd => ?_, ?_⟩
  · rcases List.mem_cons.1 hd with rfl | hd
    · exact h1
    · exact h.sub d hd
  · unfold delI
    rw [h.op, List.filter_filter]
    congr 1
    funext y
    by_cases e : y = x
    · subst e; simp
    · by_cases e2 : y ∈ D <;> simp [e, e2]
theorem OpenOf.ne_nil {base D op : List Int} (h : OpenOf base D op) (hb : base.Nodup) (hl : D.length < base.length) : op ≠ [] := by
  intro e
  have : base.length ≤ D.length := nodup_sub hb fun x hx => by
    by_cases hd : x ∈ D
    · exact hd
    · have := h.mem.2 ⟨hx, hd⟩
      rw [e] at this
      cases this
  omega
theorem OpenOf.full {base D op : List Int} (h : OpenOf base D op) (hl : D.length = base.length) : op = [] ∧ ∀ d, d ∈ D ↔ d ∈ base := by
  have key : ∀ x ∈ base, x ∈ D := fun x hx => by
    by_cases hd : x ∈ D
    · exact hd
    · have := nodup_sub (l := x :: D) (l' := base) (List.nodup_cons.2 ⟨hd, h.nodup⟩) fun y hy => by
        rcases List.mem_cons.1 hy with rfl | hy
        · exact hx
        · exact h.sub y hy
      simp at this
      omega
  refine ⟨?_, fun d => ⟨h.sub d, key d⟩⟩
  rw [h.op, List.filter_eq_nil_iff]
  intro x hx
  simp [key x hx]
/-! ### the run -/
inductive J (n : Nat) (base : List Int) (av : List AnsM) (i : Nat) : FrM → Prop
  | tips (op : List Int) (tips : List ID) (D : List Int) (hi : i < base.length) (hd : D.length = i) (ho : OpenOf base D op) (ht : TipsOf av D tips) : J n base av i ⟨1, op, tips, []⟩
  | none (hi : base.length ≤ i) (hT : allT av base = []) : J n base av i ⟨3, [], [], []⟩
  | said (op : List Int) (l : List SaidM) (D : List Int) (hi : base.length ≤ i) (hj : i < base.length + n) (hT : allT av base ≠ []) (hd : D.length = i - base.length) (ho : OpenOf (rangeI n) D op) (hs : SaidOf av (allT av base) D l) : J n base av i ⟨2, op, allT av base, l⟩
  | done (hi : base.length + n ≤ i) (hT : allT av base ≠ []) : J n base av i ⟨3, [], allT av base, allS av (allT av base) (rangeI n)⟩
section
variable {n : Nat} {base : List Int} {av : List AnsM} {i : Nat}
theorem J.start (hb : base ≠ []) : J n base av 0 ⟨1, base, [], []⟩ :=
  .tips _ _ [] (List.length_pos_iff.2 hb) rfl (OpenOf.start base) (TipsOf.nil av)
theorem J.step (hn : 0 < n) {m : FrM} (h : J n base av i m) (hbn : base.Nodup) {node : Int} (hx : node ∈ m.op) : J n base av (i + 1) (stepM n m node (ansAt av node)) := by
  cases h with
  | none hi hT => cases hx
  | done hi hT => cases hx
  | tips op tips D hi hd ho ht =>
    simp only at hx
    have ho' := ho.del hx
    obtain ⟨tips', ht', e⟩ : ∃ tips', TipsOf av (node :: D) tips' ∧ stepM n ⟨1, op, tips, []⟩ node (ansAt av node) = closedM n ⟨1, op, tips', []⟩ node := by
      cases hf : (ansAt av node).fails with
      | true => exact ⟨tips, ht.fail hf, by unfold stepM; rw [if_pos hf]⟩
      | false => exact ⟨_, ht.add hf, by unfold stepM; rw [if_neg (by simp [hf]), if_pos rfl]; rfl⟩
    rw [e]
    have hdl : (node :: D).length = i + 1 := by simp [hd]
    unfold closedM
    simp only
    by_cases hi1 : i + 1 < base.length
    · have := ho'.ne_nil hbn (by omega)
      rw [if_pos this]
      exact .tips _ _ _ hi1 hdl ho' ht'
    · obtain ⟨e1, e2⟩ := ho'.full (by omega)
      have e3 : tips' = allT av base := ht'.uniq (allT_of av base) e2
      subst e3
      rw [e1, if_neg (by simp)]
      by_cases hT : allT av base = []
      · rw [if_neg (by simp [hT]), hT]
        exact .none (by omega) hT
      · rw [if_pos ⟨trivial, hT⟩]
        exact .said _ _ [] (by omega) (by omega) hT (by simp; omega) (OpenOf.start _) (SaidOf.nil _ _)
  | said op l D hi hj hT hd ho hs =>
    simp only at hx
    have hxD := (ho.mem.1 hx).2
    have ho' := ho.del hx
    obtain ⟨l', hs', e⟩ : ∃ l', SaidOf av (allT av base) (node :: D) l' ∧ stepM n ⟨2, op, allT av base, l⟩ node (ansAt av node) = closedM n ⟨2, op, allT av base, l'⟩ node := by
      cases hf : (ansAt av node).fails with
      | true => exact ⟨l, hs.fail hf, by unfold stepM; rw [if_pos hf]⟩
      | false => exact ⟨_, hs.add hxD hf, by unfold stepM; rw [if_neg (by simp [hf]), if_neg (by show ¬ (2 : Int) = 1; decide)]; rfl⟩
    rw [e]
    have hdl : (node :: D).length = i + 1 - base.length := by simp [hd]; omega
    unfold closedM
    simp only
    by_cases hi1 : i + 1 < base.length + n
    · have := ho'.ne_nil ((asc_rangeI n).imp fun h => by omega) (by rw [len_rangeI]; omega)
      rw [if_pos this]
      exact .said _ _ _ (by omega) hi1 hT hdl ho' hs'
    · obtain ⟨e1, e2⟩ := ho'.full (by rw [len_rangeI]; omega)
      have e3 : l' = allS av (allT av base) (rangeI n) := hs'.uniq (allS_of av _ _ ((asc_rangeI n).imp fun h => by omega)) e2
      subst e3
      rw [e1, if_neg (by simp), if_neg (by simp)]
      exact .done (by omega) hT
theorem J.phase_eq (hn : 0 < n) {f g : FrM} (h : J n base av i f) (h' : J n base av i g) : f.phase = g.phase := by
  cases h <;> cases h' <;> first | rfl | (exfalso; omega) | (exfalso; contradiction)
theorem J.shut (hbn : base.Nodup) {f g : FrM} (h : J n base av i f) (h' : J n base av i g) (h0 : f.op = []) : g = f ∧ f.phase = 3 := by
  cases h with
  | tips op tips D hi hd ho ht => exact absurd h0 (ho.ne_nil hbn (by omega))
  | said op l D hi hj hT hd ho hs => exact absurd h0 (ho.ne_nil ((asc_rangeI n).imp fun h => by omega) (by rw [len_rangeI]; omega))
  | none hi hT => cases h' <;> first | exact ⟨rfl, rfl⟩ | (exfalso; omega) | (exfalso; contradiction)
  | done hi hT => cases h' <;> first | exact ⟨rfl, rfl⟩ | (exfalso; omega) | (exfalso; contradiction)
theorem J.ended {f : FrM} (h : J n base av i f) (hi : base.length + n ≤ i) (hn : 0 < n) : f.op = [] := by
  cases h <;> first | rfl | (exfalso; omega)
theorem J.may (hbn : placesB n base = true) {m : FrM} (h : J n base av i m) (l : List Vd) (hc : chk l = 0) (hl : l.length = n) : mayB l m = true := by
  have h32 := (chk_32 hc).2.1
  have hlen := places_len hbn
  have hbd := places_nodup hbn
  have hT := allT_of av base
  have hTl := hT.len
  have hsaid : ∀ (D : List Int) (op : List Int) (sd : List SaidM) (ph : Int), SaidOf av (allT av base) D sd → (∀ d ∈ D, 0 ≤ d ∧ d < n ∧ d ∉ op) → saidB n ⟨ph, op, allT av base, sd⟩ = true := by
    intro D op sd ph hs hD
    unfold saidB
    rw [Bool.and_eq_true, List.all_eq_true]
    refine ⟨fun s hs' => ?_, ?_⟩
    · obtain ⟨a, b, c⟩ := (hs.mem s).1 hs'
      rw [Bool.and_eq_true, Bool.and_eq_true, c]
      refine ⟨⟨by simpa using (hD _ a).2.2, ris_filter hT.ris _⟩, ?_⟩
      rw [List.all_eq_true]
      intro x hx
      simpa using (List.mem_filter.1 hx).1
    · rw [placesB_iff]
      refine ⟨fun x hx => ?_, ?_⟩
      · obtain ⟨s, hs', rfl⟩ := List.mem_map.1 hx
        have := hD _ ((hs.mem s).1 hs').1
        exact ⟨this.1, this.2.1⟩
      · rw [List.pairwise_map]; exact hs.asc
  unfold mayB
  rw [hl]
  simp only [Bool.and_eq_true, decide_eq_true_eq]
  cases h with
  | tips op tips D hi hd ho ht =>
    have hop : placesB n op = true := by rw [ho.op]; exact places_filter hbn _
    have hne := ho.ne_nil hbd (by omega)
    have h0 : 0 < op.length := List.length_pos_iff.2 hne
    have htl := ht.len
    refine ⟨⟨⟨⟨⟨hc, hop⟩, ht.ris⟩, by simp only; omega⟩, by simp [saidB, placesB]⟩, ?_⟩
    unfold phaseB
    simpa using h0
  | none hi hT' => exact ⟨⟨⟨⟨⟨hc, by simp [placesB]⟩, rfl⟩, by simp⟩, by simp [saidB, placesB]⟩, by simp [phaseB]⟩
  | said op sd D hi hj hT' hd ho hs =>
    have hop : placesB n op = true := by rw [ho.op]; exact places_filter (places_rangeI n) _
    have hne := ho.ne_nil ((asc_rangeI n).imp fun h => by omega) (by rw [len_rangeI]; omega)
    refine ⟨⟨⟨⟨⟨hc, hop⟩, hT.ris⟩, by simp only; omega⟩, hsaid D op sd 2 hs fun d hd' => ?_⟩, ?_⟩
    · have := mem_rangeI.1 (ho.sub d hd')
      exact ⟨this.1, this.2, fun h => (ho.mem.1 h).2 hd'⟩
    · unfold phaseB
      simp [List.length_pos_iff, hT', hne]
  | done hi hT' =>
    refine ⟨⟨⟨⟨⟨hc, by simp [placesB]⟩, hT.ris⟩, by simp only; omega⟩, hsaid (rangeI n) [] _ 3 (allS_of av _ _ ((asc_rangeI n).imp fun h => by omega)) fun d hd' => ?_⟩, by simp [phaseB]⟩
    have := mem_rangeI.1 hd'
    exact ⟨this.1, this.2, by simp⟩
theorem J.room (hbn : placesB n base = true) (hn : n ≤ 32) {m : FrM} (h : J n base av i m) (h1 : m.phase = 1) : m.tips.length < 32 := by
  have hlen := places_len hbn
  cases h with
  | tips op tips D hi hd ho ht => have := ht.len; simp only; omega
  | _ => cases h1
end
end Go.Proofs.YtmgpfmgmpmkkaaaGreat
