import Derived.Test.YtagpclgappcnbaaBkI
namespace Go.Proofs.Ytagpclgappcnbaa
open Go.RowKit

/-! ### Tick, as plain data -/
noncomputable def tickA (M : PM) (x : Al.Al) : PM := { tookM { M with A := Ak.expS M.A x.2 } (Ak.expA M.A x.2).id with seats := Be.stepF M.cfg.q M.l M.seats (Ak.expA M.A x.2).node.toNat M.now }
noncomputable def tickF : PM → List Al.Al → PM
  | M, [] => M
  | M, x :: r => tickF (tickA M x) r
noncomputable def outF : PM → List Al.Al → List Ak.AskD
  | _, [] => []
  | M, x :: r => Ak.expA M.A x.2 :: outF (tickA M x) r
structure ReadyT (M : PM) (x : Al.Al) : Prop where
  got : (aGet x.2 M.A.L).isSome = true
  n0 : 0 ≤ (Ak.expA M.A x.2).node
  n1 : (Ak.expA M.A x.2).node < M.seats.length
  may : Be.mayE M.cfg.q M.l M.seats = 0
  now0 : 0 ≤ M.now
  now1 : M.now ≤ 4611686018427387903
  de : M.cfg.q.de < 9223372036854775808
  exp : 0 ≤ M.A.exp ∧ M.A.exp < 4611686018427387904
  l0 : 0 < M.l.length
  s0 : 0 < M.seats.length
def TickR : PM → List Al.Al → Prop
  | _, [] => True
  | M, x :: r => ReadyT M x ∧ TickR (tickA M x) r
noncomputable def tickP (M : PM) (now : Int) : PM × List Ak.AskD × Int :=
  if comesE M now ≠ 0 then (M, [], comesE M now)
  else (tickF { M with now := now, W := Al.leftL now M.W } (Al.dueL now M.W), outF { M with now := now, W := Al.leftL now M.W } (Al.dueL now M.W), 0)
theorem tickA_eqs (M : PM) (x : Al.Al) : (tickA M x).W = M.W ∧ (tickA M x).cfg = M.cfg ∧ (tickA M x).l = M.l ∧ (tickA M x).now = M.now := ⟨rfl, rfl, rfl, rfl⟩
theorem tickF_eqs : ∀ (D : List Al.Al) (M : PM), (tickF M D).W = M.W ∧ (tickF M D).cfg = M.cfg ∧ (tickF M D).l = M.l ∧ (tickF M D).now = M.now
  | [], _ => ⟨rfl, rfl, rfl, rfl⟩
  | x :: r, M => by
    obtain ⟨h1, h2, h3, h4⟩ := tickF_eqs r (tickA M x)
    exact ⟨h1, h2, h3, h4⟩
theorem hasK_tail {x : Al.Al} {r : List Al.Al} (hn : (Al.keysL (x :: r)).Nodup) (j : Int) : Al.hasK r j = if j = x.2 then false else Al.hasK (x :: r) j := by
  have hx : x.2 ∉ Al.keysL r := by
    unfold Al.keysL at hn ⊢
    rw [List.map_cons, List.nodup_cons] at hn
    exact hn.1
  by_cases e : j = x.2
  · subst e
    rw [if_pos rfl]
    cases h : Al.hasK r x.2 with
    | false => rfl
    | true =>
      have : (Al.atO r x.2).isSome = true := by unfold Al.atO; rw [h]; rfl
      exact absurd (Al.atO_some.1 this) hx
  · rw [if_neg e]
    unfold Al.hasK
    rw [List.any_cons]
    have : (x.2 == j) = false := by simpa using fun h => e h.symm
    simp [this]
/-- one that is due -/
theorem PInvW.tickA {M : PM} {x : Al.Al} {r : List Al.Al} (h : PInvW M (x :: r)) : ReadyT M x ∧ PInvW (tickA M x) r ∧ (Ak.expA M.A x.2).id = x.2 ∧ (Ak.expA M.A x.2).node < M.l.length := by
  have hk : Al.hasK (x :: r) x.2 = true := by unfold Al.hasK; rw [List.any_cons]; simp
  have hs : (aGet x.2 M.A.L).isSome = true := by rw [h.keys]; exact hk
  obtain ⟨a, ha⟩ := Option.isSome_iff_exists.1 hs
  have hA : Ak.expA M.A x.2 = a := by unfold Ak.expA; rw [ha]; rfl
  have hn := h.node _ (get_mem ha)
  have hp := h.pok
  have h8 := h.pos
  have hl := h.seats_len
  have hrd : ReadyT M x := ⟨hs, by rw [hA]; exact hn.2.1, by rw [hA]; have h9 : a.node < (M.l.length : Int) := hn.2.2.1; omega, h.may, h.now0, h.now1, h.de, hp.a.exp, hp.l, hp.s⟩
  have hS : Ak.expS M.A x.2 = { M.A with L := aDel x.2 M.A.L, exp := M.A.exp + 1 } := by unfold Ak.expS; rw [if_pos hs]
  have h2 : PInvW { M with A := Ak.expS M.A x.2 } r := by
    rw [hS]
    exact h.gone hs (List.sublist_cons_self _ _) (hasK_tail h.wk) (by omega) ⟨h8.1, by omega⟩
  have h3 := (h2.took (Ak.expA M.A x.2).id).2
  refine ⟨hrd, ?_, by rw [hA]; exact hn.1, by rw [hA]; exact hn.2.2.1⟩
  have n0 := hrd.n0
  have n1 := hrd.n1
  exact h3.seat (Be.stepF_may h.may (by omega) h.now0 h.now1)
theorem PInvW.tickF : ∀ {D : List Al.Al} {M : PM} {U : List Al.Al}, PInvW M (D ++ U) → TickR M D ∧ PInvW (tickF M D) U ∧ (outF M D).map (·.id) = D.map (·.2) ∧ ∀ a ∈ outF M D, 0 ≤ a.node ∧ a.node < M.l.length
  | [], _, _, h => ⟨trivial, h, rfl, fun a ha => by simp [outF] at ha⟩
  | x :: r, M, U, h => by
    obtain ⟨h1, h2, h3, h3'⟩ := PInvW.tickA (x := x) (r := r ++ U) h
    obtain ⟨h4, h5, h6, h7⟩ := PInvW.tickF h2
    refine ⟨⟨h1, h4⟩, h5, ?_, fun a ha => ?_⟩
    · unfold outF
      rw [List.map_cons, List.map_cons, h3, h6]
    · unfold outF at ha
      rcases List.mem_cons.1 ha with ha | ha
      · subst ha; exact ⟨h1.n0, h3'⟩
      · exact h7 a ha
theorem PInv.tick0 {M : PM} (h : PInv M) {now : Int} (hc : comesE M now = 0) : PInvW { M with now := now, W := Al.leftL now M.W } (Al.dueL now M.W ++ Al.leftL now M.W) := by
  rw [Al.due_left]
  have := PInvW.now h hc
  exact ⟨this.may, this.mean, this.at_, this.now0, this.now1, this.de, this.node, this.nodup, this.wk, this.keys, this.times, this.room, this.len, this.stat, this.last, this.askl, this.pos⟩
theorem PInv.tickP {M : PM} (h : PInv M) (now : Int) : PInv (tickP M now).1 := by
  unfold Go.Proofs.Ytagpclgappcnbaa.tickP
  split
  · exact h
  · rename_i hc
    have hc : comesE M now = 0 := by omega
    have h1 := (PInvW.tickF (h.tick0 hc)).2.1
    unfold PInv
    rw [(tickF_eqs _ _).1]
    exact h1
theorem due_le (now : Int) : ∀ W : List Al.Al, ∀ x ∈ Al.dueL now W, x.1 ≤ now
  | [], x, h => by simp [Al.dueL] at h
  | a :: r, x, h => by
    unfold Al.dueL at h
    split at h
    · simp at h
    · rename_i hn
      rcases List.mem_cons.1 h with h | h
      · subst h; omega
      · exact due_le now r x h
theorem left_head (now : Int) : ∀ W : List Al.Al, 0 < (Al.leftL now W).length → now < (Al.at' (Al.leftL now W) 0).1
  | [], h => by simp [Al.leftL] at h
  | a :: r, h => by
    unfold Al.leftL at h ⊢
    split
    · rename_i hn; exact hn
    · rename_i hn
      rw [if_neg hn] at h
      exact left_head now r h
theorem left_all {now : Int} : ∀ {W : List Al.Al}, (∀ x ∈ W, x.1 ≤ now) → Al.leftL now W = []
  | [], _ => rfl
  | a :: r, h => by
    unfold Al.leftL
    rw [if_neg (by have := h a List.mem_cons_self; omega)]
    exact left_all fun x hx => h x (List.mem_cons_of_mem _ hx)
end Go.Proofs.Ytagpclgappcnbaa
