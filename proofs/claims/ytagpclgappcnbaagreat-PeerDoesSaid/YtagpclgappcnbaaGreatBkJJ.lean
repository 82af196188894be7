import Derived.Test.YtagpclgappcnbaaGreatBkX
import Derived.Test.YtagpclgappcnbaaGreatAlN
import Derived.Test.YtagpclgappcnbaaGreatBeF
namespace Go.Proofs.YtagpclgappcnbaaGreat
open Go.RowKit

/-! ### what a book that was made keeps -/
theorem get_notin {ν : Type} {k : Int} : ∀ {L : List (Int × ν)}, k ∉ L.map (·.1) → aGet k L = none
  | [], _ => rfl
  | (i, u) :: r, h => by
    simp at h
    unfold aGet
    rw [if_neg h.1]
    exact get_notin (by simpa using h.2)
theorem get_in {ν : Type} {k : Int} : ∀ {L : List (Int × ν)}, (aGet k L).isSome = true ↔ k ∈ L.map (·.1)
  | [] => by simp [aGet]
  | (i, u) :: r => by
    unfold aGet
    by_cases h : k = i
    · subst h; simp
    · rw [if_neg h, get_in]
      simp [h]
theorem get_mem {ν : Type} {k : Int} {v : ν} : ∀ {L : List (Int × ν)}, aGet k L = some v → (k, v) ∈ L
  | [], h => by simp [aGet] at h
  | (i, u) :: r, h => by
    unfold aGet at h
    by_cases e : k = i
    · subst e
      rw [if_pos rfl] at h
      cases h
      exact List.mem_cons_self
    · rw [if_neg e] at h
      exact List.mem_cons_of_mem _ (get_mem h)
theorem get_del {ν : Type} (k j : Int) : ∀ {L : List (Int × ν)}, (L.map (·.1)).Nodup → aGet j (aDel k L) = if j = k then none else aGet j L
  | [], _ => by simp [aDel, aGet]
  | (i, u) :: r, h => by
    simp only [List.map_cons, List.nodup_cons] at h
    unfold aDel
    by_cases e : k = i
    · subst e
      rw [if_pos rfl]
      by_cases e1 : j = k
      · subst e1; rw [if_pos rfl]; exact get_notin h.1
      · rw [if_neg e1, aGet, if_neg e1]
    · rw [if_neg e]
      unfold aGet
      rw [get_del k j h.2]
      by_cases e1 : j = i
      · subst e1
        rw [if_pos rfl, if_neg (fun h => e h.symm), if_pos rfl]
      · rw [if_neg e1, if_neg e1]
theorem del_sub {ν : Type} (k : Int) : ∀ {L : List (Int × ν)} {x}, x ∈ aDel k L → x ∈ L
  | [], _, h => by simp [aDel] at h
  | (i, u) :: r, x, h => by
    unfold aDel at h
    by_cases e : k = i
    · rw [if_pos e] at h; exact List.mem_cons_of_mem _ h
    · rw [if_neg e] at h
      rcases List.mem_cons.1 h with h | h
      · exact h ▸ List.mem_cons_self
      · exact List.mem_cons_of_mem _ (del_sub k h)
theorem del_sublist {ν : Type} (k : Int) : ∀ (L : List (Int × ν)), (aDel k L).Sublist L
  | [] => List.Sublist.refl _
  | (i, u) :: r => by
    unfold aDel
    by_cases e : k = i
    · rw [if_pos e]; exact List.sublist_cons_self _ _
    · rw [if_neg e]; exact (del_sublist k r).cons_cons _
theorem del_nodup {ν : Type} (k : Int) {L : List (Int × ν)} (h : (L.map (·.1)).Nodup) : ((aDel k L).map (·.1)).Nodup :=
  h.sublist ((del_sublist k L).map _)
theorem del_len {ν : Type} (k : Int) : ∀ {L : List (Int × ν)}, (aGet k L).isSome = true → (aDel k L).length + 1 = L.length
  | [], h => by simp [aGet] at h
  | (i, u) :: r, h => by
    unfold aGet at h
    unfold aDel
    by_cases e : k = i
    · rw [if_pos e]; rfl
    · rw [if_neg e] at h ⊢
      have := del_len k h
      simp only [List.length_cons]
      omega
theorem put_new {ν : Type} (k : Int) (v : ν) : ∀ {L : List (Int × ν)}, k ∉ L.map (·.1) → aPut k v L = L ++ [(k, v)]
  | [], _ => rfl
  | (i, u) :: r, h => by
    simp at h
    unfold aPut
    rw [if_neg h.1, put_new k v (L := r) (by simpa using h.2)]
    rfl
theorem del_put {ν : Type} (k : Int) (v : ν) : ∀ {L : List (Int × ν)}, k ∉ L.map (·.1) → aDel k (L ++ [(k, v)]) = L
  | [], _ => by simp [aDel]
  | (i, u) :: r, h => by
    simp at h
    rw [List.cons_append]
    unfold aDel
    rw [if_neg h.1, del_put k v (L := r) (by simpa using h.2)]
theorem get_put {ν : Type} (k j : Int) (v : ν) (L : List (Int × ν)) : aGet j (aPut k v L) = if j = k then some v else aGet j L := Al.aGet_aPut' j k v L
theorem wrap_id {x : Int} (h0 : -9223372036854775808 ≤ x) (h1 : x ≤ 9223372036854775807) : IntKind.i64.wrap x = x := by
  simp [IntKind.wrap, IntKind.signed, IntKind.bits]; omega

structure PInvW (M : PM) (W : List Al.Al) : Prop where
  may : Be.mayE M.cfg.q M.l M.seats = 0
  mean : Me.MeanOk M.cfg.r M.wait
  at_ : M.wait.at_ ≤ M.now
  now0 : 0 ≤ M.now
  now1 : M.now ≤ 4611686018427387903
  de : M.cfg.q.de < 9223372036854775808
  node : ∀ p ∈ M.A.L, p.2.id = p.1 ∧ 0 ≤ p.2.node ∧ p.2.node < M.l.length ∧ p.1 ≤ M.A.last
  nodup : (M.A.L.map (·.1)).Nodup
  wk : (Al.keysL W).Nodup
  keys : ∀ k, (aGet k M.A.L).isSome = Al.hasK W k
  times : ∀ x ∈ W, x.1 ≤ 4611686018427387903
  room : M.A.room ≤ 1024
  len : (M.A.L.length : Int) ≤ M.A.room
  stat : M.A.asked = M.A.ans + M.A.exp + M.A.L.length
  last : 0 ≤ M.A.last ∧ M.A.last ≤ 2147483647
  askl : M.A.asked ≤ M.A.last
  pos : 0 ≤ M.A.ans ∧ 0 ≤ M.A.exp
def PInv (M : PM) : Prop := PInvW M M.W
theorem PInvW.pok {M : PM} {W : List Al.Al} (h : PInvW M W) : POK M := by
  obtain ⟨-, h2, h3, -⟩ := Be.mayE_0 h.may
  have hl := (Be.chk_32 h2).1
  have h5 := h.stat
  have h6 := h.last
  have h7 := h.askl
  have h8 := h.pos
  exact ⟨⟨h6.1, ⟨by omega, by omega⟩, ⟨by omega, by omega⟩, ⟨by omega, by omega⟩⟩, by omega, by omega⟩
theorem PInvW.seats_len {M : PM} {W : List Al.Al} (h : PInvW M W) : M.seats.length = M.l.length := (Be.mayE_0 h.may).2.2.1
theorem PInvW.now {M : PM} {W : List Al.Al} (h : PInvW M W) {now : Int} (hn : comesE M now = 0) : PInvW { M with now := now } W := by
  unfold comesE at hn
  split at hn
  · cases hn
  · rename_i hh
    have h1 := h.at_
    have h2 := h.now0
    exact ⟨h.may, h.mean, by show M.wait.at_ ≤ now; omega, by show 0 ≤ now; omega, by show now ≤ _; omega, h.de, h.node, h.nodup, h.wk, h.keys, h.times, h.room, h.len, h.stat, h.last, h.askl, h.pos⟩
theorem PInvW.setW {M : PM} {W : List Al.Al} (h : PInvW M W) (U : List Al.Al) : PInvW { M with W := U } W :=
  ⟨h.may, h.mean, h.at_, h.now0, h.now1, h.de, h.node, h.nodup, h.wk, h.keys, h.times, h.room, h.len, h.stat, h.last, h.askl, h.pos⟩
theorem PInvW.wlen {M : PM} {W : List Al.Al} (h : PInvW M W) : W.length = M.A.L.length := by
  have p : (M.A.L.map (·.1)).Perm (Al.keysL W) := by
    refine (List.perm_ext_iff_of_nodup h.nodup h.wk).2 fun k => ?_
    rw [← get_in, ← Al.atO_some, h.keys]
    unfold Al.atO
    cases Al.hasK W k <;> simp
  have := p.length_eq
  simpa [Al.keysL] using this.symm
theorem PInvW.fresh {M : PM} {W : List Al.Al} (h : PInvW M W) {k : Int} (hk : M.A.last < k) : k ∉ M.A.L.map (·.1) := by
  intro hm
  obtain ⟨p, hp, e⟩ := List.mem_map.1 hm
  have := (h.node p hp).2.2.2
  omega
theorem tmo_bd {r : Me.RuleD} {m : Me.MeanD} (h : Me.MeanOk r m) : r.min ≤ Me.tmoR r m ∧ Me.tmoR r m ≤ r.max := by
  unfold Me.tmoR
  rw [if_pos h]
  unfold Me.tmoV
  obtain ⟨h1, h2, h3, h4, -⟩ := h.1
  exact Me.clip_bd _ _ _ (by omega)
theorem askAt_eq {M : PM} {W : List Al.Al} (h : PInvW M W) {now : Int} (h0 : 0 ≤ now) (h1 : now ≤ 4611686018427387903) : askAt M now = min (now + Me.tmoR M.cfg.r M.wait) 4611686018427387903 ∧ 1 ≤ Me.tmoR M.cfg.r M.wait ∧ Me.tmoR M.cfg.r M.wait ≤ 1099511627776 := by
  obtain ⟨t1, t2⟩ := tmo_bd h.mean
  obtain ⟨r1, r2, r3, r4, -⟩ := h.mean.1
  refine ⟨?_, by omega, by omega⟩
  unfold askAt
  rw [wrap_id (by omega) (by omega)]
theorem askE_0 {S : Ak.BookD} {v kind : Int} (h : Ak.askE S v kind = 0) : 0 ≤ v ∧ v < 32 ∧ (S.L.length : Int) < S.room ∧ S.last < 2147483647 := by
  unfold Ak.askE at h
  split at h
  · cases h
  · split at h
    · cases h
    · omega
/-- the book behind asking, the request waiting -/
theorem PInvW.ask {M : PM} {W : List Al.Al} (h : PInvW M W) {v kind t : Int} (hE : Ak.askE M.A v kind = 0) (hv : v < M.l.length) (ht0 : 0 ≤ t) (ht : t ≤ 4611686018427387903) (q : List (Int × Int)) :
    Ak.askI M.A v kind = M.A.last + 1 ∧ Al.pushE W t (Ak.askI M.A v kind) = 0 ∧ PInvW { M with A := Ak.askS M.A v kind, asked := q } (Al.pushW W t (Ak.askI M.A v kind)) := by
  obtain ⟨e1, e2, e3, e4⟩ := askE_0 hE
  have hI : Ak.askI M.A v kind = M.A.last + 1 := by unfold Ak.askI; rw [if_pos hE]
  have hS : Ak.askS M.A v kind = { M.A with last := M.A.last + 1, L := aPut (M.A.last + 1) ⟨M.A.last + 1, v, kind⟩ M.A.L, asked := M.A.asked + 1 } := by unfold Ak.askS; rw [if_pos hE]
  have hf := h.fresh (k := M.A.last + 1) (by omega)
  have hk : Al.hasK W (M.A.last + 1) = false := by rw [← h.keys, get_notin hf]; rfl
  have hwl := h.wlen
  have hr := h.room
  have hp : Al.pushE W t (M.A.last + 1) = 0 := by
    unfold Al.pushE Al.mayB
    rw [if_neg (by simp; omega), if_neg (by rw [hk]; decide), if_neg (by omega)]
  have hpw : Al.pushW W t (M.A.last + 1) = Al.insL (t, M.A.last + 1) W := if_pos hp
  have hperm := Al.insL_perm (t, M.A.last + 1) W
  have hnd : (Al.keysL (Al.insL (t, M.A.last + 1) W)).Nodup := by
    refine Al.keys_perm hperm.symm ?_
    unfold Al.keysL
    rw [List.map_cons, List.nodup_cons]
    refine ⟨fun hm => ?_, h.wk⟩
    have := Al.atO_some.2 hm
    unfold Al.atO at this
    rw [hk] at this
    cases this
  rw [hI, hS]
  refine ⟨rfl, hp, ?_⟩
  rw [hpw]
  have hpn := put_new (M.A.last + 1) (⟨M.A.last + 1, v, kind⟩ : Ak.AskD) hf
  have h5 := h.stat
  have h6 := h.last
  have h7 := h.askl
  refine ⟨h.may, h.mean, h.at_, h.now0, h.now1, h.de, ?_, ?_, hnd, ?_, ?_, h.room, ?_, ?_, ?_, ?_, h.pos⟩
  · intro p hp
    simp only [hpn] at hp
    rcases List.mem_append.1 hp with hp | hp
    · have := h.node p hp
      exact ⟨this.1, this.2.1, this.2.2.1, by show p.1 ≤ M.A.last + 1; omega⟩
    · simp only [List.mem_singleton] at hp
      subst hp
      exact ⟨rfl, e1, hv, Int.le_refl _⟩
  · simp only [hpn, List.map_append, List.map_cons, List.map_nil]
    exact List.nodup_append.2 ⟨h.nodup, by simp, fun a ha b hb => by simp at hb; subst hb; intro e; exact hf (e ▸ ha)⟩
  · intro k
    show (aGet k (aPut (M.A.last + 1) _ M.A.L)).isSome = _
    rw [get_put]
    have h1 := Al.atO_ins hnd k
    by_cases e : k = M.A.last + 1
    · subst e
      rw [if_pos rfl] at h1 ⊢
      unfold Al.atO at h1
      cases hh : Al.hasK (Al.insL (t, M.A.last + 1) W) (M.A.last + 1) with
      | true => rfl
      | false => rw [hh] at h1; cases h1
    · rw [if_neg e, h.keys]
      rw [Al.hasK_perm hperm]
      unfold Al.hasK
      rw [List.any_cons]
      have : ((M.A.last + 1 : Int) == k) = false := by simpa using fun h => e h.symm
      simp [this]
  · intro x hx
    rcases List.mem_cons.1 (hperm.mem_iff.1 hx) with hx | hx
    · subst hx; exact ht
    · exact h.times x hx
  · show ((aPut _ _ M.A.L).length : Int) ≤ M.A.room
    rw [hpn]; simp; omega
  · show M.A.asked + 1 = M.A.ans + M.A.exp + ((aPut _ _ M.A.L).length : Int)
    rw [hpn]; simp; omega
  · show 0 ≤ M.A.last + 1 ∧ M.A.last + 1 ≤ 2147483647
    omega
  · show M.A.asked + 1 ≤ M.A.last + 1
    omega
/-- asked of one that is benched: it fails at once -/
theorem PInvW.askB {M : PM} {W : List Al.Al} (h : PInvW M W) {v kind : Int} (hE : Ak.askE M.A v kind = 0) :
    Ak.expE (Ak.askS M.A v kind) (Ak.askI M.A v kind) = 0 ∧ PInvW { M with A := Ak.expS (Ak.askS M.A v kind) (Ak.askI M.A v kind) } W := by
  obtain ⟨e1, e2, e3, e4⟩ := askE_0 hE
  have hI : Ak.askI M.A v kind = M.A.last + 1 := by unfold Ak.askI; rw [if_pos hE]
  have hS : Ak.askS M.A v kind = { M.A with last := M.A.last + 1, L := aPut (M.A.last + 1) ⟨M.A.last + 1, v, kind⟩ M.A.L, asked := M.A.asked + 1 } := by unfold Ak.askS; rw [if_pos hE]
  have hf := h.fresh (k := M.A.last + 1) (by omega)
  have hpn := put_new (M.A.last + 1) (⟨M.A.last + 1, v, kind⟩ : Ak.AskD) hf
  have hg : (aGet (M.A.last + 1) (aPut (M.A.last + 1) (⟨M.A.last + 1, v, kind⟩ : Ak.AskD) M.A.L)).isSome = true := by rw [get_put, if_pos rfl]; rfl
  have hE2 : Ak.expS (Ak.askS M.A v kind) (Ak.askI M.A v kind) = { M.A with last := M.A.last + 1, asked := M.A.asked + 1, exp := M.A.exp + 1 } := by
    rw [hI, hS]
    unfold Ak.expS
    rw [if_pos hg, hpn, del_put _ _ hf]
  have h5 := h.stat
  have h6 := h.last
  have h7 := h.askl
  have h8 := h.pos
  refine ⟨by rw [hI, hS]; unfold Ak.expE; rw [if_pos hg], ?_⟩
  rw [hE2]
  refine ⟨h.may, h.mean, h.at_, h.now0, h.now1, h.de, fun p hp => ?_, h.nodup, h.wk, h.keys, h.times, h.room, h.len, ?_, ?_, ?_, ⟨h8.1, ?_⟩⟩
  · have := h.node p hp
    exact ⟨this.1, this.2.1, this.2.2.1, by show p.1 ≤ M.A.last + 1; omega⟩
  · show M.A.asked + 1 = M.A.ans + (M.A.exp + 1) + (M.A.L.length : Int); omega
  · show 0 ≤ M.A.last + 1 ∧ M.A.last + 1 ≤ 2147483647; omega
  · show M.A.asked + 1 ≤ M.A.last + 1; omega
  · show 0 ≤ M.A.exp + 1; omega
/-- a mean that goes on -/
theorem PInvW.took {M : PM} {W : List Al.Al} (h : PInvW M W) (id : Int) : (tookO M id).2 = 0 ∧ PInvW (tookM M id) W := by
  have h1 := Me.obs_bd (took := IntKind.i64.wrap (M.now - (aGet id M.asked).getD 0)) h.mean h.at_
  have hO : tookO M id = (⟨Me.obsV M.cfg.r M.wait (IntKind.i64.wrap (M.now - (aGet id M.asked).getD 0)) M.now, M.now⟩, 0) := by
    unfold tookO Me.obsR
    rw [if_pos h.mean, if_pos ⟨h.at_, h.now1⟩]
  refine ⟨by rw [hO], ?_⟩
  unfold tookM
  rw [hO, if_pos rfl]
  exact ⟨h.may, ⟨h.mean.1, h1.2.2.2.2.2.2.1, h1.2.2.2.2.2.2.2, h.now0, h.now1⟩, Int.le_refl _, h.now0, h.now1, h.de, h.node, h.nodup, h.wk, h.keys, h.times, h.room, h.len, h.stat, h.last, h.askl, h.pos⟩
theorem PInvW.seat {M : PM} {W : List Al.Al} (h : PInvW M W) {s : List Be.St} (hs : Be.mayE M.cfg.q M.l s = 0) : PInvW { M with seats := s } W :=
  ⟨hs, h.mean, h.at_, h.now0, h.now1, h.de, h.node, h.nodup, h.wk, h.keys, h.times, h.room, h.len, h.stat, h.last, h.askl, h.pos⟩
/-- one that waits no more: answered (d = 0) or expired -/
theorem PInvW.gone {M : PM} {W W' : List Al.Al} (h : PInvW M W) {k : Int} (hk : (aGet k M.A.L).isSome = true) (hW : W'.Sublist W) (hW' : ∀ j, Al.hasK W' j = if j = k then false else Al.hasK W j) {ans exp : Int} (h1 : ans + exp = M.A.ans + M.A.exp + 1) (h2 : 0 ≤ ans ∧ 0 ≤ exp) : PInvW { M with A := { M.A with L := aDel k M.A.L, ans := ans, exp := exp } } W' := by
  have hl := del_len k hk
  have h5 := h.stat
  have h9 := h.len
  refine ⟨h.may, h.mean, h.at_, h.now0, h.now1, h.de, fun p hp => h.node p (del_sub k hp), del_nodup k h.nodup, h.wk.sublist (hW.map _), fun j => ?_, fun x hx => h.times x (hW.subset hx), h.room, ?_, ?_, h.last, h.askl, h2⟩
  · show (aGet j (aDel k M.A.L)).isSome = _
    rw [get_del k j h.nodup, hW']
    split
    · rfl
    · exact h.keys j
  · show ((aDel k M.A.L).length : Int) ≤ M.A.room; omega
  · show M.A.asked = ans + exp + ((aDel k M.A.L).length : Int); omega
theorem hasK_drop {W : List Al.Al} (hn : (Al.keysL W).Nodup) (k j : Int) : Al.hasK (Al.dropW W k) j = if j = k then false else Al.hasK W j := by
  have key : ∀ U : List Al.Al, ∀ i, Al.hasK U i = (Al.atO U i).isSome := fun U i => by unfold Al.atO; cases Al.hasK U i <;> simp
  unfold Al.dropW
  split
  · rename_i hk
    obtain ⟨h1, h2⟩ := Al.getK_mem hk
    rw [key, Al.atO_erase hn h1, h2, key]
    by_cases e : j = k
    · rw [if_pos e, if_pos e.symm]; rfl
    · rw [if_neg e, if_neg (fun h => e h.symm)]
  · rename_i hk
    by_cases e : j = k
    · subst e; rw [if_pos rfl]; simpa using hk
    · rw [if_neg e]
theorem drop_sub (W : List Al.Al) (k : Int) : (Al.dropW W k).Sublist W := by
  unfold Al.dropW
  split
  · exact List.erase_sublist
  · exact List.Sublist.refl _
theorem ansE_0 {S : Ak.BookD} {v id kind : Int} (h : Ak.ansE S v id kind = 0) : ∃ a, aGet id S.L = some a ∧ a.node = v := by
  unfold Ak.ansE at h
  split at h
  · rename_i a ha
    split at h
    · rename_i hh; exact ⟨a, ha, hh.1⟩
    · cases h
  · cases h
theorem mayB_rep {x : Be.St} (h : Be.mayB x = true) : Be.mayB ⟨0, 0, x.u⟩ = true := by
  obtain ⟨_, _, _, _, _, h6, h7⟩ := Be.mayB_n h
  exact Be.mayB_of ⟨Int.le_refl _, by simp, Int.le_refl _, by simp, fun _ => rfl, h6, h7⟩
theorem may_rep {r : Be.Rul} {l : List Be.Vd} {s : List Be.St} (h : Be.mayE r l s = 0) {i : Nat} (hi : i < s.length) : Be.mayE r l (repS s i) = 0 := by
  rw [repS_at hi]
  exact Be.mayE_set h i (mayB_rep (Be.mayE_at h hi))
/-- Got of one that waits -/
theorem PInvW.got {M : PM} {W : List Al.Al} (h : PInvW M W) {v id kind : Int} (hE : Ak.ansE M.A v id kind = 0) :
    ∃ a, aGet id M.A.L = some a ∧ a.id = id ∧ a.node = v ∧ 0 ≤ v ∧ v < M.l.length ∧ PInvW { M with A := Ak.ansS M.A v id kind } (Al.dropW W id) := by
  obtain ⟨a, ha, hv⟩ := ansE_0 hE
  have hn := h.node _ (get_mem ha)
  have h8 := h.pos
  refine ⟨a, ha, hn.1, hv, hv ▸ hn.2.1, hv ▸ hn.2.2.1, ?_⟩
  unfold Ak.ansS
  rw [if_pos hE]
  exact h.gone (by rw [ha]; rfl) (drop_sub W id) (hasK_drop h.wk id) (by omega) ⟨by omega, h8.2⟩
/-- behind Ask and Got a book keeps what it keeps -/
theorem PInv.askP {M : PM} (h : PInv M) (v kind now : Int) : PInv (askP M v kind now).1 := by
  unfold Go.Proofs.YtagpclgappcnbaaGreat.askP
  split
  · exact h
  rename_i hc
  have hc : comesE M now = 0 := by omega
  have hn := PInvW.now h hc
  split
  · exact hn
  rename_i hv
  split
  · rename_i hE
    have : Ak.askS M.A v kind = M.A := by unfold Ak.askS; rw [if_neg hE]
    rw [this]; exact hn
  rename_i hE
  have hE : Ak.askE M.A v kind = 0 := by omega
  split
  · exact (hn.askB hE).2
  · have hat := askAt_eq h (now := now) hn.now0 hn.now1
    have h0 : 0 ≤ now := hn.now0
    have h1 : now ≤ 4611686018427387903 := hn.now1
    exact (hn.ask hE (by show v < (M.l.length : Int); omega) (t := askAt M now) (by omega) (by omega) (aPut (Ak.askI M.A v kind) now M.asked)).2.2.setW _
theorem PInv.gotP {M : PM} (h : PInv M) (v id kind now : Int) : PInv (gotP M v id kind now).1 := by
  unfold Go.Proofs.YtagpclgappcnbaaGreat.gotP
  split
  · exact h
  rename_i hc
  have hc : comesE M now = 0 := by omega
  have hn := PInvW.now h hc
  split
  · rename_i hE
    have : Ak.ansS M.A v id kind = M.A := by unfold Ak.ansS; rw [if_neg hE]
    rw [this]; exact hn
  rename_i hE
  have hE : Ak.ansE M.A v id kind = 0 := by omega
  obtain ⟨a, ha, -, -, h0, h1, hI⟩ := hn.got hE
  have hI2 : PInvW { M with now := now, A := Ak.ansS M.A v id kind, W := Al.dropW M.W id } (Al.dropW M.W id) := ⟨hI.may, hI.mean, hI.at_, hI.now0, hI.now1, hI.de, hI.node, hI.nodup, hI.wk, hI.keys, hI.times, hI.room, hI.len, hI.stat, hI.last, hI.askl, hI.pos⟩
  have h3 := (hI2.took id).2
  have hsl : v.toNat < M.seats.length := by have := PInvW.seats_len h; have h1' : v < (M.l.length : Int) := h1; omega
  have hvn : ((v.toNat : Nat) : Int) = v := by omega
  have := may_rep h.may hsl
  rw [hvn] at this
  exact h3.seat this
end Go.Proofs.YtagpclgappcnbaaGreat
namespace Go.Proofs.YtagpclgappcnbaaGreat
open Go.RowKit

/-! ### Tick, as plain data -/
noncomputable def tickA (M : PM) (x : Al.Al) : PM := { tookM { M with A := Ak.expS M.A x.2 } (Ak.expA M.A x.2).id with seats := Be.stepF M.cfg.q M.l M.seats (Ak.expA M.A x.2).node.toNat M.now }
noncomputable def tickF : PM → List Al.Al → PM
  | M, [] => M
  | M, x :: r => tickF (tickA M x) r
noncomputable def outF : PM → List Al.Al → List Ak.AskD
  | _, [] => []
  | M, x :: r => Ak.expA M.A x.2 :: outF (tickA M x) r
structure ReadyT (M : PM) (x : Al.Al) : Prop where
  got : (aGet x.2 M.A.L).isSome = true
  n0 : 0 ≤ (Ak.expA M.A x.2).node
  n1 : (Ak.expA M.A x.2).node < M.seats.length
  may : Be.mayE M.cfg.q M.l M.seats = 0
  now0 : 0 ≤ M.now
  now1 : M.now ≤ 4611686018427387903
  de : M.cfg.q.de < 9223372036854775808
  exp : 0 ≤ M.A.exp ∧ M.A.exp < 4611686018427387904
  l0 : 0 < M.l.length
  s0 : 0 < M.seats.length
def TickR : PM → List Al.Al → Prop
  | _, [] => True
  | M, x :: r => ReadyT M x ∧ TickR (tickA M x) r
noncomputable def tickP (M : PM) (now : Int) : PM × List Ak.AskD × Int :=
  if comesE M now ≠ 0 then (M, [], comesE M now)
  else (tickF { M with now := now, W := Al.leftL now M.W } (Al.dueL now M.W), outF { M with now := now, W := Al.leftL now M.W } (Al.dueL now M.W), 0)
theorem tickA_eqs (M : PM) (x : Al.Al) : (tickA M x).W = M.W ∧ (tickA M x).cfg = M.cfg ∧ (tickA M x).l = M.l ∧ (tickA M x).now = M.now := ⟨rfl, rfl, rfl, rfl⟩
theorem tickF_eqs : ∀ (D : List Al.Al) (M : PM), (tickF M D).W = M.W ∧ (tickF M D).cfg = M.cfg ∧ (tickF M D).l = M.l ∧ (tickF M D).now = M.now
  | [], _ => ⟨rfl, rfl, rfl, rfl⟩
  | x :: r, M => by
    obtain ⟨h1, h2, h3, h4⟩ := tickF_eqs r (tickA M x)
    exact ⟨h1, h2, h3, h4⟩
theorem hasK_tail {x : Al.Al} {r : List Al.Al} (hn : (Al.keysL (x :: r)).Nodup) (j : Int) : Al.hasK r j = if j = x.2 then false else Al.hasK (x :: r) j := by
  have hx : x.2 ∉ Al.keysL r := by
    unfold Al.keysL at hn ⊢
    rw [List.map_cons, List.nodup_cons] at hn
    exact hn.1
  by_cases e : j = x.2
  · subst e
    rw [if_pos rfl]
    cases h : Al.hasK r x.2 with
    | false => rfl
    | true =>
      have : (Al.atO r x.2).isSome = true := by unfold Al.atO; rw [h]; rfl
      exact absurd (Al.atO_some.1 this) hx
  · rw [if_neg e]
    unfold Al.hasK
    rw [List.any_cons]
    have : (x.2 == j) = false := by simpa using fun h => e h.symm
    simp [this]
/-- one that is due -/
theorem PInvW.tickA {M : PM} {x : Al.Al} {r : List Al.Al} (h : PInvW M (x :: r)) : ReadyT M x ∧ PInvW (tickA M x) r ∧ (Ak.expA M.A x.2).id = x.2 ∧ (Ak.expA M.A x.2).node < M.l.length := by
  have hk : Al.hasK (x :: r) x.2 = true := by unfold Al.hasK; rw [List.any_cons]; simp
  have hs : (aGet x.2 M.A.L).isSome = true := by rw [h.keys]; exact hk
  obtain ⟨a, ha⟩ := Option.isSome_iff_exists.1 hs
  have hA : Ak.expA M.A x.2 = a := by unfold Ak.expA; rw [ha]; rfl
  have hn := h.node _ (get_mem ha)
  have hp := h.pok
  have h8 := h.pos
  have hl := h.seats_len
  have hrd : ReadyT M x := ⟨hs, by rw [hA]; exact hn.2.1, by rw [hA]; have h9 : a.node < (M.l.length : Int) := hn.2.2.1; omega, h.may, h.now0, h.now1, h.de, hp.a.exp, hp.l, hp.s⟩
  have hS : Ak.expS M.A x.2 = { M.A with L := aDel x.2 M.A.L, exp := M.A.exp + 1 } := by unfold Ak.expS; rw [if_pos hs]
  have h2 : PInvW { M with A := Ak.expS M.A x.2 } r := by
    rw [hS]
    exact h.gone hs (List.sublist_cons_self _ _) (hasK_tail h.wk) (by omega) ⟨h8.1, by omega⟩
  have h3 := (h2.took (Ak.expA M.A x.2).id).2
  refine ⟨hrd, ?_, by rw [hA]; exact hn.1, by rw [hA]; exact hn.2.2.1⟩
  have n0 := hrd.n0
  have n1 := hrd.n1
  exact h3.seat (Be.stepF_may h.may (by omega) h.now0 h.now1)
theorem PInvW.tickF : ∀ {D : List Al.Al} {M : PM} {U : List Al.Al}, PInvW M (D ++ U) → TickR M D ∧ PInvW (tickF M D) U ∧ (outF M D).map (·.id) = D.map (·.2) ∧ ∀ a ∈ outF M D, 0 ≤ a.node ∧ a.node < M.l.length
  | [], _, _, h => ⟨trivial, h, rfl, fun a ha => by simp [outF] at ha⟩
  | x :: r, M, U, h => by
    obtain ⟨h1, h2, h3, h3'⟩ := PInvW.tickA (x := x) (r := r ++ U) h
    obtain ⟨h4, h5, h6, h7⟩ := PInvW.tickF h2
    refine ⟨⟨h1, h4⟩, h5, ?_, fun a ha => ?_⟩
    · unfold outF
      rw [List.map_cons, List.map_cons, h3, h6]
    · unfold outF at ha
      rcases List.mem_cons.1 ha with ha | ha
      · subst ha; exact ⟨h1.n0, h3'⟩
      · exact h7 a ha
theorem PInv.tick0 {M : PM} (h : PInv M) {now : Int} (hc : comesE M now = 0) : PInvW { M with now := now, W := Al.leftL now M.W } (Al.dueL now M.W ++ Al.leftL now M.W) := by
  rw [Al.due_left]
  have := PInvW.now h hc
  exact ⟨this.may, this.mean, this.at_, this.now0, this.now1, this.de, this.node, this.nodup, this.wk, this.keys, this.times, this.room, this.len, this.stat, this.last, this.askl, this.pos⟩
theorem PInv.tickP {M : PM} (h : PInv M) (now : Int) : PInv (tickP M now).1 := by
  unfold Go.Proofs.YtagpclgappcnbaaGreat.tickP
  split
  · exact h
  · rename_i hc
    have hc : comesE M now = 0 := by omega
    have h1 := (PInvW.tickF (h.tick0 hc)).2.1
    unfold PInv
    rw [(tickF_eqs _ _).1]
    exact h1
theorem due_le (now : Int) : ∀ W : List Al.Al, ∀ x ∈ Al.dueL now W, x.1 ≤ now
  | [], x, h => by simp [Al.dueL] at h
  | a :: r, x, h => by
    unfold Al.dueL at h
    split at h
    · simp at h
    · rename_i hn
      rcases List.mem_cons.1 h with h | h
      · subst h; omega
      · exact due_le now r x h
theorem left_head (now : Int) : ∀ W : List Al.Al, 0 < (Al.leftL now W).length → now < (Al.at' (Al.leftL now W) 0).1
  | [], h => by simp [Al.leftL] at h
  | a :: r, h => by
    unfold Al.leftL at h ⊢
    split
    · rename_i hn; exact hn
    · rename_i hn
      rw [if_neg hn] at h
      exact left_head now r h
theorem left_all {now : Int} : ∀ {W : List Al.Al}, (∀ x ∈ W, x.1 ≤ now) → Al.leftL now W = []
  | [], _ => rfl
  | a :: r, h => by
    unfold Al.leftL
    rw [if_neg (by have := h a List.mem_cons_self; omega)]
    exact left_all fun x hx => h x (List.mem_cons_of_mem _ hx)
end Go.Proofs.YtagpclgappcnbaaGreat
