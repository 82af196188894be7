import Derived.Test.YtnaknoebjbmboaaCloneK
import Derived.Test.YtnaknoebjbmboaaRefN
namespace Go.Proofs.Ytnaknoebjbmboaa
open Go.RowKit

def refOf (S : BookD) : RefD := ⟨S.room, S.last, S.asked, S.ans, S.exp⟩
def wtL (S : BookD) : List AskD := S.L.map (·.2)
structure InvK (S : BookD) (k : Nat) : Prop where
  rise : RiseL S.L
  top : ∀ p ∈ S.L, p.1 ≤ S.last
  len : (S.L.length : Int) ≤ S.room
  room : S.room ≤ 1024
  last0 : 0 ≤ S.last
  last1 : S.last ≤ 2147483647
  a0 : 0 ≤ S.asked
  a1 : S.asked ≤ k
  n0 : 0 ≤ S.ans
  n1 : S.ans ≤ k
  e0 : 0 ≤ S.exp
  e1 : S.exp ≤ k
theorem InvK.next {S : BookD} {k : Nat} (h : InvK S k) : InvK S (k + 1) :=
  ⟨h.rise, h.top, h.len, h.room, h.last0, h.last1, h.a0, by have := h.a1; omega, h.n0, by have := h.n1; omega, h.e0, by have := h.e1; omega⟩
theorem InvK.wlen {S : BookD} {k : Nat} (h : InvK S k) : (wtL S).length ≤ 1024 := by
  have h1 := h.len
  have h2 := h.room
  unfold wtL
  rw [List.length_map]
  omega
theorem RiseL.nodup {L : List (Int × AskD)} (h : RiseL L) : ((L.map (·.2)).map (·.id)).Nodup := by
  rw [h.ids]
  exact h.rise.imp fun h => by omega
theorem aPut_fresh {ν : Type} (k : Int) (v : ν) : ∀ (L : List (Int × ν)), (∀ p ∈ L, p.1 ≠ k) → aPut k v L = L ++ [(k, v)]
  | [], _ => rfl
  | (j, u) :: r, h => by
    unfold aPut
    rw [if_neg (fun e => h (j, u) (by simp) e.symm), aPut_fresh k v r (fun p hp => h p (by simp [hp]))]
    rfl
theorem wtL_at {S : BookD} {i : Nat} (hi : i < S.L.length) (hw : i < (wtL S).length) : (wtL S)[i] = (S.L[i]).2 := List.getElem_map _
theorem map_erase {α β : Type} (f : α → β) : ∀ (l : List α) (i : Nat), (l.eraseIdx i).map f = (l.map f).eraseIdx i
  | [], _ => rfl
  | _ :: _, 0 => rfl
  | x :: l, i + 1 => by simp only [List.eraseIdx_cons_succ, List.map_cons, map_erase f l i]
theorem aGet_none {L : List (Int × AskD)} (hL : RiseL L) {q : Int} (h : aGet q L = none) : ∀ a ∈ L.map (·.2), a.id ≠ q := by
  intro a ha e
  obtain ⟨p, hp, rfl⟩ := List.mem_map.1 ha
  have h1 := aGet_mem hL.rise p hp
  rw [← hL.own p hp, e, h] at h1
  cases h1
theorem aGet_idx : ∀ {L : List (Int × AskD)} {q : Int} {a : AskD}, aGet q L = some a → ∃ (i : Nat) (hi : i < L.length), L[i] = (q, a) ∧ aDel q L = L.eraseIdx i
  | [], _, _, h => by cases h
  | (j, u) :: r, q, a, h => by
    unfold aGet at h
    by_cases e : q = j
    · rw [if_pos e] at h
      cases h
      exact ⟨0, by simp, by simp [e], by unfold aDel; rw [if_pos e]; rfl⟩
    · rw [if_neg e] at h
      obtain ⟨i, hi, h1, h2⟩ := aGet_idx h
      exact ⟨i + 1, by simp; omega, by simpa using h1, by unfold aDel; rw [if_neg e, h2]; rfl⟩
theorem RiseL.sub {L L' : List (Int × AskD)} (h : RiseL L) (hs : L'.Sublist L) : RiseL L' :=
  ⟨h.rise.sublist (hs.map _), fun p hp => h.own p (hs.subset hp)⟩
theorem RiseL.snoc {L : List (Int × AskD)} (h : RiseL L) {n : Int} (ht : ∀ p ∈ L, p.1 ≤ n) (nd kd : Int) : RiseL (L ++ [(n + 1, ⟨n + 1, nd, kd⟩)]) := by
  constructor
  · rw [List.map_append, List.pairwise_append]
    refine ⟨h.rise, by simp, ?_⟩
    intro a ha b hb
    obtain ⟨p, hp, rfl⟩ := List.mem_map.1 ha
    have := ht p hp
    simp at hb
    omega
  · intro p hp
    rcases List.mem_append.1 hp with hp | hp
    · exact h.own p hp
    · simp at hp
      subst hp
      rfl
/-- what an act does to both -/
def BothI (fp fr : Nat) (args : List Value) (S S' : BookD) (V : Value) : Prop :=
  (∀ w b m, BK w b m S → Calls Try.prog fp (Array.mk (.pointer (some ⟨b, 0, none⟩) :: args)) w fun e w' => e = .returned V ∧ BK w' b m S' ∧ Keeps (fun k => k = b ∨ k = m) w w') ∧
  (∀ w G rb, RefK w G rb (refOf S) (wtL S) → (∀ n, w.heap.size ≤ n → G n) → Calls Try.prog fr (Array.mk (.pointer (some ⟨rb, 0, none⟩) :: args)) w fun e w' => e = .returned V ∧ RefK w' G rb (refOf S') (wtL S') ∧ Keeps (fun k => k = rb) w w')
theorem BK.keep0 {w w' : World} {b m : Nat} {S : BookD} (h : BK w b m S) (hb : Below w.heap.size w w') : BK w' b m S ∧ Keeps (fun k => k = b ∨ k = m) w w' := ⟨h.below hb, Keeps.of_below hb⟩
theorem ask_both (S : BookD) (k : Nat) (hk : k ≤ 1000) (h : InvK S k) (node kind : Int) : ∃ (x er : Int) (S' : BookD), InvK S' (k + 1) ∧ BothI 10 32 [.int .i64 node, .int .i64 kind] S S' (.tuple #[.int .i64 x, .int .i64 er]) := by
  by_cases ha : node < 0 ∨ 32 ≤ node ∨ replyOf kind = 0
  · refine ⟨0, 1, S, h.next, fun w b m hb => ?_, fun w G rb hr hG => ?_⟩
    · refine (ask_arg w b m S node kind hb.at_ ha).mono ?_
      rintro e w' ⟨rfl, rfl⟩
      exact ⟨rfl, hb, Keeps.refl _ _⟩
    · refine (ref_ask_arg w rb node kind ha).mono ?_
      rintro e w' ⟨rfl, rfl⟩
      exact ⟨rfl, hr, Keeps.refl _ _⟩
  have h1 : 0 ≤ node := by omega
  have h2 : node < 32 := by omega
  have h3 : (replyOf kind == 0) = false := by simp; omega
  by_cases h4 : S.room ≤ S.L.length ∨ 2147483647 ≤ S.last
  · refine ⟨0, 6, S, h.next, fun w b m hb => ?_, fun w G rb hr hG => ?_⟩
    · refine (ask_full w b m S node kind hb.at_ h1 h2 h3 h4).mono ?_
      rintro e w' ⟨rfl, hbl⟩
      exact ⟨rfl, hb.keep0 hbl⟩
    · refine (ref_ask_full w G rb (refOf S) (wtL S) node kind hr h1 h2 h3 (by unfold wtL refOf; rw [List.length_map]; exact h4)).mono ?_
      rintro e w' ⟨rfl, hbl⟩
      exact ⟨rfl, hr.below hbl, Keeps.of_below hbl⟩
  · have hl : S.L.length < S.room := by omega
    have hs : S.last < 2147483647 := by omega
    have hpn := aPut_fresh (S.last + 1) (⟨S.last + 1, node, kind⟩ : AskD) S.L (fun p hp => by have := h.top p hp; omega)
    have a0 := h.a0
    have a1 := h.a1
    refine ⟨S.last + 1, 0, { S with last := S.last + 1, L := aPut (S.last + 1) ⟨S.last + 1, node, kind⟩ S.L, asked := S.asked + 1 }, ?_, fun w b m hb => ?_, fun w G rb hr hG => ?_⟩
    · rw [hpn]
      refine ⟨h.rise.snoc h.top node kind, fun p hp => ?_, ?_, h.room, ?_, ?_, ?_, ?_, h.n0, ?_, h.e0, ?_⟩
      · rcases List.mem_append.1 hp with hp | hp
        · have := h.top p hp; simp only; omega
        · simp at hp; subst hp; simp
      · simp only [List.length_append, List.length_singleton]; omega
      · have := h.last0; simp only; omega
      · simp only; omega
      · simp only; omega
      · simp only; omega
      · have := h.n1; simp only; omega
      · have := h.e1; simp only; omega
    · refine (ask_okS w b m S node kind hb.at_ hb.st h1 h2 h3 hl hs h.last0 a0 (by omega)).mono ?_
      rintro e w' ⟨rfl, hB, hS, hK⟩
      exact ⟨rfl, ⟨hB, hS, by simp only; rw [hpn]; exact h.rise.snoc h.top node kind⟩, hK⟩
    · refine (ref_ask_ok w G rb (refOf S) (wtL S) node kind hr h1 h2 h3 (by unfold wtL refOf; rw [List.length_map]; exact hl) hs h.last0 a0 (by simp only [refOf]; omega) (by have := h.wlen; omega)).mono ?_
      rintro e w' ⟨rfl, hR, hK⟩
      refine ⟨rfl, ?_, hK⟩
      have := hR.at_ hG
      unfold wtL at this ⊢
      simp only
      rw [hpn, List.map_append]
      exact this
def zA : AskD := ⟨0, 0, 0⟩
theorem get_both (S : BookD) (k : Nat) (h : InvK S k) (id : Int) : ∃ (a : AskD) (er : Int) (S' : BookD), InvK S' (k + 1) ∧ BothI 14 35 [.int .i64 id] S S' (.tuple #[akV a, .int .i64 er]) := by
  cases hg : aGet id S.L with
  | none =>
    refine ⟨zA, 4, S, h.next, fun w b m hb => ?_, fun w G rb hr hG => ?_⟩
    · refine (get_none w b m S id hb.at_ hg).mono ?_
      rintro e w' ⟨rfl, hbl⟩
      exact ⟨rfl, hb.keep0 hbl⟩
    · refine (ref_get_none w G rb (refOf S) (wtL S) id hr (aGet_none h.rise hg)).mono ?_
      rintro e w' ⟨rfl, hbl⟩
      exact ⟨rfl, hr.below hbl, Keeps.of_below hbl⟩
  | some a =>
    obtain ⟨i, hi, h1, h2⟩ := aGet_idx hg
    have hw : i < (wtL S).length := by unfold wtL; simpa using hi
    have he : (wtL S)[i] = a := (wtL_at hi hw).trans (by rw [h1])
    have hid : a.id = id := by have := h.rise.own _ (List.getElem_mem hi); rw [h1] at this; exact this
    refine ⟨a, 0, S, h.next, fun w b m hb => ?_, fun w G rb hr hG => ?_⟩
    · refine (get_found w b m S id a hb.at_ hg).mono ?_
      rintro e w' ⟨rfl, hbl⟩
      exact ⟨rfl, hb.keep0 hbl⟩
    · have := ref_get w G rb (refOf S) (wtL S) i hw hr h.rise.nodup
      rw [he, hid] at this
      refine this.mono ?_
      rintro e w' ⟨rfl, hbl⟩
      exact ⟨rfl, hr.below hbl, Keeps.of_below hbl⟩
theorem wtL_del {S S' : BookD} {id : Int} {i : Nat} (h : aDel id S.L = S.L.eraseIdx i) (e : S'.L = aDel id S.L) : wtL S' = (wtL S).eraseIdx i := by
  unfold wtL
  rw [e, h, map_erase]
theorem expire_both (S : BookD) (k : Nat) (hk : k ≤ 1000) (h : InvK S k) (id : Int) : ∃ (a : AskD) (er : Int) (S' : BookD), InvK S' (k + 1) ∧ BothI 16 34 [.int .i64 id] S S' (.tuple #[akV a, .int .i64 er]) := by
  cases hg : aGet id S.L with
  | none =>
    refine ⟨zA, 4, S, h.next, fun w b m hb => ?_, fun w G rb hr hG => ?_⟩
    · refine (expire_none w b m S id hb.at_ hg).mono ?_
      rintro e w' ⟨rfl, hbl⟩
      exact ⟨rfl, hb.keep0 hbl⟩
    · refine (ref_expire_none w G rb (refOf S) (wtL S) id hr (aGet_none h.rise hg)).mono ?_
      rintro e w' ⟨rfl, hbl⟩
      exact ⟨rfl, hr.below hbl, Keeps.of_below hbl⟩
  | some a =>
    obtain ⟨i, hi, h1, h2⟩ := aGet_idx hg
    have hw : i < (wtL S).length := by unfold wtL; simpa using hi
    have he : (wtL S)[i] = a := (wtL_at hi hw).trans (by rw [h1])
    have hid : a.id = id := by have := h.rise.own _ (List.getElem_mem hi); rw [h1] at this; exact this
    have e0 := h.e0
    have e1 := h.e1
    have hsub : (aDel id S.L).Sublist S.L := by rw [h2]; exact List.eraseIdx_sublist _ _
    refine ⟨a, 0, { S with L := aDel id S.L, exp := S.exp + 1 }, ?_, fun w b m hb => ?_, fun w G rb hr hG => ?_⟩
    · refine ⟨h.rise.sub hsub, fun p hp => h.top p (hsub.subset hp), ?_, h.room, h.last0, h.last1, h.a0, ?_, h.n0, ?_, ?_, ?_⟩
      · have := hsub.length_le; have := h.len; simp only; omega
      · have := h.a1; simp only; omega
      · have := h.n1; simp only; omega
      · simp only; omega
      · simp only; omega
    · refine (expire_okS w b m S id a hb.at_ hb.st hg e0 (by omega)).mono ?_
      rintro e w' ⟨rfl, hB, hS, hK⟩
      exact ⟨rfl, ⟨hB, hS, h.rise.sub hsub⟩, hK⟩
    · have := ref_expire w G rb (refOf S) (wtL S) i hw hr h.rise.nodup (by have := h.wlen; omega) e0 (by simp only [refOf]; omega)
      rw [he, hid] at this
      refine this.mono ?_
      rintro e w' ⟨rfl, hK, hR⟩
      refine ⟨rfl, ?_, hK⟩
      rw [wtL_del (S := S) (S' := { S with L := aDel id S.L, exp := S.exp + 1 }) h2 rfl]
      exact hR.at_ hG
theorem answer_both (S : BookD) (k : Nat) (hk : k ≤ 1000) (h : InvK S k) (node id kind : Int) : ∃ (a : AskD) (er : Int) (S' : BookD), InvK S' (k + 1) ∧ BothI 13 33 [.int .i64 node, .int .i64 id, .int .i64 kind] S S' (.tuple #[akV a, .int .i64 er]) := by
  cases hg : aGet id S.L with
  | none =>
    refine ⟨zA, 4, S, h.next, fun w b m hb => ?_, fun w G rb hr hG => ?_⟩
    · refine (answer_none w b m S node id kind hb.at_ hg).mono ?_
      rintro e w' ⟨rfl, hbl⟩
      exact ⟨rfl, hb.keep0 hbl⟩
    · refine (ref_answer_none w G rb (refOf S) (wtL S) node id kind hr (aGet_none h.rise hg)).mono ?_
      rintro e w' ⟨rfl, hbl⟩
      exact ⟨rfl, hr.below hbl, Keeps.of_below hbl⟩
  | some a =>
    obtain ⟨i, hi, h1, h2⟩ := aGet_idx hg
    have hw : i < (wtL S).length := by unfold wtL; simpa using hi
    have he : (wtL S)[i] = a := (wtL_at hi hw).trans (by rw [h1])
    have hid : a.id = id := by have := h.rise.own _ (List.getElem_mem hi); rw [h1] at this; exact this
    by_cases hne : a.node ≠ node ∨ replyOf a.kind ≠ kind
    · refine ⟨zA, 4, S, h.next, fun w b m hb => ?_, fun w G rb hr hG => ?_⟩
      · by_cases hn : a.node = node
        · refine (answer_kind w b m S node id kind a hb.at_ hg (by simp [hn]) (by have := hne.resolve_left (fun h => h hn); simpa using this)).mono ?_
          rintro e w' ⟨rfl, hbl⟩
          exact ⟨rfl, hb.keep0 hbl⟩
        · refine (answer_node w b m S node id kind a hb.at_ hg (by simpa using hn)).mono ?_
          rintro e w' ⟨rfl, hbl⟩
          exact ⟨rfl, hb.keep0 hbl⟩
      · have := ref_answer_bad w G rb (refOf S) (wtL S) node kind i hw hr h.rise.nodup (by rw [he]; exact hne)
        rw [he, hid] at this
        refine this.mono ?_
        rintro e w' ⟨rfl, hbl⟩
        exact ⟨rfl, hr.below hbl, Keeps.of_below hbl⟩
    · have hn : a.node = node := by apply Classical.byContradiction; intro h; exact hne (.inl h)
      have hq : replyOf a.kind = kind := by apply Classical.byContradiction; intro h; exact hne (.inr h)
      have e0 := h.n0
      have e1 := h.n1
      have hsub : (aDel id S.L).Sublist S.L := by rw [h2]; exact List.eraseIdx_sublist _ _
      refine ⟨a, 0, { S with L := aDel id S.L, ans := S.ans + 1 }, ?_, fun w b m hb => ?_, fun w G rb hr hG => ?_⟩
      · refine ⟨h.rise.sub hsub, fun p hp => h.top p (hsub.subset hp), ?_, h.room, h.last0, h.last1, h.a0, ?_, ?_, ?_, h.e0, ?_⟩
        · have := hsub.length_le; have := h.len; simp only; omega
        · have := h.a1; simp only; omega
        · simp only; omega
        · simp only; omega
        · have := h.e1; simp only; omega
      · refine (answer_okS w b m S node id kind a hb.at_ hb.st hg hn hq e0 (by omega)).mono ?_
        rintro e w' ⟨rfl, hB, hS, hK⟩
        exact ⟨rfl, ⟨hB, hS, h.rise.sub hsub⟩, hK⟩
      · have := ref_answer w G rb (refOf S) (wtL S) kind i hw hr h.rise.nodup (by have := h.wlen; omega) (by rw [he]; exact hq) e0 (by simp only [refOf]; omega)
        rw [he, hid, hn] at this
        refine this.mono ?_
        rintro e w' ⟨rfl, hK, hR⟩
        refine ⟨rfl, ?_, hK⟩
        rw [wtL_del (S := S) (S' := { S with L := aDel id S.L, ans := S.ans + 1 }) h2 rfl]
        exact hR.at_ hG
end Go.Proofs.Ytnaknoebjbmboaa
