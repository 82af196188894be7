import Derived.Test.YtagpclgappcnbaaGreatAkR
import Derived.Test.YtagpclgappcnbaaGreatBkX
import Derived.Test.YtagpclgappcnbaaGreatAlRefH
import Derived.Test.YtagpclgappcnbaaGreatBkJJ
import Derived.Test.YtagpclgappcnbaaGreatHeldT
import Derived.Test.YtagpclgappcnbaaGreatApp
import Derived.LoopTactic
import Derived.Deep.RegionHeld3
namespace Go.Proofs.YtagpclgappcnbaaGreat.Ak
open Go.RowKit

/-! ### the document's asks, whatever is asked -/
def refOf (S : BookD) : RefD := ⟨S.room, S.last, S.asked, S.ans, S.exp⟩
def wtL (S : BookD) : List AskD := S.L.map (·.2)
theorem RiseL.nodup {L : List (Int × AskD)} (h : RiseL L) : ((L.map (·.2)).map (·.id)).Nodup := by
  rw [h.ids]
  exact h.rise.imp fun h => by omega
theorem aPut_fresh {ν : Type} (k : Int) (v : ν) : ∀ (L : List (Int × ν)), (∀ p ∈ L, p.1 ≠ k) → aPut k v L = L ++ [(k, v)]
  | [], _ => rfl
  | (j, u) :: r, h => by
    unfold aPut
    rw [if_neg (fun e => h (j, u) (by simp) e.symm), aPut_fresh k v r (fun p hp => h p (by simp [hp]))]
    rfl
theorem wtL_at {S : BookD} {i : Nat} (hi : i < S.L.length) (hw : i < (wtL S).length) : (wtL S)[i] = (S.L[i]).2 := List.getElem_map _
theorem map_erase {α β : Type} (f : α → β) : ∀ (l : List α) (i : Nat), (l.eraseIdx i).map f = (l.map f).eraseIdx i
  | [], _ => rfl
  | _ :: _, 0 => rfl
  | x :: l, i + 1 => by simp only [List.eraseIdx_cons_succ, List.map_cons, map_erase f l i]
theorem aGet_none {L : List (Int × AskD)} (hL : RiseL L) {q : Int} (h : aGet q L = none) : ∀ a ∈ L.map (·.2), a.id ≠ q := by
  intro a ha e
  obtain ⟨p, hp, rfl⟩ := List.mem_map.1 ha
  have h1 := aGet_mem hL.rise p hp
  rw [← hL.own p hp, e, h] at h1
  cases h1
theorem aGet_idx : ∀ {L : List (Int × AskD)} {q : Int} {a : AskD}, aGet q L = some a → ∃ (i : Nat) (hi : i < L.length), L[i] = (q, a) ∧ aDel q L = L.eraseIdx i
  | [], _, _, h => by cases h
  | (j, u) :: r, q, a, h => by
    unfold aGet at h
    by_cases e : q = j
    · rw [if_pos e] at h
      cases h
      exact ⟨0, by simp, by simp [e], by unfold aDel; rw [if_pos e]; rfl⟩
    · rw [if_neg e] at h
      obtain ⟨i, hi, h1, h2⟩ := aGet_idx h
      exact ⟨i + 1, by simp; omega, by simpa using h1, by unfold aDel; rw [if_neg e, h2]; rfl⟩
theorem RiseL.sub {L L' : List (Int × AskD)} (h : RiseL L) (hs : L'.Sublist L) : RiseL L' :=
  ⟨h.rise.sublist (hs.map _), fun p hp => h.own p (hs.subset hp)⟩
theorem RiseL.snoc {L : List (Int × AskD)} (h : RiseL L) {n : Int} (ht : ∀ p ∈ L, p.1 ≤ n) (nd kd : Int) : RiseL (L ++ [(n + 1, ⟨n + 1, nd, kd⟩)]) := by
  constructor
  · rw [List.map_append, List.pairwise_append]
    refine ⟨h.rise, by simp, ?_⟩
    intro a ha b hb
    obtain ⟨p, hp, rfl⟩ := List.mem_map.1 ha
    have := ht p hp
    simp at hb
    omega
  · intro p hp
    rcases List.mem_append.1 hp with hp | hp
    · exact h.own p hp
    · simp at hp
      subst hp
      rfl
theorem wtL_del {S S' : BookD} {id : Int} {i : Nat} (h : aDel id S.L = S.L.eraseIdx i) (e : S'.L = aDel id S.L) : wtL S' = (wtL S).eraseIdx i := by
  unfold wtL
  rw [e, h, map_erase]

structure RK (S : BookD) : Prop where
  rise : RiseL S.L
  top : ∀ p ∈ S.L, p.1 ≤ S.last
  len : S.L.length ≤ 1024
theorem wtL_len (S : BookD) : (wtL S).length = S.L.length := by unfold wtL; simp
theorem ref_ask_all (w : World) (G : Nat → Prop) (rb : Nat) (S : BookD) (node kind : Int) (hr : RefK w G rb (refOf S) (wtL S)) (h : RK S) (hO : AOK S) (hG : ∀ n, w.heap.size ≤ n → G n) :
    Calls Tryz.prog 73 #[.pointer (some ⟨rb, 0, none⟩), .int .i64 node, .int .i64 kind] w fun e w' => e = .returned (.tuple #[.int .i64 (askI S node kind), .int .i64 (askE S node kind)]) ∧ RefK w' G rb (refOf (askS S node kind)) (wtL (askS S node kind)) ∧ Keeps (fun n => n = rb) w w' := by
  unfold askI askS
  by_cases h1 : node < 0 ∨ 32 ≤ node ∨ replyOf kind = 0
  · have hE : askE S node kind = 1 := if_pos h1
    rw [hE, if_neg (by decide), if_neg (by decide)]
    refine (ref_ask_arg w rb node kind h1).mono ?_
    rintro e w' ⟨rfl, rfl⟩
    exact ⟨rfl, hr, Keeps.refl _ _⟩
  · by_cases h2 : S.room ≤ S.L.length ∨ 2147483647 ≤ S.last
    · have hE : askE S node kind = 6 := by unfold askE; rw [if_neg h1, if_pos h2]
      rw [hE, if_neg (by decide), if_neg (by decide)]
      refine (ref_ask_full w G rb (refOf S) (wtL S) node kind hr (by omega) (by omega) (by simp; omega) (by unfold refOf; rw [wtL_len]; exact h2)).mono ?_
      rintro e w' ⟨rfl, hbl⟩
      exact ⟨rfl, hr.below hbl, Keeps.of_below hbl⟩
    · have hE : askE S node kind = 0 := by unfold askE; rw [if_neg h1, if_neg h2]
      rw [hE, if_pos rfl, if_pos rfl]
      have hpn := aPut_fresh (S.last + 1) (⟨S.last + 1, node, kind⟩ : AskD) S.L (fun p hp => by have := h.top p hp; omega)
      have hl := h.len
      refine (ref_ask_ok w G rb (refOf S) (wtL S) node kind hr (by omega) (by omega) (by simp; omega) (by rw [wtL_len]; simp only [refOf]; omega) (by simp only [refOf]; omega) hO.last hO.asked.1 hO.asked.2 (by rw [wtL_len]; omega)).mono ?_
      rintro e w' ⟨rfl, hR, hK⟩
      refine ⟨rfl, ?_, hK⟩
      have := hR.at_ hG
      unfold wtL at this ⊢
      simp only
      rw [hpn, List.map_append]
      exact this
theorem ref_exp_all (w : World) (G : Nat → Prop) (rb : Nat) (S : BookD) (id : Int) (hr : RefK w G rb (refOf S) (wtL S)) (h : RK S) (hO : 0 ≤ S.exp ∧ S.exp < 4611686018427387904) (hG : ∀ n, w.heap.size ≤ n → G n) :
    Calls Tryz.prog 74 #[.pointer (some ⟨rb, 0, none⟩), .int .i64 id] w fun e w' => e = .returned (.tuple #[akV (expA S id), .int .i64 (expE S id)]) ∧ RefK w' G rb (refOf (expS S id)) (wtL (expS S id)) ∧ Keeps (fun n => n = rb) w w' := by
  unfold expA expE expS
  cases hg : aGet id S.L with
  | none =>
    refine (ref_expire_none w G rb (refOf S) (wtL S) id hr (aGet_none h.rise hg)).mono ?_
    rintro e w' ⟨rfl, hbl⟩
    exact ⟨rfl, hr.below hbl, Keeps.of_below hbl⟩
  | some a =>
    obtain ⟨i, hi, h1, h2⟩ := aGet_idx hg
    have hw : i < (wtL S).length := by unfold wtL; simpa using hi
    have he : (wtL S)[i] = a := (wtL_at hi hw).trans (by rw [h1])
    have hid : a.id = id := by have := h.rise.own _ (List.getElem_mem hi); rw [h1] at this; exact this
    have hl := h.len
    have := ref_expire w G rb (refOf S) (wtL S) i hw hr h.rise.nodup (by rw [wtL_len]; omega) hO.1 hO.2
    rw [he, hid] at this
    refine this.mono ?_
    rintro e w' ⟨rfl, hK, hR⟩
    refine ⟨rfl, ?_, hK⟩
    show RefK w' G rb (refOf { S with L := aDel id S.L, exp := S.exp + 1 }) (wtL { S with L := aDel id S.L, exp := S.exp + 1 })
    rw [wtL_del (S := S) (S' := { S with L := aDel id S.L, exp := S.exp + 1 }) h2 rfl]
    exact hR.at_ hG
theorem ref_get_all (w : World) (G : Nat → Prop) (rb : Nat) (S : BookD) (id : Int) (hr : RefK w G rb (refOf S) (wtL S)) (h : RK S) :
    Calls Tryz.prog 39 #[.pointer (some ⟨rb, 0, none⟩), .int .i64 id] w fun e w' => e = .returned (.tuple #[akV (expA S id), .int .i64 (getE S id)]) ∧ Below w.heap.size w w' := by
  unfold expA getE
  cases hg : aGet id S.L with
  | none => exact ref_get_none w G rb (refOf S) (wtL S) id hr (aGet_none h.rise hg)
  | some a =>
    obtain ⟨i, hi, h1, h2⟩ := aGet_idx hg
    have hw : i < (wtL S).length := by unfold wtL; simpa using hi
    have he : (wtL S)[i] = a := (wtL_at hi hw).trans (by rw [h1])
    have hid : a.id = id := by have := h.rise.own _ (List.getElem_mem hi); rw [h1] at this; exact this
    have := ref_get w G rb (refOf S) (wtL S) i hw hr h.rise.nodup
    rw [he, hid] at this
    exact this
theorem ref_ans_all (w : World) (G : Nat → Prop) (rb : Nat) (S : BookD) (node id kind : Int) (hr : RefK w G rb (refOf S) (wtL S)) (h : RK S) (hO : AOK S) (hG : ∀ n, w.heap.size ≤ n → G n) :
    Calls Tryz.prog 76 #[.pointer (some ⟨rb, 0, none⟩), .int .i64 node, .int .i64 id, .int .i64 kind] w fun e w' => e = .returned (.tuple #[akV (ansA S node id kind), .int .i64 (ansE S node id kind)]) ∧ RefK w' G rb (refOf (ansS S node id kind)) (wtL (ansS S node id kind)) ∧ Keeps (fun n => n = rb) w w' := by
  have no : ansE S node id kind = 4 → Calls Tryz.prog 76 #[.pointer (some ⟨rb, 0, none⟩), .int .i64 node, .int .i64 id, .int .i64 kind] w (fun e w' => e = .returned (.tuple #[akV ⟨0, 0, 0⟩, .int .i64 4]) ∧ Below w.heap.size w w') →
      Calls Tryz.prog 76 #[.pointer (some ⟨rb, 0, none⟩), .int .i64 node, .int .i64 id, .int .i64 kind] w fun e w' => e = .returned (.tuple #[akV (ansA S node id kind), .int .i64 (ansE S node id kind)]) ∧ RefK w' G rb (refOf (ansS S node id kind)) (wtL (ansS S node id kind)) ∧ Keeps (fun n => n = rb) w w' := by
    intro hE hc
    unfold ansA ansS
    rw [hE, if_neg (by decide), if_neg (by decide)]
    refine hc.mono ?_
    rintro e w' ⟨rfl, hb⟩
    exact ⟨rfl, hr.below hb, Keeps.of_below hb⟩
  cases hg : aGet id S.L with
  | none => exact no (by unfold ansE; rw [hg]) (ref_answer_none w G rb (refOf S) (wtL S) node id kind hr (aGet_none h.rise hg))
  | some a =>
    obtain ⟨i, hi, h1, h2⟩ := aGet_idx hg
    have hw : i < (wtL S).length := by unfold wtL; simpa using hi
    have he : (wtL S)[i] = a := (wtL_at hi hw).trans (by rw [h1])
    have hid : a.id = id := by have := h.rise.own _ (List.getElem_mem hi); rw [h1] at this; exact this
    have hl := h.len
    by_cases hne : a.node = node ∧ replyOf a.kind = kind
    · have hE : ansE S node id kind = 0 := by unfold ansE; rw [hg]; exact if_pos hne
      have := ref_answer w G rb (refOf S) (wtL S) kind i hw hr h.rise.nodup (by rw [wtL_len]; omega) (by rw [he]; exact hne.2) hO.ans.1 hO.ans.2
      rw [he, hid, hne.1] at this
      unfold ansA ansS
      rw [hE, if_pos rfl, if_pos rfl, hg]
      refine this.mono ?_
      rintro e w' ⟨rfl, hK, hR⟩
      refine ⟨rfl, ?_, hK⟩
      rw [wtL_del (S := S) (S' := { S with L := aDel id S.L, ans := S.ans + 1 }) h2 rfl]
      exact hR.at_ hG
    · have hor : a.node ≠ node ∨ replyOf a.kind ≠ kind := by
        by_cases hn : a.node = node
        · exact .inr fun hq => hne ⟨hn, hq⟩
        · exact .inl hn
      have := ref_answer_bad w G rb (refOf S) (wtL S) node kind i hw hr h.rise.nodup (by rw [he]; exact hor)
      rw [he, hid] at this
      exact no (by unfold ansE; rw [hg]; exact if_neg hne) this
end Go.Proofs.YtagpclgappcnbaaGreat.Ak
namespace Go.Proofs.YtagpclgappcnbaaGreat
open Go.RowKit

/-! ### the document's book of requests -/
structure RD where
  ra : Nat
  rh : Nat
  la : Option Addr
  lc : Nat
  sa : Option Addr
  sc : Nat
  qa : Option Addr
  qc : Nat
def sgL (x : Int × Int) : List Value := [.int .i64 x.1, .int .i64 x.2]
theorem sgL_length (x : Int × Int) : (sgL x).length = 2 := rfl
theorem sgL_one (x : Int × Int) : allOne (sgL x).toArray = true := rfl
def rbC (p : RD) (M : PM) (Q : List (Int × Int)) : Array Value := #[.int .i64 M.cfg.room, .int .i64 M.cfg.r.first, .int .i64 M.cfg.r.min, .int .i64 M.cfg.r.max, .int .i64 M.cfg.r.half, .int .i64 M.cfg.r.quart, .int .i64 M.cfg.q.f, .int .i64 M.cfg.q.lo, .int .i64 M.cfg.q.fo, .int .i64 M.cfg.q.nu, .int .i64 M.cfg.q.de, .slice p.la M.l.length p.lc, .pointer (some ⟨p.ra, 0, none⟩), .pointer (some ⟨p.rh, 0, none⟩), .int .i64 M.wait.value, .int .i64 M.wait.at_, .slice p.sa M.seats.length p.sc, .int .i64 M.now, .slice p.qa Q.length p.qc]
def slB (oa : Option Addr) (n : Nat) : Prop := ∀ a, oa = some a → a.block = n
structure RefP (W : World) (G : Nat → Prop) (rb : Nat) (p : RD) (M : PM) (Q : List (Int × Int)) : Prop where
  box : obj W rb = some (.cells (rbC p M Q) 58 (0, 0))
  a : Ak.RefK W G p.ra (Ak.refOf M.A) (Ak.wtL M.A)
  h : Al.RefAt W G p.rh M.W
  l : OwnS W 0 38 2 Be.vdL (.slice p.la M.l.length p.lc) M.l
  s : OwnS W 0 138 3 Be.stL (.slice p.sa M.seats.length p.sc) M.seats
  q : OwnS W 0 131 2 sgL (.slice p.qa Q.length p.qc) Q
  gb : G rb
  ga : G p.ra
  gh : G p.rh
  gl : ∀ a, p.la = some a → G a.block
  gs : ∀ a, p.sa = some a → G a.block
  gq : ∀ a, p.qa = some a → G a.block
theorem RefP.lt {W : World} {G : Nat → Prop} {rb : Nat} {p : RD} {M : PM} {Q : List (Int × Int)} (h : RefP W G rb p M Q) : rb < W.heap.size := lt_of_obj h.box
/-- the boxes that an act writes -/
def ROwn (rb : Nat) (p : RD) (n : Nat) : Prop := n = rb ∨ n = p.ra ∨ n = p.rh
theorem RefP.ne {W : World} {G : Nat → Prop} {rb : Nat} {p : RD} {M : PM} {Q : List (Int × Int)} (h : RefP W G rb p M Q) : rb ≠ p.ra ∧ rb ≠ p.rh ∧ p.ra ≠ p.rh := by
  have h1 := h.box
  obtain ⟨v, h2, -⟩ := h.a
  obtain ⟨u, h3, -⟩ := h.h
  refine ⟨?_, ?_, ?_⟩ <;> intro e
  · rw [e, h2] at h1; simp at h1
  · rw [e, h3] at h1; simp at h1
  · rw [e, h3] at h2; simp at h2
theorem sl_own {oa : Option Addr} {n c : Nat} {a : Addr} (e : oa = some a) : (Value.slice oa n c).ownBlock = some a.block := by rw [e]; rfl
/-- all that it holds stands -/
theorem RefP.of_G {W W' : World} {G G' : Nat → Prop} {rb : Nat} {p : RD} {M : PM} {Q : List (Int × Int)} (h : RefP W G rb p M Q) (hk : ∀ n, G n → n < W.heap.size → obj W' n = obj W n) (hz : W.heap.size ≤ W'.heap.size) (hg : ∀ n, G n → n < W.heap.size → G' n) : RefP W' G' rb p M Q := by
  have own : ∀ {α : Type} {E k : Nat} {enc : α → List Value} {v : Value} {xs : List α}, OwnS W 0 E k enc v xs → (∀ n, v.ownBlock = some n → G n) → OwnS W' 0 E k enc v xs := fun h0 hg0 => h0.keeps fun g e => hk g (hg0 g e) (h0.1.lt g e).2
  have ob : ∀ {oa : Option Addr} {n c : Nat}, (∀ a, oa = some a → G a.block) → ∀ g, (Value.slice oa n c).ownBlock = some g → G g := fun {oa} {n} {c} h0 g e => by
    cases oa with
    | none => cases e
    | some a => simp [Value.ownBlock] at e; rw [← e]; exact h0 a rfl
  have lt : ∀ {oa : Option Addr} {α : Type} {E k n c : Nat} {enc : α → List Value} {xs : List α}, OwnS W 0 E k enc (.slice oa n c) xs → ∀ a, oa = some a → a.block < W.heap.size := fun h0 a e => (h0.1.lt a.block (sl_own e)).2
  refine ⟨(hk _ h.gb h.lt).trans h.box, ?_, ?_, own h.l (ob h.gl), own h.s (ob h.gs), own h.q (ob h.gq), hg _ h.gb h.lt, hg _ h.ga h.a.lt, hg _ h.gh h.h.lt, fun a e => hg _ (h.gl a e) (lt h.l a e), fun a e => hg _ (h.gs a e) (lt h.s a e), fun a e => hg _ (h.gq a e) (lt h.q a e)⟩
  · obtain ⟨v, h1, h2, h3⟩ := h.a
    exact ⟨v, (hk _ h.ga (lt_of_obj h1)).trans h1, own h2 h3, fun n e => hg _ (h3 n e) (h2.1.lt n e).2⟩
  · obtain ⟨v, h1, h2, h3⟩ := h.h
    exact ⟨v, (hk _ h.gh (lt_of_obj h1)).trans h1, own h2 h3, fun n e => hg _ (h3 n e) (h2.1.lt n e).2⟩
theorem RefP.below {W W' : World} {G : Nat → Prop} {rb : Nat} {p : RD} {M : PM} {Q : List (Int × Int)} (h : RefP W G rb p M Q) (hb : Below W.heap.size W W') : RefP W' G rb p M Q :=
  h.of_G (fun _ _ hn => obj_below hb hn) hb.size fun _ hg _ => hg
/-- the list of asks and its book are others -/
theorem RefP.setA {W W' : World} {G : Nat → Prop} {rb : Nat} {p : RD} {M : PM} {Q : List (Int × Int)} (h : RefP W G rb p M Q) {A : Ak.BookD} (ha : Ak.RefK W' G p.ra (Ak.refOf A) (Ak.wtL A)) (hk : Keeps (fun n => n = p.ra) W W') : RefP W' G rb p { M with A := A } Q := by
  obtain ⟨n1, n2, n3⟩ := h.ne
  obtain ⟨va, h1, -⟩ := h.a
  have q : ∀ n, n < W.heap.size → n ≠ p.ra → obj W' n = obj W n := fun n hn he => hk.block n hn he
  have own : ∀ {α : Type} {E k : Nat} {enc : α → List Value} {v : Value} {xs : List α}, E ≠ 103 → OwnS W 0 E k enc v xs → OwnS W' 0 E k enc v xs := fun hE h0 => h0.keeps fun g e => q g (h0.1.lt g e).2 (fun eg => h0.ne h1 (fun cur e' => by cases e'; exact hE rfl) (by rw [e, eg]))
  refine ⟨(q _ h.lt n1).trans h.box, ha, ?_, own (by decide) h.l, own (by decide) h.s, own (by decide) h.q, h.gb, h.ga, h.gh, h.gl, h.gs, h.gq⟩
  obtain ⟨v, g1, g2, g3⟩ := h.h
  exact ⟨v, (q _ (lt_of_obj g1) n3.symm).trans g1, own (by decide) g2, g3⟩
theorem RefP.setH {W W' : World} {G : Nat → Prop} {rb : Nat} {p : RD} {M : PM} {Q : List (Int × Int)} (h : RefP W G rb p M Q) {U : List Al.Al} (ha : Al.RefAt W' G p.rh U) (hk : Keeps (fun n => n = p.rh) W W') : RefP W' G rb p { M with W := U } Q := by
  obtain ⟨n1, n2, n3⟩ := h.ne
  obtain ⟨va, h1, -⟩ := h.h
  have q : ∀ n, n < W.heap.size → n ≠ p.rh → obj W' n = obj W n := fun n hn he => hk.block n hn he
  have own : ∀ {α : Type} {E k : Nat} {enc : α → List Value} {v : Value} {xs : List α}, E ≠ 89 → OwnS W 0 E k enc v xs → OwnS W' 0 E k enc v xs := fun hE h0 => h0.keeps fun g e => q g (h0.1.lt g e).2 (fun eg => h0.ne h1 (fun cur e' => by cases e'; exact hE rfl) (by rw [e, eg]))
  refine ⟨(q _ h.lt n2).trans h.box, ?_, ha, own (by decide) h.l, own (by decide) h.s, own (by decide) h.q, h.gb, h.ga, h.gh, h.gl, h.gs, h.gq⟩
  obtain ⟨v, g1, g2, g3⟩ := h.a
  exact ⟨v, (q _ (lt_of_obj g1) n3).trans g1, own (by decide) g2, g3⟩
/-- a store into the box -/
theorem RefP.setBox {W : World} {G : Nat → Prop} {rb : Nat} {p p' : RD} {M M' : PM} {Q Q' : List (Int × Int)} (h : RefP W G rb p M Q) {i : Nat} {v : Value} (e : (rbC p M Q).setIfInBounds i v = rbC p' M' Q') (ea : p'.ra = p.ra) (eh : p'.rh = p.rh) (eA : M'.A = M.A) (eW : M'.W = M.W)
    (hl : OwnS W 0 38 2 Be.vdL (.slice p'.la M'.l.length p'.lc) M'.l) (hs : OwnS W 0 138 3 Be.stL (.slice p'.sa M'.seats.length p'.sc) M'.seats) (hq : OwnS W 0 131 2 sgL (.slice p'.qa Q'.length p'.qc) Q')
    (gl : ∀ a, p'.la = some a → G a.block) (gs : ∀ a, p'.sa = some a → G a.block) (gq : ∀ a, p'.qa = some a → G a.block) : RefP (W.setCell ⟨rb, i, none⟩ v) G rb p' M' Q' := by
  obtain ⟨n1, n2, n3⟩ := h.ne
  have q : ∀ n, n ≠ rb → obj (W.setCell ⟨rb, i, none⟩ v) n = obj W n := fun n hn => obj_setCell_ne _ ⟨rb, i, none⟩ _ _ hn
  have own : ∀ {α : Type} {E k : Nat} {enc : α → List Value} {v' : Value} {xs : List α}, E ≠ 58 → OwnS W 0 E k enc v' xs → OwnS (W.setCell ⟨rb, i, none⟩ v) 0 E k enc v' xs := fun hE h0 => h0.keeps fun g eg => q g (fun e2 => h0.ne h.box (fun cur e' => by cases e'; exact hE rfl) (by rw [eg, e2]))
  refine ⟨?_, ?_, ?_, own (by decide) hl, own (by decide) hs, own (by decide) hq, h.gb, by rw [ea]; exact h.ga, by rw [eh]; exact h.gh, gl, gs, gq⟩
  · have := obj_setCell_at v (i := i) h.box
    rw [e] at this
    exact this
  · rw [ea, eA]
    obtain ⟨u, g1, g2, g3⟩ := h.a
    exact ⟨u, (q _ n1.symm).trans g1, own (by decide) g2, g3⟩
  · rw [eh, eW]
    obtain ⟨u, g1, g2, g3⟩ := h.h
    exact ⟨u, (q _ n2.symm).trans g1, own (by decide) g2, g3⟩
set_option maxRecDepth 100000 in
theorem rcomes_any (w : World) (G : Nat → Prop) (rb : Nat) (p : RD) (M : PM) (Q : List (Int × Int)) (now : Int) (h : RefP w G rb p M Q) : Calls Tryz.prog 72 #[.pointer (some ⟨rb, 0, none⟩), .int .i64 now] w fun e w' => e = .returned (.int .i64 (comesE M now)) ∧ RefP w' G rb p (comesM M now) Q ∧ Keeps (fun n => n = rb) w w' := by
  have H := Lib.hid h
  have hbl := h.lt
  have c17 : w.cell? ⟨rb, 17, none⟩ = some (.int .i64 M.now) := cell_at h.box 17
  have yf := frozen_at h.box
  clear h
  go_enter Tryz.func72, Tryz.ntmps72
  by_cases h1 : now < M.now
  · have HE : Hid (comesE M now = 131) := Lib.hid (if_pos (.inl h1))
    go_wp2_with fail
    go_ret
    exact ⟨by rw [HE.out]; rfl, by unfold comesM; rw [HE.out, if_neg (by decide)]; exact H.out, Keeps.refl _ _⟩
  · by_cases h2 : 4611686018427387903 < now
    · have HE : Hid (comesE M now = 131) := Lib.hid (if_pos (.inr h2))
      go_wp2_with fail
      go_ret
      exact ⟨by rw [HE.out]; rfl, by unfold comesM; rw [HE.out, if_neg (by decide)]; exact H.out, Keeps.refl _ _⟩
    · have HE : Hid (comesE M now = 0) := Lib.hid (if_neg (fun hh => hh.elim h1 h2))
      have H2 : Hid (RefP (w.setCell ⟨rb, 17, none⟩ (.int .i64 now)) G rb p { M with now := now } Q) := Lib.hid (H.out.setBox rfl rfl rfl rfl rfl H.out.l H.out.s H.out.q H.out.gl H.out.gs H.out.gq)
      go_wp2_with fail
      go_ret
      exact ⟨by rw [HE.out]; rfl, by unfold comesM; rw [HE.out, if_pos rfl]; exact H2.out, (Keeps.refl (fun n => n = rb) w).setCell (a := ⟨rb, 17, none⟩) (.inl rfl) _⟩
end Go.Proofs.YtagpclgappcnbaaGreat
namespace Go.Proofs.YtagpclgappcnbaaGreat
open Go.RowKit

theorem aGet_drop {ν : Type} (id : Int) (Q : List (Int × ν)) {k : Nat} (hk : k < Q.length) : aGet id (Q.drop k) = if id = Q[k].1 then some Q[k].2 else aGet id (Q.drop (k + 1)) := by
  rw [List.drop_eq_getElem_cons hk]
  rfl
theorem sl_row2 {α : Type} {w : World} {oa : Option Addr} {n cap k : Nat} {enc : α → List Value} {xs : List α} (h : SlIn w (.slice oa n cap) k enc xs) (h0 : 0 < xs.length) : ∃ b off, oa = some ⟨b, off, none⟩ ∧ b < w.heap.size ∧ RowAt w b off k enc xs := by
  obtain ⟨oa', cap', e, h2, h3, h4⟩ := h
  simp only [Value.slice.injEq] at e
  obtain ⟨rfl, rfl, rfl⟩ := e
  exact h4 h0
set_option maxRecDepth 100000 in
set_option maxHeartbeats 2000000 in
theorem start_any (w : World) (G : Nat → Prop) (rb : Nat) (p : RD) (M : PM) (Q : List (Int × Int)) (id : Int) (h : RefP w G rb p M Q) (hlen : Q.length ≤ 100000) : Calls Tryz.prog 79 #[.pointer (some ⟨rb, 0, none⟩), .int .i64 id] w fun e w' => e = .returned (.int .i64 ((aGet id Q).getD 0)) ∧ w' = w := by
  have c18 : w.cell? ⟨rb, 18, none⟩ = some (.slice p.qa Q.length p.qc) := cell_at h.box 18
  have SQ := Lib.hid (h.q.slIn sgL_length)
  clear h
  generalize p.qa = qa at *
  generalize p.qc = qc at *
  go_enter Tryz.func79, Tryz.ntmps79
  go_wp2_with fail
  go_loopw [5] (fun v5 wr => ∃ k : Nat, k ≤ Q.length ∧ v5 = .int .i64 k ∧ wr = w ∧ Hid (aGet id (Q.drop k) = aGet id Q)) (fun i _ => Q.length - (intOf i).toNat)
  case atStart => exact ⟨0, Nat.zero_le _, rfl, rfl, Lib.hid rfl⟩
  case round =>
    obtain ⟨k, hk, rfl, rfl, HG⟩ := hrel
    by_cases hlt : k < Q.length
    · obtain ⟨b, off, rfl, hbb, hrow⟩ := sl_row2 SQ.out (by omega)
      have hs := hrow k hlt
      have hd := aGet_drop id Q hlt
      rw [HG.out] at hd
      have HD := Lib.hid hd
      clear hd hrow HG
      generalize Q[k] = x at *
      obtain ⟨x1, x2⟩ := x
      simp only at HD
      have c0 : wr.cell? ⟨b, off + k * 2, none⟩ = some (.int .i64 x1) := by have := subOf_cell hs (j := 0) (by decide); simpa [sgL] using this
      have c1 : wr.cell? ⟨b, off + k * 2 + 1, none⟩ = some (.int .i64 x2) := by have := subOf_cell hs (j := 1) (by decide); simpa [sgL] using this
      clear hs
      have hki : (k : Int) < Q.length := by omega
      by_cases hx : id = x1
      · subst hx
        have HF : Hid ((aGet id Q).getD 0 = x2) := Lib.hid (by rw [HD.out, if_pos rfl]; rfl)
        go_wp2_with fail
        go_ret
        exact ⟨by rw [HF.out]; rfl, rfl⟩
      · have hx1 : (x1 == id) = false := by simpa using fun e => hx e.symm
        have HF : Hid (aGet id (Q.drop (k + 1)) = aGet id Q) := Lib.hid (by rw [HD.out, if_neg hx])
        go_wp2_with fail
        go_roundw
        case rel => exact ⟨k + 1, by omega, by go_num, trivial, HF⟩
        case measure => simp [intOf]; omega
    · obtain rfl : Q.length = k := by omega
      have hk2 : ¬ (Q.length : Int) < Q.length := by omega
      have HF : Hid ((aGet id Q).getD 0 = 0) := Lib.hid (by rw [← HG.out, List.drop_length]; rfl)
      go_wp2_with fail
      go_ret
      exact ⟨by rw [HF.out]; rfl, rfl⟩
set_option maxRecDepth 100000 in
set_option maxHeartbeats 2000000 in
theorem rnext_any (w : World) (G : Nat → Prop) (rb : Nat) (p : RD) (M : PM) (Q : List (Int × Int)) (h : RefP w G rb p M Q) : Calls Tryz.prog 43 #[.pointer (some ⟨rb, 0, none⟩)] w fun e w' => e = .returned (.tuple #[.int .i64 (Al.at' M.W 0).1, .int .i64 (Al.peekE M.W)]) ∧ Below w.heap.size w w' := by
  have c13 : w.cell? ⟨rb, 13, none⟩ = some (.pointer (some ⟨p.rh, 0, none⟩)) := cell_at h.box 13
  have HC := Lib.hid (Al.peekR w G p.rh M.W h.h)
  clear h
  generalize Al.at' M.W 0 = x at *
  obtain ⟨x1, x2⟩ := x
  unfold Al.alV at HC
  go_enter Tryz.func43, Tryz.ntmps43
  go_wp2_with fail
  refine HC.out.mono ?_
  rintro e w3 ⟨rfl, b3⟩
  go_wp2_with fail
  go_ret2
  exact ⟨rfl, b3.alloc b3.size _⟩
end Go.Proofs.YtagpclgappcnbaaGreat
