import Derived.Test.YtagpclgappcnbaaGreatRbH
namespace Go.Proofs.YtagpclgappcnbaaGreat
open Go.RowKit

/-! ### what the two books say alike, behind every act -/
theorem get_snoc_ne {ν : Type} {j k : Int} (hj : j ≠ k) (v : ν) : ∀ (L : List (Int × ν)), aGet j (L ++ [(k, v)]) = aGet j L
  | [] => by show (if j = k then some v else none) = none; rw [if_neg hj]
  | (i, u) :: r => by
    show (if j = i then some u else aGet j (r ++ [(k, v)])) = (if j = i then some u else aGet j r)
    rw [get_snoc_ne hj v r]
theorem get_snoc_new {ν : Type} {k : Int} (v : ν) : ∀ {L : List (Int × ν)}, (∀ x ∈ L, x.1 ≠ k) → aGet k (L ++ [(k, v)]) = some v
  | [], _ => by show (if k = k then some v else none) = some v; rw [if_pos rfl]
  | (i, u) :: r, h => by
    show (if k = i then some u else aGet k (r ++ [(k, v)])) = some v
    rw [if_neg (fun e => h (i, u) List.mem_cons_self e.symm)]
    exact get_snoc_new v fun x hx => h x (List.mem_cons_of_mem _ hx)
theorem put_nodup {ν : Type} {k : Int} {v : ν} : ∀ {L : List (Int × ν)}, (L.map (·.1)).Nodup → ((aPut k v L).map (·.1)).Nodup
  | [], _ => by show ([(k, v)].map (·.1)).Nodup; simp
  | (i, u) :: r, h => by
    unfold aPut
    by_cases e : k = i
    · rw [if_pos e]; subst e; exact h
    · rw [if_neg e]
      simp only [List.map_cons, List.nodup_cons] at h ⊢
      refine ⟨fun hm => h.1 ?_, put_nodup h.2⟩
      have h1 := get_in.2 hm
      rw [get_put, if_neg (fun hh => e hh.symm)] at h1
      exact get_in.1 h1
theorem RI.new (c : CfgD) (l : List Be.Vd) (now : Int) : RI (newM c l now) [] :=
  ⟨⟨List.Pairwise.nil, fun p hp => by cases hp⟩, fun _ _ => rfl, fun x hx => (by cases hx), List.nodup_nil⟩
theorem RI.ask {M : PM} {Q : List (Int × Int)} (h : RI M Q) (hI : PInv M) (v kind now : Int) : RI (askP M v kind now).1 (askQ M Q v kind now) := by
  unfold askP askQ
  by_cases hc : comesE M now ≠ 0
  · rw [if_pos hc, if_pos hc]; exact h
  rw [if_neg hc, if_neg hc]
  by_cases hv : v < 0 ∨ (M.l.length : Int) ≤ v
  · rw [if_pos hv, if_pos hv]; exact ⟨h.rise, h.same, h.old, h.nd⟩
  rw [if_neg hv, if_neg hv]
  by_cases hE : Ak.askE M.A v kind ≠ 0
  · have : Ak.askS M.A v kind = M.A := by unfold Ak.askS; rw [if_neg hE]
    rw [if_pos hE, if_pos hE, this]; exact ⟨h.rise, h.same, h.old, h.nd⟩
  have hE0 : Ak.askE M.A v kind = 0 := by omega
  rw [if_neg hE, if_neg hE]
  have htop : ∀ p ∈ M.A.L, p.1 ≤ M.A.last := fun p hp => (hI.node p hp).2.2.2
  have hpn := Ak.aPut_fresh (M.A.last + 1) (⟨M.A.last + 1, v, kind⟩ : Ak.AskD) M.A.L (fun p hp => by have := htop p hp; omega)
  have hid : Ak.askI M.A v kind = M.A.last + 1 := by unfold Ak.askI; rw [if_pos hE0]
  have hS : Ak.askS M.A v kind = { M.A with last := M.A.last + 1, L := M.A.L ++ [(M.A.last + 1, ⟨M.A.last + 1, v, kind⟩)], asked := M.A.asked + 1 } := by unfold Ak.askS; rw [if_pos hE0, hpn]
  have hrise := Ak.RiseL.snoc h.rise htop v kind
  by_cases hB : Be.isB M.seats v now = true
  · rw [if_pos hB, if_pos hB, hid, hS]
    have hg : aGet (M.A.last + 1) (M.A.L ++ [(M.A.last + 1, (⟨M.A.last + 1, v, kind⟩ : Ak.AskD))]) = some ⟨M.A.last + 1, v, kind⟩ := get_snoc_new _ (fun x hx => by have := htop x hx; omega)
    have hX : Ak.expS { M.A with last := M.A.last + 1, L := M.A.L ++ [(M.A.last + 1, ⟨M.A.last + 1, v, kind⟩)], asked := M.A.asked + 1 } (M.A.last + 1) = { M.A with last := M.A.last + 1, L := aDel (M.A.last + 1) (M.A.L ++ [(M.A.last + 1, ⟨M.A.last + 1, v, kind⟩)]), asked := M.A.asked + 1, exp := M.A.exp + 1 } := by
      unfold Ak.expS
      rw [if_pos (by show (aGet _ _).isSome = true; rw [hg]; rfl)]
    rw [hX]
    refine ⟨Ak.RiseL.sub hrise (del_sublist _ _), fun id hs => ?_, fun x hx => ?_, h.nd⟩
    · have hs' : (aGet id (aDel (M.A.last + 1) (M.A.L ++ [(M.A.last + 1, (⟨M.A.last + 1, v, kind⟩ : Ak.AskD))]))).isSome = true := hs
      have hnd : ((M.A.L ++ [(M.A.last + 1, (⟨M.A.last + 1, v, kind⟩ : Ak.AskD))]).map (·.1)).Nodup := hrise.rise.imp fun h => by omega
      rw [get_del _ _ hnd] at hs'
      by_cases e : id = M.A.last + 1
      · rw [if_pos e] at hs'; cases hs'
      · rw [if_neg e, get_snoc_ne e] at hs'
        exact h.same id hs'
    · have := h.old x hx; show x.1 ≤ M.A.last + 1; omega
  · rw [if_neg hB, if_neg hB, hid, hS]
    refine ⟨hrise, fun id hs => ?_, fun x hx => ?_, put_nodup h.nd⟩
    · have hs' : (aGet id (M.A.L ++ [(M.A.last + 1, (⟨M.A.last + 1, v, kind⟩ : Ak.AskD))])).isSome = true := hs
      show aGet id (Q ++ [(M.A.last + 1, now)]) = aGet id (aPut (M.A.last + 1) now M.asked)
      rw [get_put]
      by_cases e : id = M.A.last + 1
      · rw [if_pos e, e]; exact get_snoc_new _ (fun x hx => by have := h.old x hx; omega)
      · rw [if_neg e, get_snoc_ne e]
        rw [get_snoc_ne e] at hs'
        exact h.same id hs'
    · show x.1 ≤ M.A.last + 1
      rcases List.mem_append.1 hx with hx | hx
      · have := h.old x hx; omega
      · simp at hx; subst hx; exact Int.le_refl _
/-- one that waited is gone -/
theorem RI.gone {M : PM} {Q : List (Int × Int)} (h : RI M Q) {M' : PM} {id : Int} (e1 : M'.A.L = aDel id M.A.L) (e2 : M'.A.last = M.A.last) (e3 : M'.asked = aDel id M.asked) : RI M' Q := by
  refine ⟨by rw [e1]; exact Ak.RiseL.sub h.rise (del_sublist _ _), fun j hs => ?_, fun x hx => by rw [e2]; exact h.old x hx, by rw [e3]; exact del_nodup id h.nd⟩
  rw [e1, get_del _ _ (h.rise.rise.imp fun h => by omega)] at hs
  by_cases e : j = id
  · rw [if_pos e] at hs; cases hs
  · rw [if_neg e] at hs
    rw [e3, get_del_ne e]
    exact h.same j hs
theorem RI.got {M : PM} {Q : List (Int × Int)} (h : RI M Q) (v id kind now : Int) : RI (gotP M v id kind now).1 Q := by
  unfold gotP
  by_cases hc : comesE M now ≠ 0
  · rw [if_pos hc]; exact h
  rw [if_neg hc]
  by_cases hE : Ak.ansE M.A v id kind ≠ 0
  · have : Ak.ansS M.A v id kind = M.A := by unfold Ak.ansS; rw [if_neg hE]
    rw [if_pos hE, this]; exact ⟨h.rise, h.same, h.old, h.nd⟩
  have hE0 : Ak.ansE M.A v id kind = 0 := by omega
  rw [if_neg hE]
  exact h.gone (id := id) (by show (Ak.ansS M.A v id kind).L = _; unfold Ak.ansS; rw [if_pos hE0]) (by show (Ak.ansS M.A v id kind).last = _; unfold Ak.ansS; rw [if_pos hE0]) rfl
theorem RI.tickF : ∀ {D : List Al.Al} {M : PM} {U : List Al.Al} {Q : List (Int × Int)}, RI M Q → PInvW M (D ++ U) → RI (Go.Proofs.YtagpclgappcnbaaGreat.tickF M D) Q
  | [], _, _, _, h, _ => h
  | x :: r, M, U, Q, h, hp => by
    obtain ⟨rd, h2, eid, _⟩ := PInvW.tickA (x := x) (r := r ++ U) hp
    have hs := rd.got
    have : RI (Go.Proofs.YtagpclgappcnbaaGreat.tickA M x) Q := h.gone (id := x.2) (by show (Ak.expS M.A x.2).L = _; unfold Ak.expS; rw [if_pos hs]) (by show (Ak.expS M.A x.2).last = _; unfold Ak.expS; rw [if_pos hs]) (by show aDel (Ak.expA M.A x.2).id M.asked = _; rw [eid])
    show RI (Go.Proofs.YtagpclgappcnbaaGreat.tickF (Go.Proofs.YtagpclgappcnbaaGreat.tickA M x) r) Q
    exact RI.tickF this h2
theorem RI.tick {M : PM} {Q : List (Int × Int)} (h : RI M Q) (hI : PInv M) (now : Int) : RI (tickP M now).1 Q := by
  unfold tickP
  by_cases hc : comesE M now ≠ 0
  · rw [if_pos hc]; exact h
  rw [if_neg hc]
  have hc0 : comesE M now = 0 := by omega
  exact RI.tickF (M := { M with now := now, W := Al.leftL now M.W }) ⟨h.rise, h.same, h.old, h.nd⟩ (hI.tick0 hc0)
theorem askQ_len (M : PM) (Q : List (Int × Int)) (v kind now : Int) : (askQ M Q v kind now).length ≤ Q.length + 1 := by
  unfold askQ
  split
  · omega
  · split
    · omega
    · split
      · omega
      · split
        · omega
        · simp
/-- what the other book made lies beside this one -/
theorem BkAt.grow {W W' : World} {X : Nat → Prop} {b : Nat} {M : PM} (h : BkAt W X b M) (hk : Keeps X W W') : BkAt W' (fun n => X n ∨ (W.heap.size ≤ n ∧ n < W'.heap.size)) b M := by
  obtain ⟨F, p, h1, h2⟩ := h.ex
  have hp := h.inv.pok
  refine ⟨h.inv, fun n hn => ?_, F, p, h1.keep hk (fun n hn => (h2 n hn).1) (fun a e hx => (h2 _ hx).2.1 a e rfl) (fun a e hx => (h2 _ hx).2.2 a e rfl) (fun a e => h1.l.blk hp.l e) (fun a e => h1.seats.blk hp.s e), fun n hn => ?_⟩
  · rcases hn with hn | hn
    · exact Nat.lt_of_lt_of_le (h.lt n hn) hk.size
    · exact hn.2
  · rcases hn with hn | hn
    · exact h2 n hn
    · refine ⟨fun ho => by have := h1.own_lt ho; omega, fun a e => ?_, fun a e => ?_⟩
      · have := h1.l.blk hp.l e; omega
      · have := h1.seats.blk hp.s e; omega
/-- both books, of the same plain data; X holds the document's -/
structure Both (W : World) (X : Nat → Prop) (b rb : Nat) (M : PM) (Q : List (Int × Int)) : Prop where
  bk : BkAt W X b M
  ri : RI M Q
  ex : ∃ p, RefP W X rb p M Q
  nm : ∀ x ∈ M.l, x.name.size ≤ 300
theorem Both.below {W W' : World} {X : Nat → Prop} {b rb : Nat} {M : PM} {Q : List (Int × Int)} (h : Both W X b rb M Q) (hb : Below W.heap.size W W') : Both W' X b rb M Q := by
  obtain ⟨p, hp⟩ := h.ex
  exact ⟨h.bk.below hb, h.ri, ⟨p, hp.below hb⟩, h.nm⟩
/-- the peer's book has acted -/
theorem Both.act1 {W W' : World} {X : Nat → Prop} {b rb : Nat} {M M' : PM} {Q : List (Int × Int)} (h : Both W X b rb M Q) (h1 : BkAt W' X b M') (hk : Keeps (fun n => ¬ X n) W W') : ∃ p, RefP W' X rb p M Q := by
  obtain ⟨p, hp⟩ := h.ex
  exact ⟨p, hp.of_G (fun n hn hl => hk.block n hl fun hh => hh hn) hk.size fun _ hg _ => hg⟩
end Go.Proofs.YtagpclgappcnbaaGreat
namespace Go.Proofs.YtagpclgappcnbaaGreat
open Go.RowKit

/-! ### both books, act by act: X holds the document's blocks and whatever else lies beside the peer's; P holds of the document's own boxes -/
structure Mid (W : World) (X : Nat → Prop) (P : Nat → Prop) (b rb : Nat) (M' M : PM) (Q : List (Int × Int)) : Prop where
  bk : BkAt W X b M'
  ex : ∃ p, RefP W X rb p M Q ∧ P rb ∧ P p.ra ∧ P p.rh
theorem Mid.below {W W' : World} {X : Nat → Prop} {P : Nat → Prop} {b rb : Nat} {M' M : PM} {Q : List (Int × Int)} (h : Mid W X P b rb M' M Q) (hb : Below W.heap.size W W') : Mid W' X P b rb M' M Q := by
  obtain ⟨p, hp, h3⟩ := h.ex
  exact ⟨h.bk.below hb, p, hp.below hb, h3⟩
theorem Mid.first {W W' : World} {X : Nat → Prop} {P : Nat → Prop} {b rb : Nat} {M1 M2 M : PM} {Q : List (Int × Int)} (h : Mid W X P b rb M1 M Q) (h1 : BkAt W' X b M2) (hk : Keeps (fun n => ¬ X n) W W') : Mid W' X P b rb M2 M Q := by
  obtain ⟨p, hp, h3⟩ := h.ex
  exact ⟨h1, p, hp.of_G (fun n hn hl => hk.block n hl fun hh => hh hn) hk.size fun _ hg _ => hg, h3⟩
def XN (X : Nat → Prop) (W W' : World) (n : Nat) : Prop := X n ∨ (W.heap.size ≤ n ∧ n < W'.heap.size)
theorem Mid.second {W W' : World} {X : Nat → Prop} {P : Nat → Prop} {b rb : Nat} {M1 M M2 : PM} {Q Q' : List (Int × Int)} (h : Mid W X P b rb M1 M Q) {p p' : RD} (hp : RefP W X rb p M Q) (h0 : P rb ∧ P p.ra ∧ P p.rh) {G : Nat → Prop} (hG : ∀ n, G n → X n ∨ W.heap.size ≤ n) (hr : RefP W' G rb p' M2 Q') (e1 : p'.ra = p.ra) (e2 : p'.rh = p.rh) (hk : Keeps (ROwn rb p) W W') :
    Mid W' (XN X W W') P b rb M1 M2 Q' ∧ Keeps P W W' := by
  refine ⟨⟨h.bk.grow (hk.mono fun n hn => ?_), p', hr.widen fun n hg hl => ?_, h0.1, by rw [e1]; exact h0.2.1, by rw [e2]; exact h0.2.2⟩, hk.mono fun n hn => ?_⟩
  · rcases hn with e | e | e <;> subst e
    · exact hp.gb
    · exact hp.ga
    · exact hp.gh
  · rcases hG n hg with e | e
    · exact .inl e
    · exact .inr ⟨e, hl⟩
  · rcases hn with e | e | e <;> subst e
    · exact h0.1
    · exact h0.2.1
    · exact h0.2.2
section
variable (W : World) (X : Nat → Prop) (P : Nat → Prop) (b rb : Nat) (M' M : PM) (Q : List (Int × Int)) (h : Mid W X P b rb M' M Q)
include h
theorem mid_ask (hI : PInv M) (hR : RI M Q) (hQ : Q.length ≤ 100000) (v kind now : Int) : Calls Tryz.prog 35 #[.pointer (some ⟨rb, 0, none⟩), .int .i64 v, .int .i64 kind, .int .i64 now] W fun e w' =>
    e = .returned (.tuple #[.int .i64 (askP M v kind now).2.1, .bool (askP M v kind now).2.2.1, .int .i64 (askP M v kind now).2.2.2]) ∧ Mid w' (XN X W w') P b rb M' (askP M v kind now).1 (askQ M Q v kind now) ∧ Keeps P W w' := by
  obtain ⟨p, hp, h0⟩ := h.ex
  refine (rask_any W (fun n => X n ∨ W.heap.size ≤ n) rb p M Q v kind now (hp.widen fun n hn _ => .inl hn) hI hR hQ (fun n hn => .inr hn)).mono ?_
  rintro e w' ⟨rfl, ⟨p', h1, h2, h3⟩, hk⟩
  exact ⟨rfl, h.second hp h0 (fun n hn => hn) h1 h2 h3 hk⟩
theorem mid_got (hI : PInv M) (hR : RI M Q) (hQ : Q.length ≤ 100000) (hN : ∀ x ∈ M.l, x.name.size ≤ 300) (v id kind now : Int) : Calls Tryz.prog 36 #[.pointer (some ⟨rb, 0, none⟩), .int .i64 v, .int .i64 id, .int .i64 kind, .int .i64 now] W fun e w' =>
    e = .returned (.tuple #[Ak.askV (gotP M v id kind now).2.1, .int .i64 (gotP M v id kind now).2.2]) ∧ Mid w' (XN X W w') P b rb M' (gotP M v id kind now).1 Q ∧ Keeps P W w' := by
  obtain ⟨p, hp, h0⟩ := h.ex
  refine (rgot_any W (fun n => X n ∨ W.heap.size ≤ n) rb p M Q v id kind now (hp.widen fun n hn _ => .inl hn) hI hR hQ hN (fun n hn => .inr hn)).mono ?_
  rintro e w' ⟨rfl, ⟨p', h1, h2, h3⟩, hk⟩
  exact ⟨rfl, h.second hp h0 (fun n hn => hn) h1 h2 h3 hk⟩
theorem mid_tick (hI : PInv M) (hR : RI M Q) (hQ : Q.length ≤ 100000) (hN : ∀ x ∈ M.l, x.name.size ≤ 300) (now : Int) : Calls Tryz.prog 37 #[.pointer (some ⟨rb, 0, none⟩), .int .i64 now] W fun e w' =>
    ∃ v, e = .returned (.tuple #[v, .int .i64 (tickP M now).2.2]) ∧ OwnS w' W.heap.size 66 3 akL v (tickP M now).2.1 ∧ Mid w' (XN X W w') P b rb M' (tickP M now).1 Q ∧ Keeps P W w' := by
  obtain ⟨p, hp, h0⟩ := h.ex
  refine (rtick_any W (fun n => X n ∨ W.heap.size ≤ n) rb p M Q now (hp.widen fun n hn _ => .inl hn) hI hR hQ hN (fun n hn => .inr hn)).mono ?_
  rintro e w' ⟨v, rfl, ho, ⟨p', h1, h2, h3⟩, hk⟩
  exact ⟨v, rfl, ho, h.second hp h0 (fun n hn => hn.1) h1 h2 h3 hk⟩
theorem mid_askB (v kind now : Int) : Calls Tryz.prog 14 #[.pointer (some ⟨b, 0, none⟩), .int .i64 v, .int .i64 kind, .int .i64 now] W fun e w' =>
    e = .returned (.tuple #[.int .i64 (askP M' v kind now).2.1, .bool (askP M' v kind now).2.2.1, .int .i64 (askP M' v kind now).2.2.2]) ∧ Mid w' X P b rb (askP M' v kind now).1 M Q ∧ Keeps (fun n => ¬ X n) W w' := by
  refine (ask_bk W X b M' v kind now h.bk).mono ?_
  rintro e w' ⟨rfl, h1, hk⟩
  exact ⟨rfl, h.first h1 hk, hk⟩
theorem mid_gotB (v id kind now : Int) : Calls Tryz.prog 18 #[.pointer (some ⟨b, 0, none⟩), .int .i64 v, .int .i64 id, .int .i64 kind, .int .i64 now] W fun e w' =>
    e = .returned (.tuple #[Ak.askV (gotP M' v id kind now).2.1, .int .i64 (gotP M' v id kind now).2.2]) ∧ Mid w' X P b rb (gotP M' v id kind now).1 M Q ∧ Keeps (fun n => ¬ X n) W w' := by
  refine (got_bk W X b M' v id kind now h.bk).mono ?_
  rintro e w' ⟨rfl, h1, hk⟩
  exact ⟨rfl, h.first h1 hk, hk⟩
theorem mid_tickB (now : Int) : Calls Tryz.prog 15 #[.pointer (some ⟨b, 0, none⟩), .int .i64 now] W fun e w' =>
    ∃ v, e = .returned (.tuple #[v, .int .i64 (tickP M' now).2.2]) ∧ OwnS w' W.heap.size 66 3 akL v (tickP M' now).2.1 ∧ Mid w' X P b rb (tickP M' now).1 M Q ∧ Keeps (fun n => ¬ X n) W w' := by
  refine (tick_bk W X b M' now h.bk).mono ?_
  rintro e w' ⟨v, rfl, ho, h1, hk⟩
  exact ⟨v, rfl, ho, h.first h1 hk, hk⟩
end
end Go.Proofs.YtagpclgappcnbaaGreat
namespace Go.Proofs.YtagpclgappcnbaaGreat
open Go.RowKit

/-! ### slices.Clone of validators -/
theorem wpList_allVd {ops : Array Oper} {rest : List Oper} {o : Oper} {a : Act} {w : World} {Q : Exit → Act → World → Prop} (hgd : o.guard = none) (s x : Operand) (ho : o.op = .call { callee := .builtin .append, args := #[s, x], argTypes := #[28, 28] })
    (base : Nat) (v : Value) (xs ys : List Be.Vd) (hs : a.eval s = v) (hown : OwnS w base 38 2 Be.vdL v xs) (sv : Value) (hx : a.eval x = sv) (hsl : SlIn w sv 2 Be.vdL ys)
    (hlen : xs.length + ys.length ≤ 1048577) (hbase : base ≤ w.heap.size)
    (h : ∀ v' w', OwnS w' base 38 2 Be.vdL v' (xs ++ ys) → Below base w w' → (∀ k, k < w.heap.size → v.ownBlock ≠ some k → obj w' k = obj w k) → wpList Tryz.prog ops Q rest (a.put o.dst v') w') : wpList Tryz.prog ops Q (o :: rest) a w := by
  obtain ⟨i0, hi, hz0, hz1, hz2⟩ := info_parts info54
  exact wpList_pushAll (bytes := 24) Tryz.underlying28 hi hz0 hz1 hz2 (by simp [Value.cells]) (by decide) Be.vdL_length Be.vdL_one hgd s x ho base v xs ys hs hown sv hx hsl hlen (by decide) hbase h
set_option maxRecDepth 100000 in
set_option maxHeartbeats 1000000 in
theorem clone_vd (w : World) (v : Value) (l : List Be.Vd) (h : SlIn w v 2 Be.vdL l) (hlen : l.length ≤ 1048576) : Calls Tryz.prog 7 #[v] w fun e w' => ∃ v', e = .returned v' ∧ SlIn w' v' 2 Be.vdL l ∧ Below w.heap.size w w' := by
  have hq : ∀ (w : World) (a : Option Addr) (n c n' c' : Nat), (binOp .eql 28 (.slice a n c) (.slice none n' c')).run Tryz.prog w = .ok (.bool a.isNone) w := fun w a n c n' c' => Lib.run_eql_slice_nil w 28 38 a n c n' c' Tryz.underlying28
  have HS := Lib.hid h
  obtain ⟨oa, cap, rfl, g1, g2, g3⟩ := h
  cases oa with
  | none =>
    have hl : l = [] := by
      cases l with
      | nil => rfl
      | cons y ys => obtain ⟨b, off, e, _⟩ := g3 (by simp); cases e
    subst hl
    clear g3
    go_enter Tryz.func7, Tryz.ntmps7
    go_wp2_with fail
    go_ret
    exact ⟨_, rfl, ⟨none, 0, rfl, Nat.le_refl _, by unfold maxLen; omega, fun h0 => by simp at h0⟩, Below.refl _ _⟩
  | some ad =>
    have h0b : (Instr.buildSlice 28 0 #[]).run Tryz.prog w = .ok (.slice (some ⟨w.heap.size, 0, none⟩) 0 0) (w.alloc (.cells #[] 38)) := by kernel_rfl
    have HOW : Hid ((w.alloc (.cells #[] 38)).ownsRow w.heap.size 38 2 (.slice (some ⟨w.heap.size, 0, none⟩) 0 0) 0 []) := Lib.hid ⟨rfl, .inr ⟨w.heap.size, 0, #[], rfl, Nat.le_refl _, obj_alloc_at _ _ _ rfl, Nat.le_refl _, by unfold maxLen; omega, rfl, rfl⟩⟩
    have b1 : Below w.heap.size w (w.alloc (.cells #[] 38)) := (Below.refl _ w).alloc (Nat.le_refl _) _
    have B1 := Lib.hid b1
    by_cases hpos : 0 < l.length
    · obtain ⟨b, off, e, hbb, hrow⟩ := g3 hpos
      cases e
      have HC : Hid (∀ j u, (l.flatMap Be.vdL)[j]? = some u → (w.alloc (.cells #[] 38)).cell? ⟨b, off + j, none⟩ = some u) := Lib.hid (fun j u hj => by
        rw [← Be.row_cells Be.vdL_length (by decide) hrow hj]
        exact World.cell?_of_block (w := w) (a := ⟨b, off + j, none⟩) (obj_alloc_past _ _ _ hbb))
      clear g3 hrow b1
      go_enter Tryz.func7, Tryz.ntmps7
      go_wp2_with (at_builtin; refine pushAllV rfl _ _ rfl w.heap.size (.slice (some ⟨w.heap.size, 0, none⟩) 0 0) 0 [] rfl HOW.out b off cap l rfl HC.out (by omega) (by simp) ?_; intro v' w' q1 q2 q3)
      go_ret
      have ho : OwnS w' w.heap.size 38 2 Be.vdL v' l := ⟨by simpa using q1, ⟨fun e => by have := (q3.1 e).2; omega, fun e => by rw [e] at hpos; simp at hpos⟩⟩
      exact ⟨_, rfl, ho.slIn Be.vdL_length, B1.out.grown q2 (by simp) (fun k e => by simp [Value.ownBlock] at e; omega)⟩
    · have hl : l = [] := List.eq_nil_of_length_eq_zero (by omega)
      subst hl
      obtain ⟨i0, hi, hz0, hz1, hz2⟩ := info_parts info54
      clear g3 b1
      go_enter Tryz.func7, Tryz.ntmps7
      go_wp2_with (at_builtin; refine wpList_append_own (P := Tryz.prog) _ rfl _ _ 28 rfl w.heap.size 38 i0 _ 2 24 Tryz.underlying28 hi hz0 hz1 hz2 (by simp [Value.cells]) (by decide) (.slice (some ⟨w.heap.size, 0, none⟩) 0 0) 0 [] rfl HOW.out ad 0 cap [] rfl rfl (fun j u hj => by simp at hj) (fun u hu => by cases hu) (by unfold maxLen; omega) (by omega) (by simp) ?_; intro v' w' q1 q2 q3)
      go_ret
      refine ⟨_, rfl, ?_, B1.out.grown q2 (by simp) (fun k e => by simp [Value.ownBlock] at e; omega)⟩
      rcases q1.2 with ⟨e, _⟩ | ⟨g, cp, cur, e, _, _, h1, h2, _⟩
      · rw [e]; exact ⟨none, 0, rfl, Nat.le_refl _, by unfold maxLen; omega, fun h0 => by simp at h0⟩
      · rw [e]; exact ⟨_, cp, rfl, Nat.zero_le _, h2, fun h0 => by simp at h0⟩
end Go.Proofs.YtagpclgappcnbaaGreat
