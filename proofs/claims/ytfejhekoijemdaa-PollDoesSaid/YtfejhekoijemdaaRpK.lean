import Derived.Test.YtfejhekoijemdaaRpJ
import Derived.Test.YtfejhekoijemdaaDoneS
namespace Go.Proofs.Ytfejhekoijemdaa
open Go.RowKit

/-! ### the reference's Done -/
theorem region_merge5 {P : Program} {c : Code} {Q : Exit → Act → World → Prop} {a : Act} {w : World} {α β γ δ ε : Type} (Good : α → β → γ → δ → ε → World → Prop)
    (h : ∃ fr : α → β → γ → δ → ε → Act, c.wp P (AtEnd fun a' w' => ∃ x y z t u, a' = fr x y z t u ∧ Good x y z t u w') a w ∧ ∀ x y z t u w', Good x y z t u w' → Q .normal (fr x y z t u) w') : c.wp P Q a w := by
  obtain ⟨fr, h1, h2⟩ := h
  refine Code.wp_mono ?_ h1
  intro e a' w' h
  cases e <;> first | exact h.elim | (obtain ⟨x, y, z, t, u, rfl, hg⟩ := h; exact h2 x y z t u w' hg)
theorem stepVt {ops : Array Oper} {o : Oper} {a : Act} {w : World} {Q : Exit → Act → World → Prop} {K : Act → World → Prop} {Z : Prop} (hgd : o.guard = none) (s x : Operand) (ho : o.op = .call { callee := .builtin .append, args := #[s, x], argTypes := #[41, 41] })
    (base : Nat) (v : Value) (xs ys : List Vt) (hs : a.eval s = v) (hown : OwnS w base 58 33 vtL v xs) (sv : Value) (hx : a.eval x = sv) (hsl : SlIn w sv 33 vtL ys)
    (hlen : xs.length + ys.length ≤ 1048577) (hbase : base ≤ w.heap.size)
    (h : ∀ v' w', OwnS w' base 58 33 vtL v' (xs ++ ys) → Below base w w' → (∀ k, k < w.heap.size → v.ownBlock ≠ some k → obj w' k = obj w k) → K (a.put o.dst v') w') : if Region.wanted o (yielded ops a.tmps) = true then Oper.wp Try.prog o a w K Q else Z := by
  obtain ⟨i0, hi, hz0, hz1, hz2⟩ := info_parts info58
  exact step_pushAll Try.underlying41 hi hz0 hz1 hz2 (by simp [Value.cells]) (by decide) vtL_length vtL_one hgd s x ho base v xs ys hs hown sv hx hsl hlen (by decide) hbase h
theorem RelS.drop {S : SetM} {R : List (List Int)} (h : RelS S R) (k : Nat) : RelS (dropS S k) (R.drop k) := by
  refine ⟨by unfold dropS; simp [h.len], fun j o s h1 h2 => ?_⟩
  unfold dropS at h1
  simp only [List.getElem?_drop] at h1 h2
  exact h.one _ o s h1 h2
theorem RSetW.pop {w W : World} {G : Nat → Prop} {rb bb off n lc : Nat} {oa2 : Option Addr} {q : PB} {pr : List PB} {S S' : SetM} {R R' : List (List Int)} {o : OneM} {sl : List Int} (h : RSetW w G rb (.slice (some ⟨bb, off, none⟩) n lc) (q :: pr) S R) (hl : S.l = o :: S'.l) (hr : R = sl :: R')
    (ha : pr ≠ [] → oa2 = some ⟨bb, off + 1, none⟩) (hb : obj W rb = some (.cells #[.int .i64 S'.pref, .int .i64 S'.conf, .slice oa2 pr.length (lc - 1), .int .i64 S'.last] 101 (0, 0))) (hz : w.heap.size ≤ W.heap.size)
    (hk : ∀ k, k < w.heap.size → G k → k ≠ rb → obj W k = obj w k) : RSetW W G rb (.slice oa2 pr.length (lc - 1)) pr S' R' := by
  have h1 := h.len
  have h2 := h.lenR
  rw [hl] at h1 h2
  rw [hr] at h2
  obtain ⟨g1, cur, g2⟩ := h.rowT bb off _ _ rfl (by simp)
  have hne : bb ≠ rb := fun e => by rw [e, h.box] at g2; simp at g2
  have hkb := hk bb (lt_of_obj g2) g1 hne
  have hd : n = (q :: pr).length ∧ (q :: pr).length ≤ lc ∧ lc ≤ maxLen := by
    obtain ⟨oa, cap, e, e2, e3, _⟩ := id h.row
    simp only [Value.slice.injEq] at e
    obtain ⟨_, en, rfl⟩ := e
    exact ⟨en, e2, e3⟩
  obtain ⟨rfl, hd2, hd3⟩ := hd
  simp only [List.length_cons] at hd2
  refine ⟨hb, ?_, fun b off n cap e h0 => ?_, by simpa using h1, by simpa using h2, fun i q' o' sl' e1 e2 e3 => ?_, (List.nodup_cons.1 h.nd1).2, (List.nodup_cons.1 h.nd2).2, h.gb⟩
  · by_cases hp : pr = []
    · subst hp
      exact ⟨oa2, lc - 1, rfl, by simp, by omega, fun h => by simp at h⟩
    · have h9 := SlIn.drop h.row (n := 1) (by simp)
      rw [ha hp]
      simp at h9
      refine h9.stay hz fun b off n cap e h0 hb => ?_
      cases e
      exact hkb
  · rw [ha (fun e => by rw [e] at h0; simp at h0)] at e
    cases e
    exact ⟨g1, cur, hkb.trans g2⟩
  · have e4 := h.one (i + 1) q' o' sl' (by simpa using e1) (by rw [hl]; simpa using e2) (by rw [hr]; simpa using e3)
    exact (e4.off h.box).of_G (fun k hk1 hk2 => hk k hk2 hk1.1 hk1.2) fun _ hn _ => hn.1
def RlenAt (w : World) (b : Nat) : Nat := match w.cell? ⟨b, 2, none⟩ with | some (.slice _ n _) => n | _ => 0
theorem RSetW.lenAt {w : World} {G : Nat → Prop} {rb : Nat} {lv : Value} {ps : List PB} {S : SetM} {R : List (List Int)} (h : RSetW w G rb lv ps S R) : RlenAt w rb = S.l.length := by
  have c3 : w.cell? ⟨rb, 2, none⟩ = some lv := cell_at h.box 2
  obtain ⟨la, lc, rfl, _⟩ := h.row
  unfold RlenAt
  rw [c3]
  exact h.len
set_option maxRecDepth 100000 in
set_option maxHeartbeats 4000000 in
theorem rdoneS_any (w : World) (G : Nat → Prop) (rb : Nat) (lv : Value) (ps : List PB) (S : SetM) (R : List (List Int)) (hS : RSetW w G rb lv ps S R) (hok : SetOK S) (hrel : RelS S R) (hlen : S.l.length ≤ 100000) :
    Calls Try.prog 29 #[.pointer (some ⟨rb, 0, none⟩)] w fun e w' => ∃ v es, e = .returned v ∧ OwnS w' w.heap.size 43 3 endL v es ∧ EndsAt w' (fun n => w.heap.size ≤ n) es (S.l.take (doneN S)) ∧ RAct w G rb (dropS S (doneN S)) (R.drop (doneN S)) w' := by
  have HH := Lib.hid hS
  have HO := Lib.hid hok
  have HR0 := Lib.hid hrel
  have hdl := doneN_le S
  have hgl := Lib.hid (fun n (hn : n < w.heap.size) => hn)
  clear hS hok hrel
  go_enter Try.func29, Try.ntmps29
  go_wp2_with fail
  go_loopw [3, 4] (fun v3 v4 wr => ∃ (k : Nat) (lvk : Value) (pk : List PB) (es : List EndM), k ≤ doneN S ∧ Hid (RSetW wr (fun n => G n ∧ n < w.heap.size) rb lvk pk (dropS S k) (R.drop k)) ∧ Hid (OwnS wr w.heap.size 43 3 endL v3 es) ∧ Hid (EndsAt wr (fun n => w.heap.size ≤ n ∧ ∃ cur, obj wr n = some (.cells cur 58 (0, 0))) es (S.l.take k)) ∧ Hid (Keeps (fun n => n = rb) w wr)) (fun _ _ wr => RlenAt wr rb)
  case atStart => exact ⟨0, lv, ps, [], Nat.zero_le _, Lib.hid (by unfold dropS; exact HH.out.of_G (fun _ _ _ => rfl) (Nat.le_refl _) fun n hn hl => ⟨hn, hl⟩), Lib.hid (OwnS.nil _ _ _ _ _), Lib.hid ⟨rfl, fun i e o h => by simp at h⟩, Lib.hid (Keeps.refl _ _)⟩
  case round =>
    obtain ⟨k, lvk, pk, es, hk, HS, HE, HN, HK⟩ := hrel
    have c2 : wr.cell? ⟨rb, 2, none⟩ = some lvk := cell_at HS.out.box 2
    have f2 := frozen_at HS.out.box 2
    have hbl := HS.out.lt
    have hzk := HK.out.size
    obtain ⟨oa3, cap3, e3⟩ := HE.out.slice
    subst e3
    have FIN0 : Hid (∀ W : World, W = wr → k = doneN S → ∃ es', OwnS W w.heap.size 43 3 endL (.slice oa3 es.length cap3) es' ∧ EndsAt W (fun n => w.heap.size ≤ n) es' (S.l.take (doneN S)) ∧ RAct w G rb (dropS S (doneN S)) (R.drop (doneN S)) W) := Lib.hid (fun W e1 e2 => by
      subst e1
      rw [← e2]
      exact ⟨es, HE.out, HN.out.frame (Nat.le_refl _) (fun _ _ _ => rfl) (fun _ h => h.1), ⟨lvk, pk, HS.out.of_G (fun _ _ _ => rfl) (Nat.le_refl _) fun n hn _ => .inl hn.1⟩, HK.out.mono fun n hn => by rw [hn]; exact HH.out.gb⟩)
    cases hd : S.l.drop k with
    | nil =>
      have hkd : k = doneN S := by
        have := congrArg List.length hd
        simp at this; omega
      have hpk : pk.length = 0 := by rw [HS.out.len]; unfold dropS; simp [hd]
      obtain ⟨la, lc, rfl, _⟩ := HS.out.row
      rw [hpk] at c2
      have FIN := Lib.hid (FIN0.out _ rfl hkd)
      clear FIN0 hpk hd hkd hdl hk f2
      go_wp2_with fail
      go_ret
      obtain ⟨es', f1, f2, f3⟩ := FIN.out
      exact ⟨_, es', rfl, f1, f2, f3⟩
    | cons o r =>
      have hS' : (dropS S k).l = o :: r := hd
      have hoo : OneOK o := HO.out.one o (List.mem_of_mem_drop (i := k) (by rw [hd]; simp))
      have hpl := HS.out.len
      rw [hS'] at hpl
      obtain ⟨q, pr, rfl⟩ : ∃ q pr, pk = q :: pr := by
        cases pk with
        | nil => simp at hpl
        | cons q pr => exact ⟨q, pr, rfl⟩
      have hrl := HS.out.lenR
      rw [hS'] at hrl
      obtain ⟨sl, rr, hrr⟩ : ∃ sl rr, R.drop k = sl :: rr := by
        cases h9 : R.drop k with
        | nil => rw [h9] at hrl; simp at hrl
        | cons a b => exact ⟨a, b, rfl⟩
      have hpw := HS.out.one 0 q o sl rfl (by rw [hS']; rfl) (by rw [hrr]; rfl)
      have hro := (HR0.out.drop k).one 0 o sl (by rw [hS']; rfl) (by rw [hrr]; rfl)
      have HD := Lib.hid (rdone_any wr (fun n => G n ∧ n < w.heap.size) rb lvk (q :: pr) (dropS S k) (R.drop k) q o sl HS.out hpw hro hoo)
      have hde : isDone (dropS S k) o = isDone S o := rfl
      rw [hde] at HD
      obtain ⟨d1, d2⟩ := doneN_at hk hd
      obtain ⟨la, lc, e0, g1, g2, g3⟩ := id HS.out.row
      obtain ⟨bb, off, e, hbb, hrow⟩ := g3 (by simp)
      subst e
      subst e0
      have c1 : wr.cell? ⟨bb, off, none⟩ = some (.pointer (some ⟨q.p, 0, none⟩)) := by
        have := subOf_cell (hrow 0 (by simp)) (j := 0) (by decide)
        simpa [qL] using this
      unfold maxLen at g2
      simp only [List.length_cons] at c2 g1
      have HPW := Lib.hid hpw
      have hprl : pr.length ≤ 1048576 := by simp at hpl; have := congrArg List.length hd; simp at this; omega
      have HSL : Hid (o.slots = sl.length) := Lib.hid hro.len
      clear hrow g3 hde hro hpw
      cases hdd : isDone S o with
      | false =>
        have FIN := Lib.hid (FIN0.out _ rfl (d2 hdd))
        rw [hdd] at HD
        clear d1 d2 hdd FIN0 hk hd hS' hoo hpl hdl hlen f2 hrl hrr
        go_wp2_with fail
        refine HD.out.mono ?_
        rintro e w1 ⟨rfl, rfl⟩
        go_wp2_with fail
        go_ret
        obtain ⟨es', f1, f2, f3⟩ := FIN.out
        exact ⟨_, es', rfl, f1, f2, f3⟩
      | true =>
        have hkd := d1 hdd
        rw [hdd] at HD
        clear d1 d2 hdd FIN0
        go_wp2_with fail
        refine HD.out.mono ?_
        rintro e w1 ⟨rfl, rfl⟩
        obtain ⟨q0, q1, -, q3⟩ := HPW.out.cells
        have lq := lt_of_obj HPW.out.box
        obtain ⟨va, vc, ev⟩ := HPW.out.vt.slice
        obtain ⟨sa, sc, esv⟩ := HPW.out.so.slice
        rw [ev] at q3
        rw [esv] at q1
        have HVT : Hid (SlIn w1 (.slice va o.votes.length vc) 33 vtL o.votes) := Lib.hid (by rw [← ev]; exact HPW.out.vt.slIn vtL_length)
        have hvl := hoo.len
        have hel : es.length ≤ 1048576 := by have := HN.out.1; simp at this; omega
        have EL : Hid (∀ e : EndM, (es ++ [e]).length = es.length + 1) := Lib.hid (fun e => by simp)
        clear ev esv
        go_wp2_with fail
        refine region_merge5 (fun (va' : Option Addr) (vc' : Nat) (_ : Nat) (so' : Option Addr) (sc' : Nat) W => OwnS W w.heap.size 43 3 endL (.slice so' (es.length + 1) sc') (es ++ [⟨o.id, va', o.votes.length, vc', sl.length⟩]) ∧ OwnS W w1.heap.size 58 33 vtL (.slice va' o.votes.length vc') o.votes ∧ Below w.heap.size w1 W ∧ ∀ j, j < w1.heap.size → (Value.slice oa3 es.length cap3).ownBlock ≠ some j → obj W j = obj w1 j) ?_
        apply Exists.intro
        apply And.intro
        case left =>
          go_region_law (first
            | (refine stepVt rfl (.const (.slice none 0 0)) (.tmp 35) rfl w1.heap.size (.slice none 0 0) [] o.votes (by simp [Act.eval, Act.put]) (OwnS.nil _ _ _ _ _) _ (by simp [Act.eval, Act.put]) (HVT.out.below (Below.refl _ w1).drew) (by simp; omega) (by simp) ?_; intro v4 W4 r1 r2 r3; rw [List.nil_append] at r1; have R1 := Lib.hid r1; obtain ⟨va4, vc4, e4⟩ := r1.slice; subst e4; have B4 : Hid (Below w1.heap.size w1 W4) := Lib.hid ((Below.refl _ w1).drew.trans r2); have z4 := B4.out.size; have d0 := (World.cell?_of_block (w := w1) (a := ⟨q.p, 0, none⟩) (obj_below B4.out lq)).trans q0; have d1 := (World.cell?_of_block (w := w1) (a := ⟨q.p, 1, none⟩) (obj_below B4.out lq)).trans q1; clear r1 r2 r3)
            | (refine step39 rfl (.tmp 27) (.tmp 43) rfl w.heap.size (.slice oa3 es.length cap3) es ⟨o.id, va4, o.votes.length, vc4, sl.length⟩ (by simp [Act.eval, Act.put]) ((HE.out.below B4.out).alloc _) W4.heap.size (by simp [Act.eval, Act.put]) (obj_alloc_at _ _ _ rfl) hel (by simp; omega) ?_; intro v5 W5 t1 t2 t3; obtain ⟨so5, sc5, e5⟩ := t1.slice; rw [EL.out] at e5; subst e5; have T1 := Lib.hid t1; have T2 := Lib.hid t2; have T3 := Lib.hid t3; clear t1 t2 t3))
          all_goals (
            have ov : OwnS W5 w1.heap.size 58 33 vtL (.slice va4 o.votes.length vc4) o.votes := R1.out.keeps fun g eg => (T3.out g (by have := (R1.out.1.lt g eg).2; simp; omega) (fun e => by have h1 := (HE.out.1.lt g e).2; have h2 := (R1.out.1.lt g eg).1; omega)).trans (obj_alloc_past _ _ _ (R1.out.1.lt g eg).2)
            have bb : Below w.heap.size w1 W5 := ((B4.out.mono hzk).alloc (by omega) _).trans T2.out
            have kk : ∀ j, j < w1.heap.size → (Value.slice oa3 es.length cap3).ownBlock ≠ some j → obj W5 j = obj w1 j := fun j hj hne => ((T3.out j (by simp; omega) hne).trans (obj_alloc_past _ _ _ (by omega))).trans (obj_below B4.out hj)
            have T1' := Lib.hid T1.out
            clear T2 T3 B4 R1 T1 d0 d1
            generalize W4.heap.size = g at *
            exact ⟨va4, vc4, g, so5, sc5, rfl, T1'.out, ov, bb, kk⟩)
        case right =>
        rintro va4 vc4 g so5 sc5 W5 ⟨t1, t2, t3, t4⟩
        have T1 := Lib.hid t1
        have T2 := Lib.hid t2
        have T3 := Lib.hid t3
        have T4 := Lib.hid t4
        have hu : ∀ n, (Value.slice oa3 es.length cap3).ownBlock = some n → w.heap.size ≤ n ∧ n < w1.heap.size := fun n hn => HE.out.1.lt n hn
        have nrb : (Value.slice oa3 es.length cap3).ownBlock ≠ some rb := HE.out.ne HS.out.box (fun cur hc => by cases hc)
        have ob5 := (t4 rb hbl nrb).trans HS.out.box
        have c25 := cell_at ob5 2
        have f25 := frozen_at ob5
        have hl5 := lt_of_obj ob5
        have OB5 := Lib.hid ob5
        have g1' : 1 ≤ pr.length + 1 := by omega
        have g1'' : pr.length + 1 ≤ lc := g1
        clear t1 t2 t3 t4 ob5 HVT q0 q1 q3 c1 c2 f2 HD hbb
        generalize hpn : pr.length = pn at *
        clear hpl hrl
        go_wp2_with fail
        generalize hoa2 : (if lc = 1 then some (⟨bb, off, none⟩ : Addr) else some ⟨bb, off + 1, none⟩) = oa2 at *
        have hdk : (dropS S k).l = o :: (dropS S (k + 1)).l := by
          unfold dropS; simp only; rw [hd, ← List.drop_drop, hd]; rfl
        have hdr : R.drop k = sl :: R.drop (k + 1) := by rw [hrr, ← List.drop_drop, hrr]; rfl
        have hoth : ∀ n, n < w1.heap.size → n ≠ rb → n < w.heap.size → obj (W5.setCell ⟨rb, 2, none⟩ (.slice oa2 pn (lc - 1))) n = obj w1 n := fun n hn h1 h2 =>
          (obj_setCell_ne _ _ _ _ h1).trans (T4.out n hn (fun e => by have := (hu n e).1; omega))
        have hWb : obj (W5.setCell ⟨rb, 2, none⟩ (.slice oa2 pn (lc - 1))) rb = some (.cells #[.int .i64 S.pref, .int .i64 S.conf, .slice oa2 pn (lc - 1), .int .i64 S.last] 101 (0, 0)) := obj_setCell_at _ (i := 2) OB5.out
        have hpop := HS.out.pop (W := W5.setCell ⟨rb, 2, none⟩ (.slice oa2 pn (lc - 1))) (oa2 := oa2) (S' := dropS S (k + 1)) (R' := R.drop (k + 1)) hdk hdr (fun hne => by
          rw [← hoa2, if_neg]
          intro e
          have : pr.length = 0 := by omega
          exact hne (List.length_eq_zero_iff.1 this)) (by rw [hpn]; exact hWb) (by have := T3.out.size; simp; omega) (fun n hn hg hne => hoth n hn hne hg.2)
        rw [hpn] at hpop
        have sz5 : (W5.setCell ⟨rb, 2, none⟩ (.slice oa2 pn (lc - 1))).heap.size = W5.heap.size := by simp
        have hlb : rb < w.heap.size := HH.out.lt
        have htk : S.l.take (k + 1) = S.l.take k ++ [o] := by
          have h1 : S.l[k]? = some o := by
            have := congrArg (fun l => l[0]?) hd
            simpa using this
          rw [List.take_add_one, h1]; rfl
        have keepN : ∀ n, w.heap.size ≤ n → obj (W5.setCell ⟨rb, 2, none⟩ (.slice oa2 pn (lc - 1))) n = obj W5 n := fun n hn => obj_setCell_ne _ ⟨rb, 2, none⟩ _ _ (fun e => by have e2 : n = rb := e; omega)
        have hRW : OwnS (W5.setCell ⟨rb, 2, none⟩ (.slice oa2 pn (lc - 1))) w.heap.size 43 3 endL (.slice so5 (es.length + 1) sc5) (es ++ [⟨o.id, va4, o.votes.length, vc4, sl.length⟩]) := T1.out.keeps fun g hg => keepN g (T1.out.1.lt g hg).1
        have hEn : EndsAt W5 (fun n => w.heap.size ≤ n ∧ ∃ cur, obj W5 n = some (.cells cur 58 (0, 0))) (es ++ [⟨o.id, va4, o.votes.length, vc4, sl.length⟩]) (S.l.take (k + 1)) := by
          rw [htk]
          have h1 : EndsAt W5 (fun n => w.heap.size ≤ n ∧ ∃ cur, obj W5 n = some (.cells cur 58 (0, 0))) es (S.l.take k) := HN.out.frame T3.out.size (fun n hn hv => T4.out n hn (fun e => by
            obtain ⟨cur, hc⟩ := hv.2
            exact HE.out.ne hc (fun cur hc => by cases hc) e)) (fun n hv => by
            obtain ⟨cur, hc⟩ := hv.2
            exact ⟨hv.1, cur, (T4.out n (lt_of_obj hc) (fun e => HE.out.ne hc (fun cur hc => by cases hc) e)).trans hc⟩)
          exact h1.snoc (e := ⟨o.id, va4, o.votes.length, vc4, sl.length⟩) ⟨rfl, HSL.out.symm, T2.out.voteAt fun g hg => ⟨Nat.le_trans hzk (T2.out.1.lt g hg).1, T2.out.blk hg⟩⟩
        have hkeep : Keeps (fun n => n = rb) w (W5.setCell ⟨rb, 2, none⟩ (.slice oa2 pn (lc - 1))) := by
          have k1 := HK.out
          have b5 := T3.out
          exact ⟨b5.os.trans k1.os, b5.tape.trans k1.tape, b5.output.trans k1.output, by rw [sz5]; exact Nat.le_trans k1.size b5.size, fun n hn hf => (hoth n (Nat.lt_of_lt_of_le hn k1.size) hf hn).trans (k1.block n hn hf)⟩
        have hla : RlenAt (W5.setCell ⟨rb, 2, none⟩ (.slice oa2 pn (lc - 1))) rb < RlenAt w1 rb := by
          rw [hpop.lenAt, HS.out.lenAt, hdk]; simp
        exact ⟨⟨k + 1, _, pr, _, hkd, Lib.hid hpop, Lib.hid hRW, Lib.hid (hEn.frame (by rw [sz5]; exact Nat.le_refl _) (fun n _ hn => keepN n hn.1) fun n h => ⟨h.1, by rw [keepN n h.1]; exact h.2⟩), Lib.hid hkeep⟩, hla⟩
end Go.Proofs.Ytfejhekoijemdaa
