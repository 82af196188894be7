import Derived.Test.YtfejhekoijemdaaTakR
import Derived.Deep.RegionHeld3
namespace Go.Proofs.Ytfejhekoijemdaa
open Go.RowKit

def dropM (S : SetM) (n v : Int) : SetM × Int :=
  match findI n S.l with
  | none => (S, 4)
  | some i => match S.l[i]? with
    | none => (S, 4)
    | some o => if isDone S o = true then (S, 4) else (modS S i (takeO v), if waitsOf o v = 0 then 4 else 0)
def voteM (S : SetM) (n v : Int) (id : ID) : SetM × Int :=
  match findI n S.l with
  | none => (S, 4)
  | some i => match S.l[i]? with
    | none => (S, 4)
    | some o => if isDone S o = true then (S, 4) else if waitsOf o v = 0 then (modS S i (takeO v), 4) else (modS S i (voteO v id), 0)
/-- what an act hands back that makes no block of the set's own -/
def ErrR (w : World) (M V : Nat → Prop) (b : Nat) (lv : Value) (ps : List (Nat × Nat)) (r : SetM × Int) (e : Ending) (w' : World) : Prop :=
  e = .returned (.int .i64 r.2) ∧ ∃ V', SetW w' M V' b lv ps r.1 ∧ (∀ n, V n → V' n) ∧ (∀ n, V' n → V n ∨ w.heap.size ≤ n) ∧ Keeps M w w'
theorem ErrR.of {w w' : World} {M V : Nat → Prop} {b : Nat} {lv : Value} {ps : List (Nat × Nat)} {r : SetM × Int} {S : SetM} {c : Int} (hr : r = (S, c)) (h : SetW w' M V b lv ps S) (hk : Keeps M w w') : ErrR w M V b lv ps r (.returned (.int .i64 c)) w' := by
  subst hr
  exact ⟨rfl, V, h, fun _ h => h, fun _ h => .inl h, hk⟩
theorem ErrR.ofV {w w' : World} {M V V' : Nat → Prop} {b : Nat} {lv : Value} {ps : List (Nat × Nat)} {r : SetM × Int} {S : SetM} {c : Int} (hr : r = (S, c)) (h : SetW w' M V' b lv ps S) (h1 : ∀ n, V n → V' n) (h2 : ∀ n, V' n → V n ∨ w.heap.size ≤ n) (hk : Keeps M w w') : ErrR w M V b lv ps r (.returned (.int .i64 c)) w' := by
  subst hr
  exact ⟨rfl, V', h, h1, h2, hk⟩
set_option maxRecDepth 100000 in
set_option maxHeartbeats 2000000 in
/-- (*Set).Drop -/
theorem drop_any (w : World) (M V : Nat → Prop) (b : Nat) (lv : Value) (ps : List (Nat × Nat)) (S : SetM) (h : SetW w M V b lv ps S) (hok : SetOK S) (n v : Int) :
    Calls Try.prog 13 #[.pointer (some ⟨b, 0, none⟩), .int .i64 n, .int .i64 v] w (ErrR w M V b lv ps (dropM S n v)) := by
  have HN := Lib.hid (none_no w M V b lv ps S h hok.p0)
  have HW := Lib.hid h
  cases hf : findI n S.l with
  | none =>
    have HT := Lib.hid (takes_none w M V b lv ps S h hok.p0 n v hf)
    have HR : Hid (dropM S n v = (S, 4)) := Lib.hid (by unfold dropM; rw [hf])
    clear h hok hf
    go_enter Try.func13, Try.ntmps13
    go_wp2_with fail
    refine HN.out.mono ?_
    rintro e w1 ⟨rfl, rfl⟩
    go_wp2_with fail
    refine HT.out.mono ?_
    rintro e w2 ⟨rfl, b2⟩
    have B2 := Lib.hid b2
    clear b2
    go_wp2
    go_ret
    exact ErrR.of HR.out (HW.out.below B2.out) (Keeps.of_below B2.out)
  | some i =>
    obtain ⟨hi, _⟩ := findI_lt hf
    have hil : i < ps.length := by rw [h.len]; exact hi
    have ho := List.getElem?_eq_getElem hi
    have hpi := List.getElem?_eq_getElem hil
    have hoo := hok.one _ (List.getElem_mem hi)
    generalize S.l[i] = o at *
    generalize ps[i] = p at *
    cases hd : isDone S o with
    | true =>
      have HT := Lib.hid (takes_done w M V b lv ps S h hok.p0 n v i p o hf hpi ho hoo hd)
      have HR : Hid (dropM S n v = (S, 4)) := Lib.hid (by unfold dropM; rw [hf]; simp only [ho, hd, if_true])
      clear h hok hf hi hil ho hpi hoo hd
      go_enter Try.func13, Try.ntmps13
      go_wp2_with fail
      refine HN.out.mono ?_
      rintro e w1 ⟨rfl, rfl⟩
      go_wp2_with fail
      refine HT.out.mono ?_
      rintro e w2 ⟨rfl, b2⟩
      have B2 := Lib.hid b2
      clear b2
      go_wp2
      go_ret
      exact ErrR.of HR.out (HW.out.below B2.out) (Keeps.of_below B2.out)
    | false =>
      have HT := Lib.hid (takes_some w M V b lv ps S h hok.p0 n v i p o hf hpi ho hoo hd)
      by_cases h0 : waitsOf o v = 0
      · have HR : Hid (dropM S n v = (modS S i (takeO v), 4)) := Lib.hid (by unfold dropM; rw [hf]; simp [ho, hd, h0])
        rw [h0] at HT
        clear h hok hf hi hil ho hpi hoo hd h0
        go_enter Try.func13, Try.ntmps13
        go_wp2_with fail
        refine HN.out.mono ?_
        rintro e w1 ⟨rfl, rfl⟩
        go_wp2_with fail
        refine HT.out.mono ?_
        rintro e w2 ⟨rfl, s2, k2⟩
        have S2 := Lib.hid s2
        have K2 := Lib.hid k2
        clear s2 k2
        go_wp2
        go_ret
        exact ErrR.of HR.out S2.out K2.out
      · have HR : Hid (dropM S n v = (modS S i (takeO v), 0)) := Lib.hid (by unfold dropM; rw [hf]; simp [ho, hd, h0])
        generalize waitsOf o v = q at *
        clear h hok hf hi hil ho hpi hoo hd
        go_enter Try.func13, Try.ntmps13
        go_wp2_with fail
        refine HN.out.mono ?_
        rintro e w1 ⟨rfl, rfl⟩
        go_wp2_with fail
        refine HT.out.mono ?_
        rintro e w2 ⟨rfl, s2, k2⟩
        have S2 := Lib.hid s2
        have K2 := Lib.hid k2
        clear s2 k2
        go_wp2
        go_ret
        exact ErrR.of HR.out S2.out K2.out
end Go.Proofs.Ytfejhekoijemdaa
namespace Go.Proofs.Ytfejhekoijemdaa
open Go.RowKit

theorem OwnS.voteAt {w : World} {base : Nat} {v : Value} {l : List Vt} {V : Nat → Prop} (h : OwnS w base 58 33 vtL v l) (hV : ∀ g, v.ownBlock = some g → V g) : VoteAt w V v l :=
  ⟨h.slIn vtL_length, fun b off len cap e _ => hV b (by rw [e]; rfl)⟩
theorem modS_get {S : SetM} {i : Nat} {o : OneM} {f : OneM → OneM} (h : S.l[i]? = some o) : (modS S i f).l[i]? = some (f o) := by
  unfold modS
  simp [h]
theorem modS_modS {S : SetM} {i : Nat} {f g k : OneM → OneM} (h : ∀ o, S.l[i]? = some o → g (f o) = k o) : modS (modS S i f) i g = modS S i k := by
  unfold modS
  simp only [SetM.mk.injEq, true_and]
  apply List.ext_getElem?
  intro j
  simp only [List.getElem?_modify]
  by_cases e : i = j
  · subst e
    cases ho : S.l[i]? with
    | none => simp
    | some o => simp [h o ho]
  · simp [e]
theorem add_ok {o : OneM} (h : OneOK o) (v : Int) (id : ID) : addE o.votes (waitsOf o v) = 0 ∧ addV o.votes id (waitsOf o v) = putV o.votes id (waitsOf o v) := by
  have h1 := h.waits v
  have h2 := h.totV
  have h3 := h.tot
  have h4 := h.hi
  have h5 := h.sum0
  have e : addE o.votes (waitsOf o v) = 0 := by
    unfold addE
    rw [if_pos h.bag, if_neg (by omega), if_neg (by omega)]
  exact ⟨e, by unfold addV; rw [if_pos e]⟩
set_option maxRecDepth 100000 in
set_option maxHeartbeats 2000000 in
/-- (*Set).Vote -/
theorem vote_any (w : World) (M V : Nat → Prop) (b : Nat) (lv : Value) (ps : List (Nat × Nat)) (S : SetM) (h : SetW w M V b lv ps S) (hok : SetOK S) (n v : Int) (id : ID) :
    Calls Try.prog 14 #[.pointer (some ⟨b, 0, none⟩), .int .i64 n, .int .i64 v, .agg (idL id).toArray] w (ErrR w M V b lv ps (voteM S n v id)) := by
  have HB0 := Lib.hid ((Below.refl _ w).alloc (Nat.le_refl _) (.cells (idL id).toArray 37))
  have h0 := h.alloc (.cells (idL id).toArray 37)
  have HN := Lib.hid (none_no _ M V b lv ps S h0 hok.p0)
  have HW := Lib.hid h0
  have oq : obj (w.alloc (.cells (idL id).toArray 37)) w.heap.size = some (.cells (idL id).toArray 37 (0, 0)) := obj_alloc_at _ _ _ rfl
  have hz0 : (w.alloc (.cells (idL id).toArray 37)).heap.size = w.heap.size + 1 := by simp
  cases hf : findI n S.l with
  | none =>
    have HT := Lib.hid (takes_none _ M V b lv ps S h0 hok.p0 n v hf)
    have HR : Hid (voteM S n v id = (S, 4)) := Lib.hid (by unfold voteM; rw [hf])
    clear h h0 hok hf oq
    go_enter Try.func14, Try.ntmps14
    go_wp2_with fail
    refine HN.out.mono ?_
    rintro e w1 ⟨rfl, rfl⟩
    go_wp2_with fail
    refine HT.out.mono ?_
    rintro e w2 ⟨rfl, b2⟩
    have B2 := Lib.hid b2
    clear b2
    go_wp2
    go_ret
    exact ErrR.of HR.out ((HW.out.below B2.out)) ((Keeps.of_below HB0.out).trans (Keeps.of_below B2.out))
  | some i =>
    obtain ⟨hi, _⟩ := findI_lt hf
    have hil : i < ps.length := by rw [h.len]; exact hi
    have ho := List.getElem?_eq_getElem hi
    have hpi := List.getElem?_eq_getElem hil
    have hoo := hok.one _ (List.getElem_mem hi)
    generalize S.l[i] = o at *
    generalize ps[i] = p at *
    cases hd : isDone S o with
    | true =>
      have HT := Lib.hid (takes_done _ M V b lv ps S h0 hok.p0 n v i p o hf hpi ho hoo hd)
      have HR : Hid (voteM S n v id = (S, 4)) := Lib.hid (by unfold voteM; rw [hf]; simp only [ho, hd, if_true])
      clear h h0 hok hf hi hil ho hpi hoo hd oq
      go_enter Try.func14, Try.ntmps14
      go_wp2_with fail
      refine HN.out.mono ?_
      rintro e w1 ⟨rfl, rfl⟩
      go_wp2_with fail
      refine HT.out.mono ?_
      rintro e w2 ⟨rfl, b2⟩
      have B2 := Lib.hid b2
      clear b2
      go_wp2
      go_ret
      exact ErrR.of HR.out ((HW.out.below B2.out)) ((Keeps.of_below HB0.out).trans (Keeps.of_below B2.out))
    | false =>
      have HT := Lib.hid (takes_some _ M V b lv ps S h0 hok.p0 n v i p o hf hpi ho hoo hd)
      by_cases hq : waitsOf o v = 0
      · have HR : Hid (voteM S n v id = (modS S i (takeO v), 4)) := Lib.hid (by unfold voteM; rw [hf]; simp [ho, hd, hq])
        rw [hq] at HT
        clear h h0 hok hf hi hil ho hpi hoo hd hq oq
        go_enter Try.func14, Try.ntmps14
        go_wp2_with fail
        refine HN.out.mono ?_
        rintro e w1 ⟨rfl, rfl⟩
        go_wp2_with fail
        refine HT.out.mono ?_
        rintro e w2 ⟨rfl, s2, k2⟩
        have S2 := Lib.hid s2
        have K2 := Lib.hid k2
        clear s2 k2
        go_wp2
        go_ret
        exact ErrR.of HR.out S2.out ((Keeps.of_below HB0.out).trans K2.out)
      · have HR : Hid (voteM S n v id = (modS S i (voteO v id), 0)) := Lib.hid (by unfold voteM; rw [hf]; simp [ho, hd, hq])
        obtain ⟨a1, a2⟩ := add_ok hoo v id
        have HA := fun W x hx => Lib.hid (add_any W x o.votes id (waitsOf o v) hx (by have := hoo.len; omega))
        rw [a1, a2] at HA
        have HO := Lib.hid ho
        have HP := Lib.hid hpi
        have MQ : Hid (¬ M w.heap.size) := Lib.hid (fun hm => by have := h.mlt _ hm; omega)
        have ML := Lib.hid (h.mlt)
        have VO : Hid (putV o.votes id (waitsOf o v) = (voteO v id o).votes) := Lib.hid rfl
        have HMP := Lib.hid (h.mp p (List.mem_of_getElem? hpi))
        have OQ := Lib.hid oq
        clear h h0 hok hf hi hil ho hpi hd oq a1 a2 hoo
        generalize hqq : waitsOf o v = q at *
        have HQQ := Lib.hid hqq
        clear hqq
        obtain ⟨pp, m⟩ := p
        simp only at HT HMP
        go_enter Try.func14, Try.ntmps14
        go_wp2_with fail
        refine HN.out.mono ?_
        rintro e w1 ⟨rfl, rfl⟩
        go_wp2_with fail
        refine HT.out.mono ?_
        rintro e w2 ⟨rfl, s2, k2⟩
        have hz2 := k2.size
        obtain ⟨v0, hone⟩ := s2.one i _ _ HP.out (modS_get HO.out)
        have c4 : w2.cell? ⟨pp, 4, none⟩ = some v0 := cell_at hone.at_ 4
        have f4 := frozen_at hone.at_ 4
        have hpl := lt_of_obj hone.at_
        have oq2 := (k2.block w.heap.size (by omega) MQ.out).trans OQ.out
        have hql : w.heap.size < w2.heap.size := by omega
        have p2 : subOf (obj w2 w.heap.size) 0 32 = some (idL id).toArray := by rw [oq2, subOf_cells (by simp), subA_all (by simp)]
        have HA2 := fun W (hb : Below w2.heap.size w2 W) => HA W v0 (hone.vt.1.below hb)
        have S2 := Lib.hid s2
        have K2 := Lib.hid k2
        have H1 := Lib.hid hone
        clear s2 k2 HA oq2 hone
        go_wp2_with fail
        have hu37 : Try.prog.underlying 37 = some (.array 32 5) := Try.underlying37
        have hs37 : (Try.prog.info? 37).map (·.size) = some (idL id).length := by rw [idL_length]; kernel_rfl
        have hrg : w2.drew.rangeAt w.heap.size 0 (idL id) := fun j u hj => by
          have := subOf_cell p2 (j := j) (by have := (List.getElem?_eq_some_iff.1 hj).1; simpa using this)
          exact this.trans (by simpa using hj)
        go_region_held3 (fun W => W.cell? ⟨pp, 4, none⟩ = some v0 ∧ W.rangeAt w.heap.size 0 (idL id) ∧ Below w2.heap.size w2 W)
          (first | exact ⟨c4, hrg, (Below.refl _ _).drew⟩ | assumption)
          (first
            | (go_at_call 36; (with_reducible refine (HA2 w2.drew (Below.refl _ _).drew).out.mono ?_); rintro _ w3 ⟨v3, rfl, o3, b3⟩; have B3 : Hid (Below w2.heap.size w2 w3) := Lib.hid ((Below.refl _ w2).drew.trans b3); have s3 : w3.cell? ⟨pp, 4, none⟩ = some v0 ∧ w3.rangeAt w.heap.size 0 (idL id) ∧ Below w2.heap.size w2 w3 := ⟨(World.cell?_of_block (w := w2) (a := ⟨pp, 4, none⟩) (obj_below B3.out hpl)).trans c4, fun j u hj => (World.cell?_of_block (w := w2) (a := ⟨w.heap.size, 0 + j, none⟩) (obj_below B3.out hql)).trans (hrg j u hj), B3.out⟩; have O3 := Lib.hid o3; clear o3 b3))
        have o3p := (obj_below B3.out hpl).trans H1.out.at_
        have hz3 := B3.out.size
        obtain ⟨oa3, cap3, e3, _⟩ := O3.out.slIn vtL_length
        generalize (putV o.votes id q).length = n3 at e3
        subst e3
        have hpl3 : pp < w3.heap.size := by omega
        have g4 : w3.cell? ⟨pp, 4, none⟩ = some v0 := cell_at o3p 4
        have gf := frozen_at o3p 4
        go_wp2_with fail
        go_ret
        have hlt : ∀ g, (Value.slice oa3 n3 cap3).ownBlock = some g → w2.heap.size ≤ g ∧ g < w3.heap.size := fun g hg => O3.out.1.lt g hg
        have k3 : Keeps (fun n => n = pp) w2 (w3.setCell ⟨pp, 4, none⟩ (.slice oa3 n3 cap3)) := (Keeps.of_below (F := fun n => n = pp) B3.out).setCell (a := ⟨pp, 4, none⟩) (.inl rfl) _
        have hkk : ∀ n, n < w2.heap.size → n ≠ pp → obj (w3.setCell ⟨pp, 4, none⟩ (.slice oa3 n3 cap3)) n = obj w2 n := fun n hn hne => k3.block n hn hne
        have hO4 : OwnS (w3.setCell ⟨pp, 4, none⟩ (.slice oa3 n3 cap3)) w2.heap.size 58 33 vtL (.slice oa3 n3 cap3) (putV o.votes id q) := (show OwnS w3 w2.heap.size 58 33 vtL (.slice oa3 n3 cap3) (putV o.votes id q) from O3.out).keeps fun g hg => obj_setCell_ne _ _ _ _ (by have := hlt g hg; simp; omega)
        have hup := S2.out.upd HP.out (modS_get HO.out) (fun o => { o with votes := putV o.votes id q }) (W := w3.setCell ⟨pp, 4, none⟩ (.slice oa3 n3 cap3)) (V' := fun n => V n ∨ (Value.slice oa3 n3 cap3).ownBlock = some n) (v' := .slice oa3 n3 cap3)
          ⟨by rw [obj_setCell_at _ o3p]; rfl, by
            obtain ⟨es, clk, q1, q2⟩ := H1.out.map
            exact ⟨es, clk, (hkk m (lt_of_obj q1) (fun e => H1.out.ne e.symm)).trans q1, q2⟩, hO4.voteAt fun g hg => .inr hg⟩ k3.size (fun n hn h1 _ => hkk n hn h1) (fun n hn => .inl hn)
          (fun n hn => hn.elim .inl fun hg => .inr ⟨(hlt n hg).1, by have := (hlt n hg).2; simpa using this⟩)
        rw [modS_modS (k := voteO v id) (fun o' ho' => by rw [HO.out] at ho'; cases ho'; unfold voteO takeO; rw [HQQ.out])] at hup
        exact ErrR.ofV HR.out hup (fun n hn => .inl hn) (fun n hn => hn.elim .inl fun hg => .inr (by have := (hlt n hg).1; omega))
          (((Keeps.of_below HB0.out).trans K2.out).trans (k3.mono fun n hn => by rw [hn]; exact HMP.out.1))
end Go.Proofs.Ytfejhekoijemdaa
