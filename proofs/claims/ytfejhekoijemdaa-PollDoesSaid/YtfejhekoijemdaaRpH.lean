import Derived.Test.YtfejhekoijemdaaRpF
import Derived.Test.YtfejhekoijemdaaRpDG
import Derived.Test.YtfejhekoijemdaaVoteS
import Derived.Deep.RegionHeld3
namespace Go.Proofs.Ytfejhekoijemdaa
open Go.RowKit

/-! ### one poll of the document's set is another -/
theorem nodup_idx {α β : Type} {f : α → β} {l : List α} (h : (l.map f).Nodup) {i j : Nat} {x y : α} (h1 : l[i]? = some x) (h2 : l[j]? = some y) (e : f x = f y) : i = j := by
  have g1 : (l.map f)[i]? = some (f x) := by rw [List.getElem?_map, h1]; rfl
  have g2 : (l.map f)[j]? = some (f x) := by rw [List.getElem?_map, h2, e]; rfl
  obtain ⟨l1, q1⟩ := List.getElem?_eq_some_iff.1 g1
  obtain ⟨l2, q2⟩ := List.getElem?_eq_some_iff.1 g2
  rcases Nat.lt_trichotomy i j with hlt | rfl | hlt
  · exact absurd (q1.trans q2.symm) (List.pairwise_iff_getElem.1 h i j l1 l2 hlt)
  · rfl
  · exact absurd (q2.trans q1.symm) (List.pairwise_iff_getElem.1 h j i l2 l1 hlt)
theorem map_set_same {α β : Type} {f : α → β} {l : List α} {i : Nat} {x y : α} (h : l[i]? = some x) (e : f y = f x) : (l.set i y).map f = l.map f := by
  apply List.ext_getElem?
  intro j
  rw [List.getElem?_map, List.getElem?_map, List.getElem?_set]
  by_cases hj : i = j
  · subst hj
    rw [h]
    obtain ⟨hl, -⟩ := List.getElem?_eq_some_iff.1 h
    simp [hl, e]
  · rw [if_neg hj]
theorem RPollW.keep {w w' : World} {G G' : Nat → Prop} {q q2 : PB} {o o2 : OneM} {sl sl2 : List Int} (h : RPollW w G q o sl) (h2 : RPollW w G q2 o2 sl2) (hp : q2.p ≠ q.p) (hf : q2.fb ≠ q.fb) (hk : Keeps (fun n => n = q.fb ∨ n = q.p) w w') (hG : ∀ n, G n → G' n) : RPollW w' G' q2 o2 sl2 := by
  obtain ⟨c1, f1, -⟩ := h.fl
  obtain ⟨c2, f2, f3⟩ := h2.fl
  have q1 : ∀ n, n < w.heap.size → n ≠ q.fb → n ≠ q.p → obj w' n = obj w n := fun n hn a b => hk.block n hn (fun hh => hh.elim a b)
  have a1 : q2.p ≠ q.fb := fun e => by have := h2.box; rw [e, f1] at this; simp at this
  have a2 : q2.fb ≠ q.p := fun e => by have := h.box; rw [← e, f2] at this; simp at this
  exact ⟨(q1 _ (lt_of_obj h2.box) a1 hp).trans h2.box, h2.so.keeps fun g eg => q1 g (h2.so.1.lt g eg).2 (fun e => h2.so.ne f1 (fun cur hc => by cases hc) (by rw [eg, e])) (fun e => h2.so.ne h.box (fun cur hc => by cases hc) (by rw [eg, e])),
    ⟨c2, (q1 _ (lt_of_obj f2) hf a2).trans f2, f3⟩, h2.fc, h2.vt.keeps fun g eg => q1 g (h2.vt.1.lt g eg).2 (fun e => h2.vt.ne f1 (fun cur hc => by cases hc) (by rw [eg, e])) (fun e => h2.vt.ne h.box (fun cur hc => by cases hc) (by rw [eg, e])),
    hG _ h2.gp, hG _ h2.gf, fun n e => hG n (h2.gs n e), fun n e => hG n (h2.gv n e)⟩
theorem RSetW.setPoll {w w' : World} {G G' : Nat → Prop} {rb : Nat} {lv : Value} {ps : List PB} {S : SetM} {R : List (List Int)} (h : RSetW w G rb lv ps S R) {i : Nat} {q q' : PB} {o : OneM} {sl : List Int} (hf : FoundQ w G ps S R i q o sl) (e1 : q'.p = q.p) (e2 : q'.fb = q.fb) (f : OneM → OneM) (hp : RPollW w' G' q' (f o) sl) (hk : Keeps (fun n => n = q.fb ∨ n = q.p) w w') (hG : ∀ n, G n → G' n) :
    RSetW w' G' rb lv (ps.set i q') (modS S i f) R := by
  obtain ⟨c1, f1, -⟩ := hf.pw.fl
  have q1 : ∀ n, n < w.heap.size → n ≠ q.fb → n ≠ q.p → obj w' n = obj w n := fun n hn a b => hk.block n hn (fun hh => hh.elim a b)
  have hqp := hf.pw.box
  obtain ⟨hil, hqi⟩ := List.getElem?_eq_some_iff.1 hf.hq
  refine ⟨(q1 _ h.lt (fun e => by have := h.box; rw [e, f1] at this; simp at this) (fun e => by have := h.box; rw [e, hqp] at this; simp at this)).trans h.box, ?_, fun b off n cap e h0 => ?_, by unfold modS; simp [h.len], by unfold modS; simp [h.lenR], fun j q2 o2 s2 g1 g2 g3 => ?_, ?_, ?_, hG _ h.gb⟩
  · obtain ⟨oa, cap, e, a1, a2, a3⟩ := h.row
    refine ⟨oa, cap, by rw [e]; simp, by simpa using a1, a2, fun h0 => ?_⟩
    have h0' : 0 < ps.length := by simpa using h0
    obtain ⟨b, off, eb, hb, hr⟩ := a3 h0'
    subst eb
    obtain ⟨-, cur, oc⟩ := h.rowT b off _ _ e h0'
    refine ⟨b, off, rfl, Nat.lt_of_lt_of_le hb hk.size, fun j hj => ?_⟩
    have hj' : j < ps.length := by simpa using hj
    rw [q1 b hb (fun e => by rw [e, f1] at oc; simp at oc) (fun e => by rw [e, hqp] at oc; simp at oc), hr j hj']
    congr 2
    rw [List.getElem_set]
    split
    · rename_i e; subst e
      rw [hqi]
      unfold qL
      rw [e1]
    · rfl
  · obtain ⟨g1, cur, g2⟩ := h.rowT b off n cap e (by simpa using h0)
    exact ⟨hG _ g1, cur, (q1 b (lt_of_obj g2) (fun e => by rw [e, f1] at g2; simp at g2) (fun e => by rw [e, hqp] at g2; simp at g2)).trans g2⟩
  · unfold modS at g2
    simp only [List.getElem?_modify] at g2
    rw [List.getElem?_set] at g1
    by_cases hj : i = j
    · subst hj
      rw [if_pos rfl, if_pos hil] at g1
      cases g1
      rw [hf.ho] at g2
      simp at g2
      subst g2
      rw [hf.hs] at g3
      cases g3
      exact hp
    · rw [if_neg hj] at g1
      have g2' : S.l[j]? = some o2 := by
        cases hg : S.l[j]? with
        | none => rw [hg] at g2; simp at g2
        | some y => rw [hg] at g2; simp [hj] at g2; rw [g2]
      have h2 := h.one j q2 o2 s2 g1 g2' g3
      exact hf.pw.keep h2 (fun e => hj (nodup_idx h.nd1 hf.hq g1 e.symm)) (fun e => hj (nodup_idx h.nd2 hf.hq g1 e.symm)) hk hG
  · rw [map_set_same hf.hq e1]; exact h.nd1
  · rw [map_set_same hf.hq e2]; exact h.nd2
/-- nothing is taken where nothing is waited for -/
theorem take_none {o : OneM} (ok : OneOK o) {v : Int} (h : waitsOf o v = 0) : takeO v o = o := by
  have hg : aGet v o.W = none := by
    cases hg : aGet v o.W with
    | none => rfl
    | some u =>
      have := ok.pos _ (get_mem hg)
      unfold waitsOf at h
      rw [hg] at h
      simp at h this
      omega
  have hd : ∀ {L : List (Int × Int)}, aGet v L = none → aDel v L = L := by
    intro L
    induction L with
    | nil => intro _; rfl
    | cons x r ih =>
      intro h
      obtain ⟨k, u⟩ := x
      unfold aGet at h
      unfold aDel
      split at h
      · cases h
      · rename_i e
        rw [if_neg e, ih h]
  unfold takeO
  rw [hd hg, h]
  cases o
  simp
theorem mod_same {S : SetM} {i : Nat} {o : OneM} {f : OneM → OneM} (ho : S.l[i]? = some o) (e : f o = o) : modS S i f = S := by
  unfold modS
  have : S.l.modify i f = S.l := by
    apply List.ext_getElem?
    intro j
    rw [List.getElem?_modify]
    by_cases hj : i = j
    · subst hj; rw [ho]; simp [e]
    · cases S.l[j]? <;> simp [hj]
  rw [this]
theorem dropM_yes {S : SetM} {n v : Int} {i : Nat} {o : OneM} (hf : findI n S.l = some i) (ho : S.l[i]? = some o) (hd : isDone S o = false) (hw : decide (0 < waitsOf o v) = true) : dropM S n v = (modS S i (takeO v), 0) := by
  unfold dropM
  rw [hf]
  simp only [ho, hd]
  have : waitsOf o v ≠ 0 := by simp at hw; omega
  simp [this]
theorem waitsM_no {S : SetM} (hok : SetOK S) {n v : Int} (h : waitsM S n v = false) : dropM S n v = (S, 4) ∧ ∀ id, voteM S n v id = (S, 4) := by
  unfold waitsM at h
  unfold dropM voteM
  cases hf : findI n S.l with
  | none => exact ⟨rfl, fun _ => rfl⟩
  | some i =>
    rw [hf] at h
    cases ho : S.l[i]? with
    | none => simp [ho]
    | some o =>
      simp only [ho] at h ⊢
      cases hd : isDone S o with
      | true => simp
      | false =>
        rw [hd] at h
        simp at h
        have ok := hok.one o (List.mem_of_getElem? ho)
        have h0 : waitsOf o v = 0 := by have := (ok.waits v).1; omega
        have := mod_same ho (take_none ok h0)
        simp [h0, this]
theorem waitsM_yes {S : SetM} {n v : Int} (h : waitsM S n v = true) : ∃ i o, findI n S.l = some i ∧ S.l[i]? = some o ∧ isDone S o = false ∧ decide (0 < waitsOf o v) = true := by
  unfold waitsM at h
  cases hf : findI n S.l with
  | none => rw [hf] at h; cases h
  | some i =>
    rw [hf] at h
    cases ho : S.l[i]? with
    | none => simp [ho] at h
    | some o =>
      simp only [ho] at h
      cases hd : isDone S o with
      | true => rw [hd] at h; simp at h
      | false => rw [hd] at h; exact ⟨i, o, rfl, ho, hd, by simpa using h⟩
theorem voteM_yes {S : SetM} {n v : Int} {id : ID} {i : Nat} {o : OneM} (hf : findI n S.l = some i) (ho : S.l[i]? = some o) (hd : isDone S o = false) (hw : decide (0 < waitsOf o v) = true) : voteM S n v id = (modS S i (voteO v id), 0) := by
  unfold voteM
  rw [hf]
  simp only [ho, hd]
  have : waitsOf o v ≠ 0 := by simp at hw; omega
  simp [this]
structure RAct (w : World) (G : Nat → Prop) (rb : Nat) (S' : SetM) (R' : List (List Int)) (w' : World) : Prop where
  ex : ∃ lv ps, RSetW w' (fun n => G n ∨ w.heap.size ≤ n) rb lv ps S' R'
  k : Keeps G w w'
set_option maxRecDepth 100000 in
set_option maxHeartbeats 2000000 in
theorem rdrop_any (w : World) (G : Nat → Prop) (rb : Nat) (lv : Value) (ps : List PB) (S : SetM) (R : List (List Int)) (n v : Int) (hS : RSetW w G rb lv ps S R) (hok : SetOK S) (hrel : RelS S R) (hlen : ps.length ≤ 100000) :
    Calls Try.prog 42 #[.pointer (some ⟨rb, 0, none⟩), .int .i64 n, .int .i64 v] w fun e w' => e = .returned (.int .i64 (dropM S n v).2) ∧ RAct w G rb (dropM S n v).1 R w' := by
  have HW := Lib.hid (rwaits_any w G rb lv ps S R n v hS hok hrel hlen)
  cases hw : waitsM S n v with
  | false =>
    obtain ⟨e1, -⟩ := waitsM_no hok hw
    have HS : Hid (RAct w G rb (dropM S n v).1 R w) := Lib.hid (by rw [e1]; exact ⟨⟨lv, ps, hS.of_G (fun _ _ _ => rfl) (Nat.le_refl _) fun n h _ => .inl h⟩, Keeps.refl _ _⟩)
    have HE : Hid ((dropM S n v).2 = 4) := Lib.hid (by rw [e1])
    rw [hw] at HW
    generalize dropM S n v = r at *
    clear hS hok hrel e1 hw
    go_enter Try.func42, Try.ntmps42
    go_wp2_with fail
    refine HW.out.mono ?_
    rintro e w2 ⟨rfl, hw⟩
    cases hw
    go_wp2_with fail
    go_ret
    exact ⟨by rw [HE.out]; rfl, HS.out⟩
  | true =>
    obtain ⟨i, o, hf, ho, hd, hwv⟩ := waitsM_yes hw
    obtain ⟨hi, _⟩ := findI_lt hf
    obtain ⟨q, o', sl, h⟩ := found hS hok hrel hi
    have : o' = o := by have := h.ho; rw [ho] at this; exact (Option.some.inj this).symm
    subst this
    have HF := Lib.hid (rfind_any w G rb lv ps S R n hS hlen)
    rw [hf, h.ptr] at HF
    have HT := Lib.hid (rtakes_any w G q o' sl v h.pw h.ok h.hi)
    have hdm := dropM_yes hf ho hd hwv
    have HE : Hid ((dropM S n v).2 = 0) := Lib.hid (by rw [hdm])
    have HD1 : Hid ((dropM S n v).1 = modS S i (takeO v)) := Lib.hid (by rw [hdm])
    have HSS := Lib.hid hS
    have HH := Lib.hid h
    rw [hw] at HW
    generalize dropM S n v = r at *
    clear hS hok hrel hw hf ho hd hwv hdm h
    go_enter Try.func42, Try.ntmps42
    go_wp2_with fail
    refine HW.out.mono ?_
    rintro e w2 ⟨rfl, hw⟩
    cases hw
    go_wp2_with fail
    refine HF.out.mono ?_
    rintro e w2 ⟨rfl, hw⟩
    cases hw
    go_wp2_with fail
    refine HT.out.mono ?_
    rintro e w2 ⟨rfl, hp2, hk2⟩
    have FIN : Hid (RAct w G rb r.1 R w2) := Lib.hid (by
      rw [HD1.out]
      exact ⟨⟨lv, _, (HSS.out.setPoll HH.out rfl rfl (takeO v) hp2 (hk2.mono fun n hn => .inl hn) (fun n hn => hn)).of_G (fun _ _ _ => rfl) (Nat.le_refl _) fun n h _ => .inl h⟩, hk2.mono fun n hn => by rw [hn]; exact HH.out.pw.gf⟩)
    clear hp2 hk2
    go_wp2_with fail
    go_ret
    exact ⟨by rw [HE.out]; rfl, FIN.out⟩
end Go.Proofs.Ytfejhekoijemdaa
