import Derived.Test.YtfejhekoijemdaaDone
namespace Go.Proofs.Ytfejhekoijemdaa
open Go.RowKit

theorem nodup_ne {α β : Type} {f : α → β} {l : List α} (h : (l.map f).Nodup) {i j : Nat} {a c : α} (hi : l[i]? = some a) (hj : l[j]? = some c) (hne : i ≠ j) : f a ≠ f c := by
  intro e
  have h1 : (l.map f)[i]? = some (f a) := by rw [List.getElem?_map, hi]; rfl
  have h2 : (l.map f)[j]? = some (f a) := by rw [List.getElem?_map, hj, e]; rfl
  obtain ⟨g1, e1⟩ := List.getElem?_eq_some_iff.1 h1
  obtain ⟨g2, e2⟩ := List.getElem?_eq_some_iff.1 h2
  have hpw := List.pairwise_iff_getElem.1 h
  rcases Nat.lt_or_gt_of_ne hne with hlt | hlt
  · exact hpw i j g1 g2 hlt (e1.trans e2.symm)
  · exact hpw j i g2 g1 hlt (e2.trans e1.symm)
/-- a poll of the set laid anew -/
theorem SetW.upd {w W : World} {M V V' : Nat → Prop} {b : Nat} {lv : Value} {ps : List (Nat × Nat)} {S : SetM} (h : SetW w M V b lv ps S) {i : Nat} {p : Nat × Nat} {o : OneM} (hp : ps[i]? = some p) (ho : S.l[i]? = some o) (f : OneM → OneM) {v' : Value} (hn : OneW W V' p.1 p.2 v' (f o)) (hz : w.heap.size ≤ W.heap.size)
    (hk : ∀ n, n < w.heap.size → n ≠ p.1 → n ≠ p.2 → obj W n = obj w n) (hV : ∀ n, V n → V' n) (hV' : ∀ n, V' n → V n ∨ (w.heap.size ≤ n ∧ n < W.heap.size)) : SetW W M V' b lv ps (modS S i f) := by
  obtain ⟨v0, h0⟩ := h.one i p o hp ho
  obtain ⟨es, clk, hm, _⟩ := h0.map
  have hmp := h.mp p (List.mem_of_getElem? hp)
  have hb1 : b ≠ p.1 := fun e => by have := h.box; rw [e, h0.at_] at this; simp at this
  have hb2 : b ≠ p.2 := fun e => by have := h.box; rw [e, hm] at this; simp at this
  refine ⟨(hk _ h.lt hb1 hb2).trans h.box, h.row.frame fun g hg => hk g (h.mlt _ (h.ml g hg)) (fun e => ?_) (fun e => ?_), ?_, ?_, h.nd1, h.nd2, h.mb, h.ml, h.mp, ?_, fun n hn => Nat.lt_of_lt_of_le (h.mlt n hn) hz, ?_⟩
  · exact h.row.ne h0.at_ (fun cur e' => by cases e') (by rw [hg, e])
  · exact h.row.ne hm (fun cur e' => by cases e') (by rw [hg, e])
  · unfold modS; simp only [List.length_modify]; exact h.len
  · intro j q o' hq ho'
    unfold modS at ho'
    simp only [List.getElem?_modify] at ho'
    by_cases hij : i = j
    · subst hij
      rw [hp] at hq
      cases hq
      rw [ho] at ho'
      simp at ho'
      subst ho'
      exact ⟨v', hn⟩
    · simp [hij] at ho'
      obtain ⟨v1, h1⟩ := h.one j q o' hq ho'
      have hmq := h.mp q (List.mem_of_getElem? hq)
      obtain ⟨es1, clk1, hm1, _⟩ := h1.map
      refine ⟨v1, ?_, ?_, ?_⟩
      · refine (hk _ (lt_of_obj h1.at_) (nodup_ne h.nd1 hq hp (Ne.symm hij)) (fun e => ?_)).trans h1.at_
        have := h1.at_; rw [e, hm] at this; simp at this
      · refine ⟨es1, clk1, (hk _ (lt_of_obj hm1) (fun e => ?_) (nodup_ne h.nd2 hq hp (Ne.symm hij))).trans hm1, ?_⟩
        · rw [e, h0.at_] at hm1; simp at hm1
        · obtain ⟨es2, clk2, hm2, hr2⟩ := h1.map
          rw [hm1] at hm2
          cases hm2
          exact hr2
      · exact h1.vt.frame hz (fun n hn hv => hk n hn (fun e => h.dis n (by rw [e]; exact hmp.1) hv) (fun e => h.dis n (by rw [e]; exact hmp.2) hv)) hV
  · intro n hn hv
    rcases hV' n hv with h1 | h1
    · exact h.dis n hn h1
    · have := h.mlt n hn; omega
  · intro n hv
    rcases hV' n hv with h1 | h1
    · exact Nat.lt_of_lt_of_le (h.vlt n h1) hz
    · exact h1.2
set_option maxRecDepth 100000 in
set_option maxHeartbeats 2000000 in
theorem takes_none (w : World) (M V : Nat → Prop) (b : Nat) (lv : Value) (ps : List (Nat × Nat)) (S : SetM) (h : SetW w M V b lv ps S) (hp : 1 ≤ S.pref) (n v : Int) (hf : findI n S.l = none) :
    Calls Try.prog 35 #[.pointer (some ⟨b, 0, none⟩), .int .i64 n, .int .i64 v] w fun e w' => e = .returned (.tuple #[.pointer none, .int .i64 0]) ∧ Below w.heap.size w w' := by
  have HF := Lib.hid (find_any w M V b lv ps S h hp n)
  rw [hf] at HF
  have hr : ptrO ps none = none := rfl
  rw [hr] at HF
  clear h hf hr
  go_enter Try.func35, Try.ntmps35
  go_wp2_with fail
  refine HF.out.mono ?_
  rintro e w1 ⟨rfl, b1⟩
  have B1 := Lib.hid b1
  clear b1
  go_wp2
  go_ret2
  exact ⟨rfl, B1.out⟩
set_option maxRecDepth 100000 in
set_option maxHeartbeats 2000000 in
theorem takes_done (w : World) (M V : Nat → Prop) (b : Nat) (lv : Value) (ps : List (Nat × Nat)) (S : SetM) (h : SetW w M V b lv ps S) (hp : 1 ≤ S.pref) (n v : Int) (i : Nat) (p : Nat × Nat) (o : OneM) (hf : findI n S.l = some i) (hpi : ps[i]? = some p) (ho : S.l[i]? = some o) (hok : OneOK o) (hd : isDone S o = true) :
    Calls Try.prog 35 #[.pointer (some ⟨b, 0, none⟩), .int .i64 n, .int .i64 v] w fun e w' => e = .returned (.tuple #[.pointer (some ⟨p.1, 0, none⟩), .int .i64 0]) ∧ Below w.heap.size w w' := by
  have HF := Lib.hid (find_any w M V b lv ps S h hp n)
  rw [hf] at HF
  have hr : ptrO ps (some i) = some ⟨p.1, 0, none⟩ := by simp [ptrO, hpi]
  rw [hr] at HF
  have HD := fun W (hb : Below w.heap.size w W) => Lib.hid (done_any W M V b lv ps S (h.below hb) i p o hpi ho hok)
  rw [hd] at HD
  clear h hf hr hd
  go_enter Try.func35, Try.ntmps35
  go_wp2_with fail
  refine HF.out.mono ?_
  rintro e w1 ⟨rfl, b1⟩
  have B1 := Lib.hid b1
  have HD1 := HD w1 b1
  clear b1 HD
  go_wp2_with fail
  refine HD1.out.mono ?_
  rintro e w2 ⟨rfl, b2⟩
  have B2 := Lib.hid (B1.out.trans (b2.mono B1.out.size))
  clear b2
  go_wp2
  go_ret2
  exact ⟨rfl, B2.out⟩
set_option maxRecDepth 100000 in
set_option maxHeartbeats 2000000 in
theorem takes_some (w : World) (M V : Nat → Prop) (b : Nat) (lv : Value) (ps : List (Nat × Nat)) (S : SetM) (h : SetW w M V b lv ps S) (hp : 1 ≤ S.pref) (n v : Int) (i : Nat) (p : Nat × Nat) (o : OneM) (hf : findI n S.l = some i) (hpi : ps[i]? = some p) (ho : S.l[i]? = some o) (hok : OneOK o) (hd : isDone S o = false) :
    Calls Try.prog 35 #[.pointer (some ⟨b, 0, none⟩), .int .i64 n, .int .i64 v] w fun e w' => e = .returned (.tuple #[.pointer (some ⟨p.1, 0, none⟩), .int .i64 (waitsOf o v)]) ∧ SetW w' M V b lv ps (modS S i (takeO v)) ∧ Keeps M w w' := by
  have HF := Lib.hid (find_any w M V b lv ps S h hp n)
  rw [hf] at HF
  have hr : ptrO ps (some i) = some ⟨p.1, 0, none⟩ := by simp [ptrO, hpi]
  rw [hr] at HF
  have HD := fun W (hb : Below w.heap.size w W) => Lib.hid (done_any W M V b lv ps S (h.below hb) i p o hpi ho hok)
  rw [hd] at HD
  have HW := Lib.hid h
  have hwo := hok.waits v
  have hl0 := hok.left0
  have ht := hok.tot
  have hs0 := hok.sum0
  have hhi := hok.hi
  have hwr : IntKind.i64.wrap (o.left - waitsOf o v) = o.left - waitsOf o v := by simp [IntKind.wrap, IntKind.signed, IntKind.bits]; omega
  have hmp := h.mp p (List.mem_of_getElem? hpi)
  obtain ⟨v0, h0⟩ := h.one i p o hpi ho
  obtain ⟨es, clk, hm, hrep⟩ := h0.map
  have hlk : ∀ W : World, obj W p.2 = some (.map es clk) → (Instr.lookup 31 (.map (some p.2)) (.int .i64 v) false).run Try.prog W = .ok (.int .i64 (waitsOf o v)) W := fun W hW => by
    rw [run_lookup1_int (enc := intV) Try.underlying31 Try.underlying3 (z := .int .i64 0) (fun w => by kernel_rfl) ⟨es, clk, hW, hrep⟩ v]
    unfold waitsOf intV
    cases aGet v o.W <;> rfl
  obtain ⟨es', hdel, hrep'⟩ := run_delete_int (enc := intV) (clk := clk) Try.underlying31 Try.underlying3 0 3 hrep p.2 v
  have hne := h0.ne
  have hne' : p.2 ≠ p.1 := fun e => hne e.symm
  have C2 : Hid (∀ W : World, Below w.heap.size w W → obj W p.1 = some (.cells #[.int .i64 o.id, .int .i64 o.slots, .map (some p.2), .int .i64 o.left, v0] 85 (0, 0)) ∧ obj W p.2 = some (.map es clk)) := Lib.hid (fun W hb => ⟨(obj_below hb (lt_of_obj h0.at_)).trans h0.at_, (obj_below hb (lt_of_obj hm)).trans hm⟩)
  have hpl := lt_of_obj h0.at_
  have hml := lt_of_obj hm
  have H0 := Lib.hid h0
  have RE := Lib.hid hrep'
  have HO := Lib.hid hpi
  have HQ := Lib.hid ho
  have HMP := Lib.hid hmp
  clear h hf hr hd hwo hl0 ht hs0 hhi hok h0 hm hrep hrep' hpi ho hmp
  obtain ⟨pp, m⟩ := p
  simp only at *
  go_enter Try.func35, Try.ntmps35
  go_wp2_with fail
  refine HF.out.mono ?_
  rintro e w1 ⟨rfl, b1⟩
  have B1 := Lib.hid b1
  have HD1 := HD w1 b1
  clear b1 HD
  go_wp2_with fail
  refine HD1.out.mono ?_
  rintro e w2 ⟨rfl, b2⟩
  have B2 := Lib.hid (B1.out.trans (b2.mono B1.out.size))
  have hz := B2.out.size
  obtain ⟨o2, m2⟩ := C2.out w2 B2.out
  have hpl2 := lt_of_obj o2
  have hml2 := lt_of_obj m2
  have c2 : w2.cell? ⟨pp, 2, none⟩ = some (.map (some m)) := cell_at o2 2
  have c3 : w2.cell? ⟨pp, 3, none⟩ = some (.int .i64 o.left) := cell_at o2 3
  have f3 := frozen_at o2 3
  have hlk2 := hlk w2 m2
  have hdl2 := hdel w2 m2
  have O2 := Lib.hid o2
  clear b2 o2 hlk hdel HD1
  go_wp2
  go_ret2
  have hk : Keeps (fun n => n = pp ∨ n = m) w2 ((putObj w2 m (.map es' clk)).setCell ⟨pp, 3, none⟩ (.int .i64 (o.left - waitsOf o v))) := ((Keeps.refl _ w2).putObj (.inr rfl) _).setCell (.inl (.inl rfl)) _
  have hko : ∀ n, n < w.heap.size → n ≠ pp → n ≠ m → obj ((putObj w2 m (.map es' clk)).setCell ⟨pp, 3, none⟩ (.int .i64 (o.left - waitsOf o v))) n = obj w n := fun n hn h1 h2 =>
    (hk.block n (by omega) (fun h => h.elim h1 h2)).trans (obj_below B2.out hn)
  have oo : obj (putObj w2 m (.map es' clk)) pp = some (.cells #[.int .i64 o.id, .int .i64 o.slots, .map (some m), .int .i64 o.left, v0] 85 (0, 0)) := (obj_putObj_ne _ _ _ _ hne).trans O2.out
  refine ⟨rfl, HW.out.upd HO.out HQ.out (takeO v) (v' := v0) ⟨?_, ⟨es', clk, ?_, RE.out⟩, ?_⟩ (by have := hk.size; omega) hko (fun _ h => h) (fun _ h => .inl h), ?_⟩
  · rw [obj_setCell_at _ oo]; rfl
  · exact (obj_setCell_ne _ _ _ _ hne').trans (obj_putObj_eq _ _ _ hml2)
  · exact H0.out.vt.frame (by have := hk.size; omega) (fun n hn hv => hko n hn (fun e => HW.out.dis n (by rw [e]; exact HMP.out.1) hv) (fun e => HW.out.dis n (by rw [e]; exact HMP.out.2) hv)) (fun _ h => h)
  · exact (Keeps.of_below B2.out).trans (hk.mono fun n hn => by rcases hn with rfl | rfl; exact HMP.out.1; exact HMP.out.2)
end Go.Proofs.Ytfejhekoijemdaa
namespace Go.Proofs.Ytfejhekoijemdaa
open Go.RowKit

def leftM (S : SetM) (n : Int) : Int × Int :=
  match findI n S.l with
  | none => (0, 4)
  | some i => match S.l[i]? with
    | none => (0, 4)
    | some o => if isDone S o = true then (0, 0) else (o.left, 0)
def waitsM (S : SetM) (n v : Int) : Bool :=
  match findI n S.l with
  | none => false
  | some i => match S.l[i]? with
    | none => false
    | some o => if isDone S o = true then false else decide (0 < waitsOf o v)
theorem ret_two {a c : Int} {r : Int × Int} (h : r = (a, c)) : Ending.returned (.tuple #[.int .i64 a, .int .i64 c]) = .returned (.tuple #[.int .i64 r.1, .int .i64 r.2]) := by rw [h]
set_option maxRecDepth 100000 in
/-- (*Set).Len -/
theorem len_any (w : World) (M V : Nat → Prop) (b : Nat) (lv : Value) (ps : List (Nat × Nat)) (S : SetM) (h : SetW w M V b lv ps S) (hp : 1 ≤ S.pref) :
    Calls Try.prog 19 #[.pointer (some ⟨b, 0, none⟩)] w fun e w' => e = .returned (.int .i64 S.l.length) ∧ w' = w := by
  have HN := Lib.hid (none_no w M V b lv ps S h hp)
  have c3 : w.cell? ⟨b, 3, none⟩ = some lv := cell_at h.box 3
  obtain ⟨la, lc, rfl, _⟩ := h.row.slIn
  rw [h.len] at c3
  clear h
  generalize S.l.length = n at *
  go_enter Try.func19, Try.ntmps19
  go_wp2_with fail
  refine HN.out.mono ?_
  rintro e w ⟨rfl, rfl⟩
  go_wp2
  go_ret
  exact ⟨rfl, rfl⟩
set_option maxRecDepth 100000 in
set_option maxHeartbeats 1000000 in
/-- (*Set).Left -/
theorem left_any (w : World) (M V : Nat → Prop) (b : Nat) (lv : Value) (ps : List (Nat × Nat)) (S : SetM) (h : SetW w M V b lv ps S) (hok : SetOK S) (n : Int) :
    Calls Try.prog 21 #[.pointer (some ⟨b, 0, none⟩), .int .i64 n] w fun e w' => e = .returned (.tuple #[.int .i64 (leftM S n).1, .int .i64 (leftM S n).2]) ∧ Below w.heap.size w w' := by
  have HN := Lib.hid (none_no w M V b lv ps S h hok.p0)
  have HF := Lib.hid (find_any w M V b lv ps S h hok.p0 n)
  cases hf : findI n S.l with
  | none =>
    rw [hf] at HF
    have hr : ptrO ps none = none := rfl
    rw [hr] at HF
    have HR : Hid (leftM S n = (0, 4)) := Lib.hid (by unfold leftM; rw [hf])
    clear h hok hf hr
    go_enter Try.func21, Try.ntmps21
    go_wp2_with fail
    refine HN.out.mono ?_
    rintro e w ⟨rfl, rfl⟩
    go_wp2_with fail
    refine HF.out.mono ?_
    rintro e w2 ⟨rfl, b2⟩
    have B2 := Lib.hid b2
    clear b2
    go_wp2
    go_ret2
    exact ⟨ret_two HR.out, B2.out⟩
  | some i =>
    obtain ⟨hi, _⟩ := findI_lt hf
    have hil : i < ps.length := by rw [h.len]; exact hi
    have ho := List.getElem?_eq_getElem hi
    have hpi := List.getElem?_eq_getElem hil
    have hoo := hok.one _ (List.getElem_mem hi)
    generalize S.l[i] = o at *
    generalize ps[i] = p at *
    have hr : ptrO ps (some i) = some ⟨p.1, 0, none⟩ := by simp [ptrO, hpi]
    rw [hf, hr] at HF
    have HD := fun W (hb : Below w.heap.size w W) => Lib.hid (done_any W M V b lv ps S (h.below hb) i p o hpi ho hoo)
    obtain ⟨v0, h0⟩ := h.one i p o hpi ho
    have C3 := Lib.hid (fun W (hb : Below w.heap.size w W) => (cell_at ((obj_below hb (lt_of_obj h0.at_)).trans h0.at_) 3 : W.cell? ⟨p.1, 3, none⟩ = some (.int .i64 o.left)))
    cases hd : isDone S o with
    | true =>
      have HR : Hid (leftM S n = (0, 0)) := Lib.hid (by unfold leftM; rw [hf]; simp [ho, hd])
      rw [hd] at HD
      clear h hok hf hi hil ho hpi hoo hd hr h0
      go_enter Try.func21, Try.ntmps21
      go_wp2_with fail
      refine HN.out.mono ?_
      rintro e w ⟨rfl, rfl⟩
      go_wp2_with fail
      refine HF.out.mono ?_
      rintro e w1 ⟨rfl, b1⟩
      have B1 := Lib.hid b1
      have HD1 := HD w1 b1
      clear b1 HD
      go_wp2_with fail
      refine HD1.out.mono ?_
      rintro e w2 ⟨rfl, b2⟩
      have B2 := Lib.hid (B1.out.trans (b2.mono B1.out.size))
      clear b2
      go_wp2
      go_ret2
      exact ⟨ret_two HR.out, B2.out⟩
    | false =>
      have HR : Hid (leftM S n = (o.left, 0)) := Lib.hid (by unfold leftM; rw [hf]; simp [ho, hd])
      rw [hd] at HD
      clear h hok hf hi hil ho hpi hoo hd hr h0
      go_enter Try.func21, Try.ntmps21
      go_wp2_with fail
      refine HN.out.mono ?_
      rintro e w ⟨rfl, rfl⟩
      go_wp2_with fail
      refine HF.out.mono ?_
      rintro e w1 ⟨rfl, b1⟩
      have B1 := Lib.hid b1
      have HD1 := HD w1 b1
      clear b1 HD
      go_wp2_with fail
      refine HD1.out.mono ?_
      rintro e w2 ⟨rfl, b2⟩
      have B2 := Lib.hid (B1.out.trans (b2.mono B1.out.size))
      have c3 := C3.out w2 B2.out
      clear b2
      go_wp2
      go_ret2
      exact ⟨ret_two HR.out, B2.out⟩
set_option maxRecDepth 100000 in
set_option maxHeartbeats 1000000 in
/-- (*Set).Waits -/
theorem waits_any (w : World) (M V : Nat → Prop) (b : Nat) (lv : Value) (ps : List (Nat × Nat)) (S : SetM) (h : SetW w M V b lv ps S) (hok : SetOK S) (n v : Int) :
    Calls Try.prog 12 #[.pointer (some ⟨b, 0, none⟩), .int .i64 n, .int .i64 v] w fun e w' => e = .returned (.bool (waitsM S n v)) ∧ Below w.heap.size w w' := by
  have HF := Lib.hid (find_any w M V b lv ps S h hok.p0 n)
  cases hf : findI n S.l with
  | none =>
    rw [hf] at HF
    have hr : ptrO ps none = none := rfl
    rw [hr] at HF
    have HR : Hid (waitsM S n v = false) := Lib.hid (by unfold waitsM; rw [hf])
    clear h hok hf hr
    go_enter Try.func12, Try.ntmps12
    go_wp2_with fail
    refine HF.out.mono ?_
    rintro e w2 ⟨rfl, b2⟩
    have B2 := Lib.hid b2
    clear b2
    go_wp2
    go_ret
    exact ⟨ret_bool HR.out.symm, B2.out⟩
  | some i =>
    obtain ⟨hi, _⟩ := findI_lt hf
    have hil : i < ps.length := by rw [h.len]; exact hi
    have ho := List.getElem?_eq_getElem hi
    have hpi := List.getElem?_eq_getElem hil
    have hoo := hok.one _ (List.getElem_mem hi)
    generalize S.l[i] = o at *
    generalize ps[i] = p at *
    have hr : ptrO ps (some i) = some ⟨p.1, 0, none⟩ := by simp [ptrO, hpi]
    rw [hf, hr] at HF
    have HD := fun W (hb : Below w.heap.size w W) => Lib.hid (done_any W M V b lv ps S (h.below hb) i p o hpi ho hoo)
    obtain ⟨v0, h0⟩ := h.one i p o hpi ho
    have C2 := Lib.hid (fun W (hb : Below w.heap.size w W) => (cell_at ((obj_below hb (lt_of_obj h0.at_)).trans h0.at_) 2 : W.cell? ⟨p.1, 2, none⟩ = some (.map (some p.2))))
    obtain ⟨es, clk, hm, hrep⟩ := h0.map
    have LK := Lib.hid (fun W (hb : Below w.heap.size w W) => (show (Instr.lookup 31 (.map (some p.2)) (.int .i64 v) false).run Try.prog W = .ok (.int .i64 (waitsOf o v)) W by
      rw [run_lookup1_int (enc := intV) Try.underlying31 Try.underlying3 (z := .int .i64 0) (fun w => by kernel_rfl) ⟨es, clk, (obj_below hb (lt_of_obj hm)).trans hm, hrep⟩ v]
      unfold waitsOf intV
      cases aGet v o.W <;> rfl))
    cases hd : isDone S o with
    | true =>
      have HR : Hid (waitsM S n v = false) := Lib.hid (by unfold waitsM; rw [hf]; simp [ho, hd])
      rw [hd] at HD
      clear h hok hf hi hil ho hpi hoo hd hr h0 hm hrep
      go_enter Try.func12, Try.ntmps12
      go_wp2_with fail
      refine HF.out.mono ?_
      rintro e w1 ⟨rfl, b1⟩
      have B1 := Lib.hid b1
      have HD1 := HD w1 b1
      clear b1 HD
      go_wp2_with fail
      refine HD1.out.mono ?_
      rintro e w2 ⟨rfl, b2⟩
      have B2 := Lib.hid (B1.out.trans (b2.mono B1.out.size))
      clear b2
      go_wp2
      go_ret
      exact ⟨ret_bool HR.out.symm, B2.out⟩
    | false =>
      have HR : Hid (waitsM S n v = decide (0 < waitsOf o v)) := Lib.hid (by unfold waitsM; rw [hf]; simp [ho, hd])
      rw [hd] at HD
      clear h hok hf hi hil ho hpi hoo hd hr h0 hm hrep
      obtain ⟨pp, m⟩ := p
      simp only at HF HD C2 LK
      generalize waitsOf o v = q at *
      go_enter Try.func12, Try.ntmps12
      go_wp2_with fail
      refine HF.out.mono ?_
      rintro e w1 ⟨rfl, b1⟩
      have B1 := Lib.hid b1
      have HD1 := HD w1 b1
      clear b1 HD
      go_wp2_with fail
      refine HD1.out.mono ?_
      rintro e w2 ⟨rfl, b2⟩
      have B2 := Lib.hid (B1.out.trans (b2.mono B1.out.size))
      have c2 := C2.out w2 B2.out
      have lk := LK.out w2 B2.out
      clear b2
      go_wp2
      go_ret
      exact ⟨ret_bool HR.out.symm, B2.out⟩
end Go.Proofs.Ytfejhekoijemdaa
