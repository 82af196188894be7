import Derived.Test.YtfejhekoijemdaaDelX
import Derived.Test.YtfejhekoijemdaaApp
import Derived.Deep.RegionHeld3
namespace Go.Proofs.Ytfejhekoijemdaa
open Go.RowKit

structure EndM where
  id : Int
  oa : Option Addr
  len : Nat
  cap : Nat
  slots : Int
instance : Inhabited EndM := ⟨⟨0, none, 0, 0, 0⟩⟩
def EndM.v (e : EndM) : Value := .slice e.oa e.len e.cap
def endL (e : EndM) : List Value := [.int .i64 e.id, .slice e.oa e.len e.cap, .int .i64 e.slots]
theorem endL_length (e : EndM) : (endL e).length = 3 := rfl
theorem endL_one (e : EndM) : allOne (endL e).toArray = true := rfl
structure IsEnd (w : World) (V : Nat → Prop) (e : EndM) (o : OneM) : Prop where
  id : e.id = o.id
  slots : e.slots = o.slots
  vt : VoteAt w V e.v o.votes
/-- what is handed out: of each poll its end -/
def EndsAt (w : World) (V : Nat → Prop) (es : List EndM) (l : List OneM) : Prop :=
  es.length = l.length ∧ ∀ (i : Nat) (e : EndM) (o : OneM), es[i]? = some e → l[i]? = some o → IsEnd w V e o
theorem EndsAt.frame {w W : World} {V V' : Nat → Prop} {es : List EndM} {l : List OneM} (h : EndsAt w V es l) (hz : w.heap.size ≤ W.heap.size) (hk : ∀ n, n < w.heap.size → V n → obj W n = obj w n) (hV : ∀ n, V n → V' n) : EndsAt W V' es l :=
  ⟨h.1, fun i e o h1 h2 => ⟨(h.2 i e o h1 h2).id, (h.2 i e o h1 h2).slots, (h.2 i e o h1 h2).vt.frame hz hk hV⟩⟩
theorem EndsAt.snoc {w : World} {V : Nat → Prop} {es : List EndM} {l : List OneM} (h : EndsAt w V es l) {e : EndM} {o : OneM} (he : IsEnd w V e o) : EndsAt w V (es ++ [e]) (l ++ [o]) := by
  refine ⟨by simp [h.1], fun i e' o' h1 h2 => ?_⟩
  rcases get_snoc h1 with ⟨i1, g1⟩ | ⟨i1, g1⟩
  · rcases get_snoc h2 with ⟨i2, g2⟩ | ⟨i2, g2⟩
    · exact h.2 i e' o' g1 g2
    · have := h.1; omega
  · rcases get_snoc h2 with ⟨i2, g2⟩ | ⟨i2, g2⟩
    · have := h.1; omega
    · subst g1 g2; exact he
theorem info43 : (Try.prog.info? 43).map (fun i => (i.zero, i.size, i.bytes)) = some (some (.agg #[.int .i64 0, .slice none 0 0, .int .i64 0]), 3, 40) := by kernel_rfl
theorem push39 {ops : Array Oper} {rest : List Oper} {o : Oper} {a : Act} {w : World} {Q : Exit → Act → World → Prop} (hgd : o.guard = none) (s x : Operand) (ho : o.op = .call { callee := .builtin .append, args := #[s, x], argTypes := #[39, 39] })
    (base : Nat) (v : Value) (xs : List EndM) (y : EndM) (hs : a.eval s = v) (hown : OwnS w base 43 3 endL v xs) (g : Nat) (hx : a.eval x = .slice (some ⟨g, 0, none⟩) 1 1) (hg : obj w g = some (.cells (endL y).toArray 43 (0, 0)))
    (hlen : xs.length ≤ 1048576) (hbase : base ≤ w.heap.size)
    (h : ∀ v' w', OwnS w' base 43 3 endL v' (xs ++ [y]) → Below base w w' → (∀ k, k < w.heap.size → v.ownBlock ≠ some k → obj w' k = obj w k) → wpList Try.prog ops Q rest (a.put o.dst v') w') : wpList Try.prog ops Q (o :: rest) a w := by
  obtain ⟨i0, hi, hz0, hz1, hz2⟩ := info_parts info43
  exact wpList_push Try.underlying39 hi hz0 hz1 hz2 (by simp [Value.cells]) (by decide) endL endL_length endL_one hgd s x ho base v xs y hs hown g hx hg hlen (by decide) hbase h
theorem tw_all {α : Type} {p : α → Bool} : ∀ {l : List α} {x : α}, x ∈ l.takeWhile p → p x = true
  | [], x, h => by simp at h
  | y :: r, x, h => by
    by_cases hy : p y = true
    · rw [List.takeWhile_cons_of_pos hy] at h
      rcases List.mem_cons.1 h with e | e
      · rw [e]; exact hy
      · exact tw_all e
    · rw [List.takeWhile_cons_of_neg hy] at h; simp at h
def dropS (S : SetM) (k : Nat) : SetM := { S with l := S.l.drop k }
theorem doneN_le (S : SetM) : doneN S ≤ S.l.length := by
  unfold doneN
  exact (List.takeWhile_sublist _).length_le
theorem doneN_at {S : SetM} {k : Nat} {o : OneM} {r : List OneM} (hk : k ≤ doneN S) (h : S.l.drop k = o :: r) : (isDone S o = true → k + 1 ≤ doneN S) ∧ (isDone S o = false → k = doneN S) := by
  have e : S.l = S.l.take k ++ o :: r := by rw [← h, List.take_append_drop]
  have hkl : k ≤ S.l.length := Nat.le_trans hk (doneN_le S)
  have ha : ∀ x ∈ S.l.take k, isDone S x = true := by
    intro x hx
    have h1 : S.l.take k = (S.l.takeWhile (isDone S)).take k := by
      have h2 := List.takeWhile_append_dropWhile (p := isDone S) (l := S.l)
      have : S.l.take k = (S.l.takeWhile (isDone S) ++ S.l.dropWhile (isDone S)).take k := by rw [h2]
      rw [this, List.take_append_of_le_length hk]
    rw [h1] at hx
    exact tw_all (List.mem_of_mem_take hx)
  have hl : (S.l.take k).length = k := by simp; omega
  have h3 : S.l.takeWhile (isDone S) = S.l.take k ++ (o :: r).takeWhile (isDone S) := by
    conv => lhs; rw [e]
    exact List.takeWhile_append_of_pos ha
  constructor
  · intro hd
    unfold doneN
    rw [h3, List.takeWhile_cons_of_pos hd]
    simp [hl]
  · intro hd
    unfold doneN
    rw [h3, List.takeWhile_cons_of_neg (by simp [hd])]
    simp [hl]
theorem SetW.pop {w W : World} {M V : Nat → Prop} {b : Nat} {lv nv : Value} {p : Nat × Nat} {ps : List (Nat × Nat)} {S S' : SetM} {o : OneM} (h : SetW w M V b lv (p :: ps) S) (hl : S.l = o :: S'.l) (h1 : S'.pref = S.pref) (h2 : S'.conf = S.conf) (h3 : S'.last = S.last)
    (hb : obj W b = some (.cells #[.int .i64 S.pref, .int .i64 S.conf, .int .i64 S.last, nv] 78 (0, 0))) (hr : RowP W nv ps) (hz : w.heap.size ≤ W.heap.size)
    (hk : ∀ k, k < w.heap.size → k ≠ b → lv.ownBlock ≠ some k → obj W k = obj w k) (hq : nv.ownBlock = lv.ownBlock) : SetW W M V b nv ps S' := by
  refine ⟨by rw [h1, h2, h3]; exact hb, hr, ?_, fun i q o' g1 g2 => ?_, ?_, ?_, h.mb, fun g hg => h.ml g (hq ▸ hg), fun q hq => h.mp q (List.mem_cons_of_mem _ hq), h.dis, fun n hn => Nat.lt_of_lt_of_le (h.mlt n hn) hz, fun n hn => Nat.lt_of_lt_of_le (h.vlt n hn) hz⟩
  · have := h.len; rw [hl] at this; simpa using this
  · obtain ⟨v, ho⟩ := h.one (i + 1) q o' (by simpa using g1) (by rw [hl]; simpa using g2)
    obtain ⟨es, clk, hm1, hr1⟩ := ho.map
    have hb1 : q.1 ≠ b := fun e => by have := h.box; rw [← e, ho.at_] at this; simp at this
    have hb2 : q.2 ≠ b := fun e => by have := h.box; rw [← e, hm1] at this; simp at this
    exact ⟨v, (hk _ (lt_of_obj ho.at_) hb1 (h.row.ne ho.at_ fun cur e => by simp at e)).trans ho.at_, ⟨es, clk, (hk _ (lt_of_obj hm1) hb2 (h.row.ne hm1 fun cur e => by simp at e)).trans hm1, hr1⟩, ho.vt.frame hz (fun n hn hv => hk n hn (fun e => h.dis n (by rw [e]; exact h.mb) hv) (fun e => h.dis n (h.ml n e) hv)) fun _ h => h⟩
  · exact (List.nodup_cons.1 h.nd1).2
  · exact (List.nodup_cons.1 h.nd2).2
end Go.Proofs.Ytfejhekoijemdaa
namespace Go.Proofs.Ytfejhekoijemdaa
open Go.RowKit

theorem step39 {ops : Array Oper} {o : Oper} {a : Act} {w : World} {Q : Exit → Act → World → Prop} {K : Act → World → Prop} {Z : Prop} (hgd : o.guard = none) (s x : Operand) (ho : o.op = .call { callee := .builtin .append, args := #[s, x], argTypes := #[39, 39] })
    (base : Nat) (v : Value) (xs : List EndM) (y : EndM) (hs : a.eval s = v) (hown : OwnS w base 43 3 endL v xs) (g : Nat) (hx : a.eval x = .slice (some ⟨g, 0, none⟩) 1 1) (hg : obj w g = some (.cells (endL y).toArray 43 (0, 0)))
    (hlen : xs.length ≤ 1048576) (hbase : base ≤ w.heap.size)
    (h : ∀ v' w', OwnS w' base 43 3 endL v' (xs ++ [y]) → Below base w w' → (∀ k, k < w.heap.size → v.ownBlock ≠ some k → obj w' k = obj w k) → K (a.put o.dst v') w') : if Region.wanted o (yielded ops a.tmps) = true then Oper.wp Try.prog o a w K Q else Z := by
  obtain ⟨i0, hi, hz0, hz1, hz2⟩ := info_parts info43
  exact step_pushAll Try.underlying39 hi hz0 hz1 hz2 (by simp [Value.cells]) (by decide) endL_length endL_one hgd s x ho base v xs [y] hs hown _ hx (SlIn.one (E := 43) (fr := (0, 0)) endL_length y hg) (by simp; omega) (by decide) hbase h
def lenAt (w : World) (b : Nat) : Nat := match w.cell? ⟨b, 3, none⟩ with | some (.slice _ n _) => n | _ => 0
theorem SetW.lenAt {w : World} {M V : Nat → Prop} {b : Nat} {lv : Value} {ps : List (Nat × Nat)} {S : SetM} (h : SetW w M V b lv ps S) : lenAt w b = S.l.length := by
  have c3 : w.cell? ⟨b, 3, none⟩ = some lv := cell_at h.box 3
  obtain ⟨la, lc, rfl, _⟩ := h.row.slIn
  unfold Ytfejhekoijemdaa.lenAt
  rw [c3]
  exact h.len
set_option maxRecDepth 100000 in
set_option maxHeartbeats 4000000 in
/-- (*Set).Done -/
theorem doneS_any (w : World) (M V : Nat → Prop) (b : Nat) (lv : Value) (ps : List (Nat × Nat)) (S : SetM) (h : SetW w M V b lv ps S) (hok : SetOK S) (hlen : S.l.length ≤ 1048576) :
    Calls Try.prog 16 #[.pointer (some ⟨b, 0, none⟩)] w fun e w' => ∃ v es lv' ps', e = .returned v ∧ OwnS w' w.heap.size 43 3 endL v es ∧ SetW w' M V b lv' ps' (dropS S (doneN S)) ∧ EndsAt w' V es (S.l.take (doneN S)) ∧ Keeps M w w' := by
  have HW := Lib.hid h
  have HO := Lib.hid hok
  have hdl := doneN_le S
  have HMW := Lib.hid (fun n (hn : M n) => h.mlt n hn)
  have HVW := Lib.hid (fun n (hn : V n) => h.vlt n hn)
  clear h hok
  go_enter Try.func16, Try.ntmps16
  go_wp2_with fail
  go_loopw [3, 4] (fun v3 v4 wr => ∃ (k : Nat) (lvk : Value) (pk : List (Nat × Nat)) (es : List EndM), k ≤ doneN S ∧ Hid (SetW wr M V b lvk pk (dropS S k)) ∧ Hid (OwnS wr w.heap.size 43 3 endL v3 es) ∧ Hid (EndsAt wr V es (S.l.take k)) ∧ Hid (Keeps M w wr)) (fun _ _ wr => lenAt wr b)
  case atStart => exact ⟨0, lv, ps, [], Nat.zero_le _, Lib.hid (by unfold dropS; exact HW.out), Lib.hid (OwnS.nil _ _ _ _ _), Lib.hid ⟨rfl, fun i e o h => by simp at h⟩, Lib.hid (Keeps.refl _ _)⟩
  case round =>
    obtain ⟨k, lvk, pk, es, hk, HS, HE, HR, HK⟩ := hrel
    have HN := Lib.hid (none_no wr M V b lvk pk (dropS S k) HS.out HO.out.p0)
    have c3 : wr.cell? ⟨b, 3, none⟩ = some lvk := cell_at HS.out.box 3
    have f3 := frozen_at HS.out.box 3
    have hbl := HS.out.lt
    have hzk := HK.out.size
    cases hd : S.l.drop k with
    | nil =>
      have hkd : k = doneN S := by
        have := congrArg List.length hd
        simp at this; omega
      have hpk : pk.length = 0 := by rw [HS.out.len]; unfold dropS; simp [hd]
      obtain ⟨la, lc, rfl, _⟩ := HS.out.row.slIn
      have c30 : wr.cell? ⟨b, 3, none⟩ = some (.slice la 0 lc) := by rw [hpk] at c3; exact c3
      have FIN : Hid (SetW wr M V b (.slice la 0 lc) pk (dropS S (doneN S)) ∧ EndsAt wr V es (S.l.take (doneN S))) := Lib.hid (by rw [← hkd]; rw [hpk] at HS; exact ⟨HS.out, HR.out⟩)
      clear c3 f3 hpk hd hkd hdl hk hlen
      go_wp2_with fail
      refine HN.out.mono ?_
      rintro e wr ⟨rfl, rfl⟩
      go_wp2
      go_ret
      exact ⟨_, es, _, pk, rfl, HE.out, FIN.out.1, FIN.out.2, HK.out⟩
    | cons o r =>
      have hS' : (dropS S k).l = o :: r := hd
      have hoo : OneOK o := HO.out.one o (List.mem_of_mem_drop (i := k) (by rw [hd]; simp))
      have hpl := HS.out.len
      rw [hS'] at hpl
      match pk, hpl with
      | [], hpl => simp at hpl
      | p :: pr, hpl =>
        have HD := Lib.hid (done_any wr M V b lvk (p :: pr) (dropS S k) HS.out 0 p o rfl (by rw [hS']; rfl) hoo)
        have hde : isDone (dropS S k) o = isDone S o := rfl
        rw [hde] at HD
        obtain ⟨d1, d2⟩ := doneN_at hk hd
        obtain ⟨la, lc, rfl, g1, g2, g3⟩ := HS.out.row.slIn
        obtain ⟨bb, off, e, hbb, hrow⟩ := g3 (by simp)
        subst e
        have hs1 := hrow 0 (by simp)
        have c1 : wr.cell? ⟨bb, off, none⟩ = some (.pointer (some ⟨p.1, 0, none⟩)) := by
          have := subOf_cell hs1 (j := 0) (by decide)
          simpa [ptrL, ptrV] using this
        unfold maxLen at g2
        simp only [List.length_cons] at c3 g1
        have hrl : pr.length ≤ 1048576 := by simp at hpl; have := congrArg List.length hd; simp at this; omega
        clear hrow hs1 g3 hde
        cases hdd : isDone S o with
        | false =>
          have hkd := d2 hdd
          have FIN : Hid (SetW wr M V b (.slice (some ⟨bb, off, none⟩) (p :: pr).length lc) (p :: pr) (dropS S (doneN S)) ∧ EndsAt wr V es (S.l.take (doneN S))) := Lib.hid (by rw [← hkd]; exact ⟨HS.out, HR.out⟩)
          rw [hdd] at HD
          clear d1 d2 hdd hkd hk hd hS' hoo hpl hdl hlen f3
          go_wp2_with fail
          refine HN.out.mono ?_
          rintro e wr ⟨rfl, rfl⟩
          go_wp2_with fail
          refine HD.out.mono ?_
          rintro e w1 ⟨rfl, b1⟩
          have B1 := Lib.hid b1
          clear b1
          go_wp2
          go_ret
          exact ⟨_, es, _, _, rfl, HE.out.below B1.out, FIN.out.1.below B1.out, FIN.out.2.frame B1.out.size (fun n hn _ => obj_below B1.out hn) (fun _ h => h), HK.out.trans (Keeps.of_below B1.out)⟩
        | true =>
          have hkd := d1 hdd
          rw [hdd] at HD
          clear d1 d2 hdd f3
          go_wp2_with fail
          refine HN.out.mono ?_
          rintro e wr ⟨rfl, rfl⟩
          go_wp2_with fail
          refine HD.out.mono ?_
          rintro e w1 ⟨rfl, b1⟩
          have S1 := Lib.hid (HS.out.below b1)
          obtain ⟨vv, h1⟩ := S1.out.one 0 p o rfl (by rw [hS']; rfl)
          obtain ⟨va, vc, e, _⟩ := h1.vt.1
          generalize hvn : o.votes.length = vn at e
          subst e
          clear hvn
          have q0 : w1.cell? ⟨p.1, 0, none⟩ = some (.int .i64 o.id) := cell_at h1.at_ 0
          have q1 : w1.cell? ⟨p.1, 1, none⟩ = some (.int .i64 o.slots) := cell_at h1.at_ 1
          have q4 : w1.cell? ⟨p.1, 4, none⟩ = some (.slice va vn vc) := cell_at h1.at_ 4
          have c31 : w1.cell? ⟨b, 3, none⟩ = some (.slice (some ⟨bb, off, none⟩) (pr.length + 1) lc) := cell_at S1.out.box 3
          have c11 : w1.cell? ⟨bb, off, none⟩ = some (.pointer (some ⟨p.1, 0, none⟩)) := (World.cell?_of_block (w := wr) (a := ⟨bb, off, none⟩) (obj_below b1 hbb)).trans c1
          have hz1 := b1.size
          have B1 := Lib.hid b1
          have H1 := Lib.hid h1
          have HE1 := Lib.hid (HE.out.below b1)
          have hel : es.length ≤ 1048576 := by have := HR.out.1; simp at this; omega
          clear c1 c3 b1 h1 HD HN HE
          go_wp2_with fail
          have hpl1 := lt_of_obj H1.out.at_
          have qa : ((w1.alloc (.cells #[.int .i64 o.id, .slice va vn vc, .int .i64 o.slots] 43)).drew).cell? ⟨p.1, 0, none⟩ = some (.int .i64 o.id) ∧ ((w1.alloc (.cells #[.int .i64 o.id, .slice va vn vc, .int .i64 o.slots] 43)).drew).cell? ⟨p.1, 1, none⟩ = some (.int .i64 o.slots) ∧ ((w1.alloc (.cells #[.int .i64 o.id, .slice va vn vc, .int .i64 o.slots] 43)).drew).cell? ⟨p.1, 4, none⟩ = some (.slice va vn vc) := by
            have e : obj ((w1.alloc (.cells #[.int .i64 o.id, .slice va vn vc, .int .i64 o.slots] 43)).drew) p.1 = obj w1 p.1 := obj_alloc_past w1 _ _ hpl1
            exact ⟨(World.cell?_of_block (w := w1) (a := ⟨p.1, 0, none⟩) e).trans q0, (World.cell?_of_block (w := w1) (a := ⟨p.1, 1, none⟩) e).trans q1, (World.cell?_of_block (w := w1) (a := ⟨p.1, 4, none⟩) e).trans q4⟩
          have oo : obj ((w1.alloc (.cells #[.int .i64 o.id, .slice va vn vc, .int .i64 o.slots] 43)).drew) w1.heap.size = some (.cells (endL ⟨o.id, va, vn, vc, o.slots⟩).toArray 43 (0, 0)) := obj_alloc_at w1 _ _ rfl
          have hE2 : OwnS ((w1.alloc (.cells #[.int .i64 o.id, .slice va vn vc, .int .i64 o.slots] 43)).drew) w.heap.size 43 3 endL u3 es := HE1.out.alloc _
          have hu : ∀ n, u3.ownBlock = some n → w.heap.size ≤ n := fun n hn => (HE1.out.1.lt n hn).1
          have hup : u3.ownBlock ≠ some p.1 := fun e => by have h1 := hu _ e; have h3 := HMW.out _ (S1.out.mp p List.mem_cons_self).1; omega
          have SH : ∀ w5 : World, (∀ k, k < ((w1.alloc (.cells #[.int .i64 o.id, .slice va vn vc, .int .i64 o.slots] 43)).drew).heap.size → u3.ownBlock ≠ some k → obj w5 k = obj ((w1.alloc (.cells #[.int .i64 o.id, .slice va vn vc, .int .i64 o.slots] 43)).drew) k) → w5.cell? ⟨p.1, 0, none⟩ = some (.int .i64 o.id) ∧ w5.cell? ⟨p.1, 1, none⟩ = some (.int .i64 o.slots) ∧ w5.cell? ⟨p.1, 4, none⟩ = some (.slice va vn vc) := fun w5 g5 => by
            have e : obj w5 p.1 = obj w1 p.1 := (g5 p.1 (by simp; omega) hup).trans (obj_alloc_past w1 _ _ hpl1)
            exact ⟨(World.cell?_of_block (w := w1) (a := ⟨p.1, 0, none⟩) e).trans q0, (World.cell?_of_block (w := w1) (a := ⟨p.1, 1, none⟩) e).trans q1, (World.cell?_of_block (w := w1) (a := ⟨p.1, 4, none⟩) e).trans q4⟩
          go_region_held3 (fun W => W.cell? ⟨p.1, 0, none⟩ = some (.int .i64 o.id) ∧ W.cell? ⟨p.1, 1, none⟩ = some (.int .i64 o.slots) ∧ W.cell? ⟨p.1, 4, none⟩ = some (.slice va vn vc))
            (first | exact ⟨q0, q1, q4⟩ | exact qa | assumption)
            (first
              | (refine step39 rfl (.tmp 32) (.tmp 46) rfl w.heap.size u3 es ⟨o.id, va, vn, vc, o.slots⟩ (by simp [Act.eval, Act.put]) hE2 w1.heap.size (by simp [Act.eval, Act.put]) oo hel (by simp; omega) ?_; intro v5 w5 r5 b5 g5; have s5 := SH w5 g5))
          have Z5 : w1.heap.size + 1 ≤ w5.heap.size := (by have := b5.size; simpa using this)
          have G5 : Hid (∀ k, k < w1.heap.size → u3.ownBlock ≠ some k → obj w5 k = obj w1 k) := Lib.hid (fun k hk hne => (g5 k (by simp; omega) hne).trans (obj_alloc_past w1 _ k hk))
          have BB5 : Hid (w5.os = w1.os ∧ w5.tape = w1.tape ∧ w5.output = w1.output) := Lib.hid ⟨b5.os, b5.tape, b5.output⟩
          have BW5 : Hid (Below w.heap.size w1 w5) := Lib.hid (((Below.refl w.heap.size w1).alloc (by omega) _).drew.trans b5)
          have S5 := Lib.hid (S1.out.frame (W := w5) (by omega) (fun n hn hmv => G5.out n hn (fun e => by have h1 := hu n e; rcases hmv with h2 | h2; (have h3 := HMW.out n h2; omega); (have h3 := HVW.out n h2; omega))))
          have R5 := Lib.hid r5; have c53 : w5.cell? ⟨b, 3, none⟩ = some (.slice (some ⟨bb, off, none⟩) (pr.length + 1) lc) := cell_at S5.out.box 3; have hb5 : b < w5.heap.size := S5.out.lt
          have HDl := Lib.hid (delete_any w5 _ p pr S5.out.row)
          clear g5 b5 r5 s5 SH hE2 oo qa
          have c53 : w5.cell? ⟨b, 3, none⟩ = some (.slice (some ⟨bb, off, none⟩) (pr.length + 1) lc) := cell_at S5.out.box 3
          go_wp2_with fail
          refine HDl.out.mono ?_
          rintro e w6 ⟨oa6, cap6, rfl, r6, q6, k6⟩
          have nb := S5.out.row.ne S5.out.box (fun cur e => by simp at e)
          have o6 := (k6.block b hb5 nb).trans S5.out.box
          have c63 : w6.cell? ⟨b, 3, none⟩ = some (.slice (some ⟨bb, off, none⟩) (pr.length + 1) lc) := cell_at o6 3
          have f63 := frozen_at o6 3
          have hz6 := k6.size
          have hb6 : b < w6.heap.size := by omega
          have O6 := Lib.hid o6
          have K6 := Lib.hid k6
          have R6 := Lib.hid r6
          have Q6 := Lib.hid q6
          have NB := Lib.hid nb
          clear o6 k6 r6 q6 c53 HDl
          go_wp2_with fail
          have hWb : obj (w6.setCell ⟨b, 3, none⟩ (.slice oa6 pr.length cap6)) b = some (.cells #[.int .i64 S.pref, .int .i64 S.conf, .int .i64 S.last, .slice oa6 pr.length cap6] 78 (0, 0)) := by
            rw [obj_setCell_at _ O6.out]; rfl
          have hoth : ∀ n, n < w5.heap.size → n ≠ b → (Value.slice (some ⟨bb, off, none⟩) (p :: pr).length lc).ownBlock ≠ some n → obj (w6.setCell ⟨b, 3, none⟩ (.slice oa6 pr.length cap6)) n = obj w5 n := fun n hn h1 h2 =>
            (obj_setCell_ne _ _ _ _ h1).trans (K6.out.block n hn h2)
          have hdk : (dropS S k).l = o :: (dropS S (k + 1)).l := by
            unfold dropS; simp only; rw [hd, ← List.drop_drop, hd]; rfl
          have hpop := S5.out.pop (W := w6.setCell ⟨b, 3, none⟩ (.slice oa6 pr.length cap6)) (S' := dropS S (k + 1)) hdk rfl rfl rfl hWb (R6.out.frame fun g hg => obj_setCell_ne _ _ _ _ (fun e => NB.out (by rw [← Q6.out, hg, e]))) (by simp; omega) hoth Q6.out
          have hML : ∀ n, M n → n < w.heap.size := HMW.out
          have hRW : OwnS (w6.setCell ⟨b, 3, none⟩ (.slice oa6 pr.length cap6)) w.heap.size 43 3 endL v5 (es ++ [⟨o.id, va, vn, vc, o.slots⟩]) := R5.out.keeps fun g hg => by
            have h1 := R5.out.1.lt g hg
            exact hoth g h1.2 (fun e => by have := hML b S5.out.mb; omega) (fun e => by have := hML g (S5.out.ml g e); omega)
          have hVV : ∀ n, n < w1.heap.size → V n → obj (w6.setCell ⟨b, 3, none⟩ (.slice oa6 pr.length cap6)) n = obj w1 n := fun n hn hv =>
            (hoth n (by omega) (fun e => S5.out.dis n (by rw [e]; exact S5.out.mb) hv) (fun e => S5.out.dis n (S5.out.ml n e) hv)).trans (G5.out n hn (fun e => by have h1 := hu n e; have h3 := HVW.out n hv; omega))
          have htk : S.l.take (k + 1) = S.l.take k ++ [o] := by
            have h1 : S.l[k]? = some o := by
              have := congrArg (fun l => l[0]?) hd
              simpa using this
            rw [List.take_add_one, h1]; rfl
          have hends : EndsAt (w6.setCell ⟨b, 3, none⟩ (.slice oa6 pr.length cap6)) V (es ++ [⟨o.id, va, vn, vc, o.slots⟩]) (S.l.take (k + 1)) := by
            rw [htk]
            have h1 : EndsAt w1 V es (S.l.take k) := HR.out.frame B1.out.size (fun n hn _ => obj_below B1.out hn) (fun _ h => h)
            refine (h1.snoc (e := ⟨o.id, va, vn, vc, o.slots⟩) ⟨rfl, rfl, ?_⟩).frame (by simp; omega) hVV (fun _ h => h)
            exact H1.out.vt
          have hkeep : Keeps M w (w6.setCell ⟨b, 3, none⟩ (.slice oa6 pr.length cap6)) := by
            have k1 := HK.out.trans (Keeps.of_below (F := M) B1.out)
            have k6 := K6.out
            refine ⟨k6.os.trans (BB5.out.1.trans k1.os), k6.tape.trans (BB5.out.2.1.trans k1.tape), k6.output.trans (BB5.out.2.2.trans k1.output), by simp; omega, fun n hn hf => ?_⟩
            refine (hoth n (by omega) (fun e => hf (by rw [e]; exact S5.out.mb)) (fun e => hf (S5.out.ml n e))).trans ?_
            exact (G5.out n (by omega) (fun e => by have h1 := hu n e; omega)).trans (k1.block n hn hf)
          have hla : lenAt (w6.setCell ⟨b, 3, none⟩ (.slice oa6 pr.length cap6)) b < lenAt wr b := by
            rw [hpop.lenAt, HS.out.lenAt, hdk]; simp
          exact ⟨⟨k + 1, _, pr, _, hkd, Lib.hid hpop, Lib.hid hRW, Lib.hid hends, Lib.hid hkeep⟩, hla⟩
end Go.Proofs.Ytfejhekoijemdaa
