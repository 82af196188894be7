import Derived.Test.YtfejhekoijemdaaRpLM
import Derived.Test.YtfejhekoijemdaaSplM
namespace Go.Proofs.Ytfejhekoijemdaa
open Go.RowKit

/-! ### Clone, walked -/
theorem region_merge7 {P : Program} {c : Code} {Q : Exit → Act → World → Prop} {a : Act} {w : World} {α β γ δ ε ζ η : Type} (Good : α → β → γ → δ → ε → ζ → η → World → Prop)
    (h : ∃ fr : α → β → γ → δ → ε → ζ → η → Act, c.wp P (AtEnd fun a' w' => ∃ x y z t u r s, a' = fr x y z t u r s ∧ Good x y z t u r s w') a w ∧ ∀ x y z t u r s w', Good x y z t u r s w' → Q .normal (fr x y z t u r s) w') : c.wp P Q a w := by
  obtain ⟨fr, h1, h2⟩ := h
  refine Code.wp_mono ?_ h1
  intro e a' w' h
  cases e <;> first | exact h.elim | (obtain ⟨x, y, z, t, u, r, s, rfl, hg⟩ := h; exact h2 x y z t u r s w' hg)
theorem mapCloneE (w : World) (b : Nat) (es : Array MapEntry) (clock : Nat) (hb : obj w b = some (.map es clock)) :
    Calls Try.prog 46 #[.map (some b)] w fun e w' => ∃ mm, e = .returned (.map (some mm)) ∧ obj w' mm = some (.map es clock) ∧ w.heap.size ≤ mm ∧ Below w.heap.size w w' := by
  refine (mapClone w b es clock hb).mono ?_
  rintro e w' ⟨rfl, rfl⟩
  exact ⟨_, rfl, obj_alloc_at _ _ _ rfl, Nat.le_refl _, (Below.refl _ w).alloc (Nat.le_refl _) _⟩
theorem voteCloneE (w : World) (v : Value) (xs : List Vt) (h : SlIn w v 33 vtL xs) (hlen : xs.length ≤ 1048576) :
    Calls Try.prog 47 #[v] w fun e w' => ∃ oa cap, e = .returned (.slice oa xs.length cap) ∧ w'.ownsRow w.heap.size 58 33 (.slice oa xs.length cap) xs.length (xs.flatMap vtL) ∧ Below w.heap.size w w' := by
  refine (voteClone w v xs h hlen).mono ?_
  rintro e w' ⟨⟨v', rfl, r1⟩, r2⟩
  have : ∃ oa cap, v' = .slice oa xs.length cap := by
    rcases r1.2 with ⟨rfl, h0⟩ | ⟨g, cap, cur, rfl, _⟩
    · exact ⟨none, 0, by rw [h0]⟩
    · exact ⟨_, _, rfl⟩
  obtain ⟨oa, cap, rfl⟩ := this
  exact ⟨oa, cap, rfl, r1, r2⟩
theorem row_below {w W : World} {base E k n : Nat} {v : Value} {cs : List Value} (h : w.ownsRow base E k v n cs) (hk : ∀ g, v.ownBlock = some g → obj W g = obj w g) : W.ownsRow base E k v n cs := by
  refine ⟨h.1, ?_⟩
  rcases h.2 with h1 | ⟨g, cap, cur, rfl, h2, h3, h4⟩
  · exact .inl h1
  · exact .inr ⟨g, cap, cur, rfl, h2, (hk g rfl).trans h3, h4⟩
/-- what a round makes -/
structure CloG (B : Nat) (wr : World) (lvk : Value) (pk : List (Nat × Nat)) (o : OneM) (es : Array MapEntry) (clk : Nat) (W : World) (mm : Nat) (vv : Value) (pb : Nat) (nv : Value) : Prop where
  m : obj W mm = some (.map es clk)
  ml : wr.heap.size ≤ mm
  v : W.ownsRow wr.heap.size 58 33 vv o.votes.length (o.votes.flatMap vtL)
  p : obj W pb = some (.cells #[.int .i64 o.id, .int .i64 o.slots, .map (some mm), .int .i64 o.left, vv] 85 (0, 0))
  pl : wr.heap.size ≤ pb
  r : RowP W nv (pk ++ [(pb, mm)])
  q : nv.ownBlock = lvk.ownBlock ∨ ∃ q, nv.ownBlock = some q ∧ wr.heap.size ≤ q
  b : Below B wr W
  k : ∀ j, j < wr.heap.size → lvk.ownBlock ≠ some j → obj W j = obj wr j
theorem CloG.of {B : Nat} {wr Wx W : World} {lvk nv vv : Value} {pk : List (Nat × Nat)} {o : OneM} {es : Array MapEntry} {clk mm : Nat} {b2 : Obj} (hB : B ≤ wr.heap.size) (hl : RowP wr lvk pk) (hlb : ∀ g, lvk.ownBlock = some g → B ≤ g) (hb : Below wr.heap.size wr Wx) (hm : obj Wx mm = some (.map es clk)) (hml : wr.heap.size ≤ mm)
    (hv : Wx.ownsRow wr.heap.size 58 33 vv o.votes.length (o.votes.flatMap vtL)) (hr : RowP W nv (pk ++ [(Wx.heap.size, mm)])) (hg : ((Wx.alloc (.cells #[.int .i64 o.id, .int .i64 o.slots, .map (some mm), .int .i64 o.left, vv] 85)).alloc b2).grownBy W lvk.ownBlock)
    (hq : nv.ownBlock = lvk.ownBlock ∨ nv.ownBlock = some ((Wx.alloc (.cells #[.int .i64 o.id, .int .i64 o.slots, .map (some mm), .int .i64 o.left, vv] 85)).alloc b2).heap.size) : CloG B wr lvk pk o es clk W mm vv Wx.heap.size nv := by
  have hlo : ∀ g, lvk.ownBlock = some g → g < wr.heap.size := fun g hg => by
    obtain ⟨cur, hc⟩ := hl.blk hg
    exact lt_of_obj hc
  have zz : ((Wx.alloc (.cells #[.int .i64 o.id, .int .i64 o.slots, .map (some mm), .int .i64 o.left, vv] 85)).alloc b2).heap.size = Wx.heap.size + 2 := by simp
  have kx : ∀ j, j < Wx.heap.size → lvk.ownBlock ≠ some j → obj W j = obj Wx j := fun j hj hne => (hg.block j (by omega) (fun e => hne e.symm)).trans ((obj_alloc_past _ _ _ (by simp; omega)).trans (obj_alloc_past _ _ _ hj))
  have hi : ∀ j, wr.heap.size ≤ j → lvk.ownBlock ≠ some j := fun j hj e => by have := hlo j e; omega
  have hs := hb.size
  refine ⟨(kx mm (lt_of_obj hm) (hi _ hml)).trans hm, hml, row_below hv fun g e => ?_, ?_, hs, hr, ?_, ⟨hg.os.trans hb.os, hg.tape.trans hb.tape, hg.output.trans hb.output, by have := hg.size; omega, fun j hj => (kx j (by omega) (fun e => by have := hlb j e; omega)).trans (hb.block j (by omega))⟩, fun j hj hne => (kx j (by omega) hne).trans (hb.block j hj)⟩
  · have := hv.lt g e
    exact kx g this.2 (hi _ this.1)
  · exact (hg.block _ (by omega) (fun e => hi _ hs e.symm)).trans ((obj_alloc_past _ _ _ (by simp)).trans (obj_alloc_at _ _ _ rfl))
  · rcases hq with h | h
    · exact .inl h
    · exact .inr ⟨_, h, by omega⟩
def CloneR (w : World) (S : SetM) (e : Ending) (w' : World) : Prop := ∃ b' lv' ps', e = .returned (.pointer (some ⟨b', 0, none⟩)) ∧ SetW w' (cloM w.heap.size w') (cloV w.heap.size w') b' lv' ps' S ∧ Below w.heap.size w w'
def takeS (S : SetM) (k : Nat) : SetM := { S with l := S.l.take k }
set_option maxRecDepth 100000 in
set_option maxHeartbeats 4000000 in
theorem clone_any (w : World) (M V : Nat → Prop) (b : Nat) (lv : Value) (ps : List (Nat × Nat)) (S : SetM) (h : SetW w M V b lv ps S) (hok : SetOK S) (hlen : S.l.length ≤ 100000) :
    Calls Try.prog 27 #[.pointer (some ⟨b, 0, none⟩)] w (CloneR w S) := by
  have HW := Lib.hid h
  have HO := Lib.hid hok
  have HN := Lib.hid (none_no w M V b lv ps S h hok.p0)
  have c0 : w.cell? ⟨b, 0, none⟩ = some (.int .i64 S.pref) := cell_at h.box 0
  have c1 : w.cell? ⟨b, 1, none⟩ = some (.int .i64 S.conf) := cell_at h.box 1
  have c2 : w.cell? ⟨b, 2, none⟩ = some (.int .i64 S.last) := cell_at h.box 2
  have hbl := h.lt
  have hlp := h.len
  obtain ⟨la, lc, elv, g1, g2, g3⟩ := h.row.slIn
  have H3 := Lib.hid g3
  clear h hok g3
  go_enter Try.func27, Try.ntmps27
  go_wp2_with fail
  refine HN.out.mono ?_
  rintro e w1 ⟨rfl, rfl⟩
  clear HN
  go_wp2_with fail
  refine region_merge (fun W => obj W w1.heap.size = some (.cells #[.int .i64 S.pref, .int .i64 S.conf, .int .i64 S.last, .slice none 0 0] 78 (0, 0)) ∧ Below w1.heap.size w1 W) ?_
  apply Exists.intro
  apply And.intro
  case left =>
    go_region_law (first | fail)
    all_goals exact ⟨rfl, obj_alloc_at _ _ _ (by first | rfl | simp), by repeat (first | exact Below.refl _ _ | refine Below.drew ?_ | refine Below.alloc ?_ (Nat.le_refl _) _)⟩
  case right =>
  rintro w2 ⟨r1, r2⟩
  have S2 : Hid (SetW w2 (cloM w1.heap.size w2) (cloV w1.heap.size w2) w1.heap.size (.slice none 0 0) [] (takeS S 0)) := Lib.hid ⟨r1, ⟨rfl, .inl ⟨rfl, rfl⟩⟩, rfl, fun i p o h => by simp at h, List.Pairwise.nil, List.Pairwise.nil, ⟨Nat.le_refl _, lt_of_obj r1, fun cur e => by rw [r1] at e; simp at e⟩, fun g hg => by simp [Value.ownBlock] at hg, fun p hp => (by cases hp), fun n h1 h2 => (by obtain ⟨_, cur, h3⟩ := h2; exact h1.2.2 cur h3), fun n hn => hn.2.1, fun n hn => (by obtain ⟨_, cur, h3⟩ := hn; exact lt_of_obj h3)⟩
  have B2 := Lib.hid r2
  have c3 : w2.cell? ⟨b, 3, none⟩ = some (.slice la S.l.length lc) := by
    rw [← hlp, ← elv]
    exact cell_at ((obj_below r2 hbl).trans HW.out.box) 3
  have hbl2 : b < w2.heap.size := Nat.lt_of_lt_of_le hbl r2.size
  clear r1 r2 c0 c1 c2
  go_wp2_with fail
  go_loopw [27] (fun v27 wr => ∃ (k : Nat) (lvk : Value) (pk : List (Nat × Nat)), k ≤ S.l.length ∧ v27 = .int .i64 k ∧ Hid (SetW wr (cloM w1.heap.size wr) (cloV w1.heap.size wr) w1.heap.size lvk pk (takeS S k)) ∧ Hid (Below w1.heap.size w1 wr)) (fun i _ => S.l.length - (intOf i).toNat)
  case atStart => exact ⟨0, _, _, Nat.zero_le _, rfl, S2, B2⟩
  case round =>
    obtain ⟨k, lvk, pk, hk, rfl, HS, HB⟩ := hrel
    clear S2 B2 c3 hbl2
    by_cases hlt : k < S.l.length
    case neg =>
      obtain rfl : k = S.l.length := by omega
      have HS2 : Hid (SetW wr (cloM w1.heap.size wr) (cloV w1.heap.size wr) w1.heap.size lvk pk S) := Lib.hid (by
        have h9 := HS.out
        unfold takeS at h9
        rw [List.take_length] at h9
        exact h9)
      clear HS
      have hkk : ¬ (S.l.length : Int) < S.l.length := by omega
      go_wp2_with fail
      go_ret
      exact ⟨_, _, _, rfl, HS2.out, HB.out⟩
    obtain ⟨vv, hone⟩ := HW.out.one k (ps[k]'(by omega)) S.l[k] (List.getElem?_eq_getElem _) (List.getElem?_eq_getElem _)
    have hoo : OneOK S.l[k] := HO.out.one _ (List.getElem_mem hlt)
    obtain ⟨bb, off, rfl, hbb, hrow⟩ := H3.out (by omega)
    have cr : wr.cell? ⟨bb, off + k, none⟩ = some (.pointer (some ⟨(ps[k]'(by omega)).1, 0, none⟩)) := by
      have h7 := hrow k (by omega)
      rw [← obj_below HB.out hbb] at h7
      have h8 := subOf_cell h7 (j := 0) (by decide)
      simpa [ptrL, ptrV] using h8
    have htk : S.l.take (k + 1) = S.l.take k ++ [S.l[k]] := List.take_succ_eq_append_getElem hlt
    have HTK : Hid (takeS S (k + 1) = { takeS S k with l := (takeS S k).l ++ [S.l[k]] }) := Lib.hid (by unfold takeS; rw [htk])
    generalize ps[k]'(by omega) = p at *
    generalize S.l[k] = o at *
    obtain ⟨es, clk, hm1, hrep⟩ := hone.map
    obtain ⟨va, vc, ev, _, _⟩ := hone.vt.1
    have hvl := hoo.len
    have hz1 : w1.heap.size ≤ wr.heap.size := HB.out.size
    have hpl1 := lt_of_obj hone.at_
    have hnb := HS.out.box
    have HF : Hid (∀ W, Below wr.heap.size wr W → (W.cell? ⟨p.1, 0, none⟩ = some (.int .i64 o.id) ∧ W.cell? ⟨p.1, 1, none⟩ = some (.int .i64 o.slots) ∧ W.cell? ⟨p.1, 2, none⟩ = some (.map (some p.2)) ∧ W.cell? ⟨p.1, 3, none⟩ = some (.int .i64 o.left) ∧ W.cell? ⟨p.1, 4, none⟩ = some (.slice va o.votes.length vc)) ∧ obj W p.2 = some (.map es clk) ∧ SlIn W (.slice va o.votes.length vc) 33 vtL o.votes ∧ W.cell? ⟨w1.heap.size, 3, none⟩ = some lvk ∧ p.1 < W.heap.size ∧ w1.heap.size < W.heap.size ∧ RowP W lvk pk) := Lib.hid (fun W hb => by
      have e1 := (obj_below hb (Nat.lt_of_lt_of_le hpl1 hz1)).trans ((obj_below HB.out hpl1).trans hone.at_)
      rw [ev] at e1
      have e2 := (obj_below hb (Nat.lt_of_lt_of_le (lt_of_obj hm1) hz1)).trans ((obj_below HB.out (lt_of_obj hm1)).trans hm1)
      have e3 := (obj_below hb (lt_of_obj hnb)).trans hnb
      refine ⟨⟨cell_at e1 0, cell_at e1 1, cell_at e1 2, cell_at e1 3, cell_at e1 4⟩, e2, ?_, cell_at e3 3, lt_of_obj e1, lt_of_obj e3, HS.out.row.frame fun g hg => obj_below hb (HS.out.mlt g (HS.out.ml g hg))⟩
      rw [← ev]
      exact (hone.vt.1.below HB.out).below hb)
    have HREP : Hid (∀ W mm, obj W mm = some (.map es clk) → MapI W mm intV o.W) := Lib.hid (fun W mm h => ⟨es, clk, h, hrep⟩)
    obtain ⟨⟨q0, q1, q2, q3, q4⟩, qm, qv, qn, ql, qw, qr⟩ := HF.out wr (Below.refl _ _)
    obtain ⟨lka, lkc, elk, _⟩ := HS.out.row.slIn
    have hbw : bb < wr.heap.size := Nat.lt_of_lt_of_le hbb hz1
    have hpk : pk.length = k := by have := HS.out.len; unfold takeS at this; simp at this; omega
    rw [hpk] at elk
    subst elk
    have NW : Hid ((Value.slice lka k lkc).ownBlock ≠ some w1.heap.size) := Lib.hid (HS.out.row.ne HS.out.box (fun cur e => by simp at e))
    have HLB : Hid (∀ g, (Value.slice lka k lkc).ownBlock = some g → w1.heap.size ≤ g) := Lib.hid (fun g hg => (HS.out.ml g hg).1)
    have PL : Hid (∀ y : Nat × Nat, (pk ++ [y]).length = k + 1) := Lib.hid (fun y => by simp [hpk])
    have qw0 : w1.heap.size < wr.heap.size := qw
    have OBP : Hid (obj wr p.1 = some (.cells #[.int .i64 o.id, .int .i64 o.slots, .map (some p.2), .int .i64 o.left, .slice va o.votes.length vc] 85 (0, 0))) := Lib.hid (by rw [← ev]; exact (obj_below HB.out hpl1).trans hone.at_)
    have NP : Hid ((Value.slice lka k lkc).ownBlock ≠ some p.1) := Lib.hid (HS.out.row.ne OBP.out (fun cur e => by simp at e))
    clear hrow hone hrep ev hm1 hnb qm qv qr
    go_wp2_with fail
    refine region_merge7 (fun (mm : Nat) (va' : Option Addr) (vc' : Nat) (pb : Nat) (_ : Nat) (la' : Option Addr) (lc' : Nat) W => ∃ W6, CloG w1.heap.size wr (.slice lka k lkc) pk o es clk W6 mm (.slice va' o.votes.length vc') pb (.slice la' (k + 1) lc') ∧ W = W6.setCell ⟨w1.heap.size, 3, none⟩ (.slice la' (k + 1) lc')) ?_
    apply Exists.intro
    apply And.intro
    case left =>
      refine wp_region_last' 33 (S := (fun W => (W.cell? ⟨p.1, 0, none⟩ = some (.int .i64 o.id) ∧ W.cell? ⟨p.1, 1, none⟩ = some (.int .i64 o.slots) ∧ W.cell? ⟨p.1, 2, none⟩ = some (.map (some p.2)) ∧ W.cell? ⟨p.1, 3, none⟩ = some (.int .i64 o.left) ∧ W.cell? ⟨p.1, 4, none⟩ = some (.slice va o.votes.length vc)) ∧ W.cell? ⟨w1.heap.size, 3, none⟩ = some (.slice lka k lkc))) (by kernel_rfl) rfl (by rfl) (by kernel_rfl) (by kernel_rfl) ⟨⟨q0, q1, q2, q3, q4⟩, qn⟩ ?_
      (
        intro hHeld
        refine wpAnyH_take (i := 0) (v := ?_) rfl (by kernel_rfl) (by kernel_rfl) (by kernel_rfl) (fun _ _ _ h => h) (Or.inl ⟨by rfl, ?_⟩) (by assumption) ?_
        rotate_left
        · (intro w hSw; (try dsimp only at hSw); go_simp; try with_reducible rfl)
        (try simp only [Act.put, List.setIfInBounds_toArray, List.set_cons_zero, List.set_cons_succ])
        refine wpAnyH_take (i := 1) (v := ?_) rfl (by kernel_rfl) (by kernel_rfl) (by kernel_rfl) (fun _ _ _ h => h) (Or.inl ⟨by rfl, ?_⟩) (by assumption) ?_
        rotate_left
        · (intro w hSw; (try dsimp only at hSw); go_simp; try with_reducible rfl)
        (try simp only [Act.put, List.setIfInBounds_toArray, List.set_cons_zero, List.set_cons_succ])
        refine wpAnyH_take (i := 2) (v := ?_) rfl (by kernel_rfl) (by kernel_rfl) (by kernel_rfl) (fun _ _ _ h => h) (Or.inl ⟨by rfl, ?_⟩) (by assumption) ?_
        rotate_left
        · (intro w hSw; (try dsimp only at hSw); go_simp; try with_reducible rfl)
        (try simp only [Act.put, List.setIfInBounds_toArray, List.set_cons_zero, List.set_cons_succ])
        refine wpAnyH_take (i := 3) (v := ?_) rfl (by kernel_rfl) (by kernel_rfl) (by kernel_rfl) (fun _ _ _ h => h) (Or.inl ⟨by rfl, ?_⟩) (by assumption) ?_
        rotate_left
        · (intro w hSw; (try dsimp only at hSw); go_simp; try with_reducible rfl)
        (try simp only [Act.put, List.setIfInBounds_toArray, List.set_cons_zero, List.set_cons_succ])
        refine wpAnyH_take (i := 4) (v := ?_) rfl (by kernel_rfl) (by kernel_rfl) (by kernel_rfl) (fun _ _ _ h => h) (Or.inl ⟨by rfl, ?_⟩) (by assumption) ?_
        rotate_left
        · (intro w hSw; (try dsimp only at hSw); go_simp; try with_reducible rfl)
        (try simp only [Act.put, List.setIfInBounds_toArray, List.set_cons_zero, List.set_cons_succ])
        refine wpAnyH_take (i := 5) (v := ?_) rfl (by kernel_rfl) (by kernel_rfl) (by kernel_rfl) (fun _ _ _ h => h) (Or.inl ⟨by rfl, ?_⟩) (by assumption) ?_
        rotate_left
        · (intro w hSw; (try dsimp only at hSw); go_simp; try with_reducible rfl)
        (try simp only [Act.put, List.setIfInBounds_toArray, List.set_cons_zero, List.set_cons_succ])
        refine wpAnyH_take (i := 6) (v := ?_) rfl (by kernel_rfl) (by kernel_rfl) (by kernel_rfl) (fun _ _ _ h => h) (Or.inl ⟨by rfl, ?_⟩) (by assumption) ?_
        rotate_left
        · (intro w hSw; (try dsimp only at hSw); go_simp; try with_reducible rfl)
        (try simp only [Act.put, List.setIfInBounds_toArray, List.set_cons_zero, List.set_cons_succ])
        refine wpAnyH_take (i := 7) (v := ?_) rfl (by kernel_rfl) (by kernel_rfl) (by kernel_rfl) (fun _ _ _ h => h) (Or.inl ⟨by rfl, ?_⟩) (by assumption) ?_
        rotate_left
        · (intro w hSw; (try dsimp only at hSw); go_simp; try with_reducible rfl)
        (try simp only [Act.put, List.setIfInBounds_toArray, List.set_cons_zero, List.set_cons_succ])
        refine wpAnyH_take (i := 8) (v := ?_) rfl (by kernel_rfl) (by kernel_rfl) (by kernel_rfl) (fun _ _ _ h => h) (Or.inl ⟨by rfl, ?_⟩) (by assumption) ?_
        rotate_left
        · (intro w hSw; (try dsimp only at hSw); go_simp; try with_reducible rfl)
        (try simp only [Act.put, List.setIfInBounds_toArray, List.set_cons_zero, List.set_cons_succ])
        refine wpAnyH_take (i := 9) (v := ?_) rfl (by kernel_rfl) (by kernel_rfl) (by kernel_rfl) (fun _ _ _ h => h) (Or.inl ⟨by rfl, ?_⟩) (by assumption) ?_
        rotate_left
        · (intro w hSw; (try dsimp only at hSw); go_simp; try with_reducible rfl)
        (try simp only [Act.put, List.setIfInBounds_toArray, List.set_cons_zero, List.set_cons_succ])
        refine wpAnyH_take (i := 10) (v := ?_) rfl (by kernel_rfl) (by kernel_rfl) (by kernel_rfl) (fun _ _ _ h => h) (Or.inl ⟨by rfl, ?_⟩) (by assumption) ?_
        rotate_left
        · (intro w hSw; (try dsimp only at hSw); go_simp; try with_reducible rfl)
        (try simp only [Act.put, List.setIfInBounds_toArray, List.set_cons_zero, List.set_cons_succ])
        refine wpAnyH_take (i := 11) (v := ?_) rfl (by kernel_rfl) (by kernel_rfl) (by kernel_rfl) (fun _ _ _ h => h) (Or.inl ⟨by rfl, ?_⟩) (by assumption) ?_
        rotate_left
        · (intro w hSw; (try dsimp only at hSw); go_simp; try with_reducible rfl)
        (try simp only [Act.put, List.setIfInBounds_toArray, List.set_cons_zero, List.set_cons_succ])
        refine wpAnyH_take (i := 12) (v := ?_) rfl (by kernel_rfl) (by kernel_rfl) (by kernel_rfl) (fun _ _ _ h => h) (Or.inl ⟨by rfl, ?_⟩) (by assumption) ?_
        rotate_left
        · (intro w hSw; (try dsimp only at hSw); go_simp; try with_reducible rfl)
        (try simp only [Act.put, List.setIfInBounds_toArray, List.set_cons_zero, List.set_cons_succ])
        refine wpAnyH_take (i := 13) (v := ?_) rfl (by kernel_rfl) (by kernel_rfl) (by kernel_rfl) (fun _ _ _ h => h) (Or.inl ⟨by rfl, ?_⟩) (by assumption) ?_
        rotate_left
        · (intro w hSw; (try dsimp only at hSw); go_simp; try with_reducible rfl)
        (try simp only [Act.put, List.setIfInBounds_toArray, List.set_cons_zero, List.set_cons_succ])
        refine wpAnyH_take (i := 14) (v := ?_) rfl (by kernel_rfl) (by kernel_rfl) (by kernel_rfl) (fun _ _ _ h => h) (Or.inl ⟨by rfl, ?_⟩) (by assumption) ?_
        rotate_left
        · (intro w hSw; (try dsimp only at hSw); go_simp; try with_reducible rfl)
        (try simp only [Act.put, List.setIfInBounds_toArray, List.set_cons_zero, List.set_cons_succ])
        refine wpAnyH_take (i := 15) (v := ?_) rfl (by kernel_rfl) (by kernel_rfl) (by kernel_rfl) (fun _ _ _ h => h) (Or.inl ⟨by rfl, ?_⟩) (by assumption) ?_
        rotate_left
        · (intro w hSw; (try dsimp only at hSw); go_simp; try with_reducible rfl)
        (try simp only [Act.put, List.setIfInBounds_toArray, List.set_cons_zero, List.set_cons_succ])
        refine wpAnyH_take (i := 16) (v := ?_) rfl (by kernel_rfl) (by kernel_rfl) (by kernel_rfl) (fun _ _ _ h => h) (Or.inl ⟨by rfl, ?_⟩) (by assumption) ?_
        rotate_left
        · (intro w hSw; (try dsimp only at hSw); go_simp; try with_reducible rfl)
        (try simp only [Act.put, List.setIfInBounds_toArray, List.set_cons_zero, List.set_cons_succ])
        refine wpAnyH_take (i := 18) (v := ?_) rfl (by kernel_rfl) (by kernel_rfl) (by kernel_rfl) (fun _ _ _ h => h) (Or.inl ⟨by rfl, ?_⟩) (by assumption) ?_
        rotate_left
        · (intro w hSw; (try dsimp only at hSw); go_simp; try with_reducible rfl)
        (try simp only [Act.put, List.setIfInBounds_toArray, List.set_cons_zero, List.set_cons_succ])
        refine wpAnyH_take (i := 19) (v := ?_) rfl (by kernel_rfl) (by kernel_rfl) (by kernel_rfl) (fun _ _ _ h => h) (Or.inl ⟨by rfl, ?_⟩) (by assumption) ?_
        rotate_left
        · (intro w hSw; (try dsimp only at hSw); go_simp; try with_reducible rfl)
        (try simp only [Act.put, List.setIfInBounds_toArray, List.set_cons_zero, List.set_cons_succ])
        refine wpAnyH_take (i := 20) (v := ?_) rfl (by kernel_rfl) (by kernel_rfl) (by kernel_rfl) (fun _ _ _ h => h) (Or.inl ⟨by rfl, ?_⟩) (by assumption) ?_
        rotate_left
        · (intro w hSw; (try dsimp only at hSw); go_simp; try with_reducible rfl)
        (try simp only [Act.put, List.setIfInBounds_toArray, List.set_cons_zero, List.set_cons_succ])
        refine wpAnyH_take (i := 21) (v := ?_) rfl (by kernel_rfl) (by kernel_rfl) (by kernel_rfl) (fun _ _ _ h => h) (Or.inl ⟨by rfl, ?_⟩) (by assumption) ?_
        rotate_left
        · (intro w hSw; (try dsimp only at hSw); go_simp; try with_reducible rfl)
        (try simp only [Act.put, List.setIfInBounds_toArray, List.set_cons_zero, List.set_cons_succ])
        refine wpAnyH_take (i := 22) (v := ?_) rfl (by kernel_rfl) (by kernel_rfl) (by kernel_rfl) (fun _ _ _ h => h) (Or.inl ⟨by rfl, ?_⟩) (by assumption) ?_
        rotate_left
        · (intro w hSw; (try dsimp only at hSw); go_simp; try with_reducible rfl)
        (try simp only [Act.put, List.setIfInBounds_toArray, List.set_cons_zero, List.set_cons_succ])
        refine wpAnyH_take (i := 23) (v := ?_) rfl (by kernel_rfl) (by kernel_rfl) (by kernel_rfl) (fun _ _ _ h => h) (Or.inl ⟨by rfl, ?_⟩) (by assumption) ?_
        rotate_left
        · (intro w hSw; (try dsimp only at hSw); go_simp; try with_reducible rfl)
        (try simp only [Act.put, List.setIfInBounds_toArray, List.set_cons_zero, List.set_cons_succ])
        refine wpAnyH_take (i := 24) (v := ?_) rfl (by kernel_rfl) (by kernel_rfl) (by kernel_rfl) (fun _ _ _ h => h) (Or.inl ⟨by rfl, ?_⟩) (by assumption) ?_
        rotate_left
        · (intro w hSw; (try dsimp only at hSw); go_simp; try with_reducible rfl)
        (try simp only [Act.put, List.setIfInBounds_toArray, List.set_cons_zero, List.set_cons_succ])
        refine wpAnyH_take (i := 25) (v := ?_) rfl (by kernel_rfl) (by kernel_rfl) (by kernel_rfl) (fun _ _ _ h => h) (Or.inl ⟨by rfl, ?_⟩) (by assumption) ?_
        rotate_left
        · (intro w hSw; (try dsimp only at hSw); go_simp; try with_reducible rfl)
        (try simp only [Act.put, List.setIfInBounds_toArray, List.set_cons_zero, List.set_cons_succ])
        (
          refine wpAnyH_ready (rs := [17]) (by kernel_rfl) (by simp) ?_
          refine AllReadyH.cons (o := { dst := some 48, op := .call { callee := .value (.func 46), args := #[.tmp 47], argTypes := #[31] }, type := 31, pos := _, after := _, guard := none }) rfl (fun K hK => ?_) AllReadyH.nil
          go_simp
          go_at_call 46
          refine (mapCloneE _ p.2 es clk ((HF.out _ ((Below.refl _ wr).drew)).2.1)).mono ?_
          rintro e Wx ⟨mm, rfl, r1, r2, r3⟩
          have ML : Hid (wr.heap.size ≤ mm) := Lib.hid r2
          have BX : Hid (Below wr.heap.size wr Wx) := Lib.hid ((Below.refl _ wr).drew.trans r3)
          have MM := Lib.hid r1
          obtain ⟨⟨q0, q1, q2, q3, q4⟩, qm, qv, qn, ql, qw, qr⟩ := HF.out _ BX.out
          refine hK.out _ _ ⟨⟨q0, q1, q2, q3, q4⟩, qn⟩ (fun hHeld => ?_)
          clear hK K
          refine wpAnyH_ready (rs := [26]) (by kernel_rfl) (by simp) ?_
          refine AllReadyH.cons (o := { dst := some 57, op := .call { callee := .value (.func 47), args := #[.tmp 56], argTypes := #[41] }, type := 41, pos := _, after := _, guard := none }) rfl (fun K hK => ?_) AllReadyH.nil
          go_simp
          go_at_call 47
          refine (voteCloneE _ (.slice va o.votes.length vc) o.votes ((HF.out _ (BX.out)).2.2.1) (by omega)).mono ?_
          rintro e Wx ⟨va', vc', rfl, r1, r3⟩
          have MM := Lib.hid ((obj_below r3 (lt_of_obj MM.out)).trans MM.out)
          have VV : Hid (Wx.ownsRow wr.heap.size 58 33 (.slice va' o.votes.length vc') o.votes.length (o.votes.flatMap vtL)) := Lib.hid (r1.mono BX.out.size)
          have BX : Hid (Below wr.heap.size wr Wx) := Lib.hid (BX.out.trans (r3.mono BX.out.size))
          obtain ⟨⟨q0, q1, q2, q3, q4⟩, qm, qv, qn, ql, qw, qr⟩ := HF.out _ BX.out
          refine hK.out _ _ ⟨⟨q0, q1, q2, q3, q4⟩, qn⟩ (fun hHeld => ?_)
          clear hK K
          refine wpAnyH_take (i := 27) (v := ?_) rfl (by kernel_rfl) (by kernel_rfl) (by kernel_rfl) (fun _ _ _ h => h) (Or.inl ⟨by rfl, ?_⟩) (by assumption) ?_
          rotate_left
          · (intro w hSw; (try dsimp only at hSw); go_simp; try with_reducible rfl)
          (try simp only [Act.put, List.setIfInBounds_toArray, List.set_cons_zero, List.set_cons_succ])
          refine wpAnyH_ready (rs := [28]) (by kernel_rfl) (by simp) ?_
          refine AllReadyH.cons (o := { dst := some 59, op := .box 85 (.tmp 58), type := _, pos := _, after := _, guard := none }) rfl (fun K hK => ?_) AllReadyH.nil
          go_simp
          have BX0 := BX
          have BX := Lib.hid (BX.out.alloc BX.out.size (.cells #[.int .i64 o.id, .int .i64 o.slots, .map (some mm), .int .i64 o.left, .slice va' o.votes.length vc'] 85))
          obtain ⟨⟨q0, q1, q2, q3, q4⟩, qm, qv, qn, ql, qw, qr⟩ := HF.out _ BX.out
          refine hK.out _ _ ⟨⟨q0, q1, q2, q3, q4⟩, qn⟩ (fun hHeld => ?_)
          clear hK K
          refine wpAnyH_ready (rs := [29]) (by kernel_rfl) (by simp) ?_
          refine AllReadyH.cons (o := { dst := some 60, op := _, type := _, pos := _, after := _, guard := none }) rfl (fun K hK => ?_) AllReadyH.nil
          go_simp
          have BX := Lib.hid (BX.out.alloc BX.out.size (.cells #[.pointer (some ⟨Wx.heap.size, 0, none⟩)] 83))
          obtain ⟨⟨q0, q1, q2, q3, q4⟩, qm, qv, qn, ql, qw, qr⟩ := HF.out _ BX.out
          refine hK.out _ _ ⟨⟨q0, q1, q2, q3, q4⟩, qn⟩ (fun hHeld => ?_)
          clear hK K
          refine wpAnyH_ready (rs := [30]) (by kernel_rfl) (by simp) ?_
          refine AllReadyH.cons (o := { dst := some 61, op := .call { callee := .builtin .append, args := #[.tmp 35, .tmp 60], argTypes := #[76, 76] }, type := 76, pos := _, after := _, guard := none }) rfl (fun K hK => ?_) AllReadyH.nil
          refine step76 rfl (.tmp 35) (.tmp 60) rfl (.slice lka k lkc) pk (Wx.heap.size, mm) (by simp [Act.eval, Act.put]) (HF.out _ BX.out).2.2.2.2.2.2 (Wx.heap.size + 1) (by simp [Act.eval, Act.put]) (obj_alloc_at _ _ _ (by simp)) (by omega) ?_
          intro v6 W6 r1 r2 r3
          have HG := Lib.hid (CloG.of hz1 HS.out.row HLB.out BX0.out MM.out ML.out VV.out r1 r2 r3)
          obtain ⟨la', lc', e6, _⟩ := r1.slIn
          rw [PL.out] at e6
          subst e6
          have o6 := (HG.out.k _ qw0 NW.out).trans HS.out.box
          have n6 := cell_at o6 3
          have fz6 := frozen_at o6
          have l6 := lt_of_obj o6
          have ob := (HG.out.k _ (lt_of_obj OBP.out) NP.out).trans OBP.out
          refine hK.out _ _ ⟨⟨cell_at ob 0, cell_at ob 1, cell_at ob 2, cell_at ob 3, cell_at ob 4⟩, n6⟩ (fun hHeld => ?_)
          clear hK K
          refine wpAnyH_take (i := 31) (v := ?_) rfl (by kernel_rfl) (by kernel_rfl) (by kernel_rfl) (fun _ _ _ h => h) (Or.inl ⟨by rfl, ?_⟩) (by assumption) ?_
          rotate_left
          · (intro w hSw; (try dsimp only at hSw); go_simp; try with_reducible rfl)
          (try simp only [Act.put, List.setIfInBounds_toArray, List.set_cons_zero, List.set_cons_succ])
          refine wpAnyH_take (i := 32) (v := ?_) rfl (by kernel_rfl) (by kernel_rfl) (by kernel_rfl) (fun _ _ _ h => h) (Or.inl ⟨by rfl, ?_⟩) (by assumption) ?_
          rotate_left
          · (intro w hSw; (try dsimp only at hSw); go_simp; try with_reducible rfl)
          (try simp only [Act.put, List.setIfInBounds_toArray, List.set_cons_zero, List.set_cons_succ])
          refine wpAnyH_done (by kernel_rfl) ?_ _
          unfold lastQ
          refine wpOp_step rfl (fun K' hK' => ?_)
          go_simp
          refine hK' _ _ ?_
          have g : Nat := 0
          have HG' := HG.out
          clear hK' HG BX BX0 MM ML VV hHeld
          generalize Wx.heap.size = pb at *
          exact ⟨mm, va', vc', pb, g, la', lc', rfl, W6, HG', rfl⟩
          ))
    case right =>
    rintro mm va' vc' pb g la' lc' W9 ⟨W6, hg, rfl⟩
    have ob6 := (hg.k _ qw0 NW.out).trans HS.out.box
    have SN : Hid (SetW (W6.setCell ⟨w1.heap.size, 3, none⟩ (.slice la' (k + 1) lc')) (cloM w1.heap.size (W6.setCell ⟨w1.heap.size, 3, none⟩ (.slice la' (k + 1) lc'))) (cloV w1.heap.size (W6.setCell ⟨w1.heap.size, 3, none⟩ (.slice la' (k + 1) lc'))) w1.heap.size (.slice la' (k + 1) lc') (pk ++ [(pb, mm)]) (takeS S (k + 1))) := Lib.hid (by
      rw [HTK.out]
      have hpl := hg.pl
      have hml := hg.ml
      refine SetW.snocC (vv := .slice va' o.votes.length vc') HS.out ?_ ?_ ?_ ?_ ?_ hg.pl hg.ml hz1 ?_ ?_ hg.q
      · rw [obj_setCell_at _ ob6]; simp
      · exact hg.r.frame fun j hj => obj_setCell_ne _ _ _ _ (fun e => by subst e; exact hg.r.ne ob6 (fun cur e => by simp at e) hj)
      · exact (obj_setCell_ne _ _ _ _ (by simp only; omega)).trans hg.p
      · exact HREP.out _ mm ((obj_setCell_ne _ _ _ _ (by simp only; omega)).trans hg.m)
      · exact row_below hg.v fun j hj => obj_setCell_ne _ _ _ _ (by have := (hg.v.lt j hj).1; simp only; omega)
      · simpa using hg.b.size
      · intro j h1 h2 h3
        exact (obj_setCell_ne _ _ _ _ h2).trans (hg.k j h1 h3))
    have BN : Hid (Below w1.heap.size w1 (W6.setCell ⟨w1.heap.size, 3, none⟩ (.slice la' (k + 1) lc'))) := Lib.hid ((HB.out.trans hg.b).setCell (Nat.le_refl _) _)
    generalize W6.setCell ⟨w1.heap.size, 3, none⟩ (.slice la' (k + 1) lc') = W9 at *
    clear hg ob6 HS HB HF HREP q0 q1 q2 q3 q4 qn OBP
    go_wp2_with fail
    go_roundw
    case rel => exact ⟨k + 1, _, _, by omega, by go_num, SN, BN⟩
    case measure => simp [intOf]; omega
end Go.Proofs.Ytfejhekoijemdaa
