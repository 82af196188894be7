import Derived.Test.YtmgpfmgmpmkkaaaGreatAsks
import Derived.Test.YtmgpfmgmpmkkaaaGreatRange
import Derived.Deep.RegionHeld3
namespace Go.Proofs.YtmgpfmgmpmkkaaaGreat
open Go.RowKit

theorem OwnC.keeps {α : Type} {w W : World} {base E k : Nat} {enc : α → List Value} {v : Value} {xs : List α} (h : OwnC w base E k enc v xs) (hk : ∀ g, v.ownBlock = some g → obj W g = obj w g) : OwnC W base E k enc v xs := by
  refine ⟨h.1, ?_⟩
  rcases h.2 with h1 | ⟨g, cap, cur, rfl, h2, h3, h4⟩
  · exact .inl h1
  · exact .inr ⟨g, cap, cur, rfl, h2, (hk g rfl).trans h3, h4⟩
theorem OwnC.mono {α : Type} {w : World} {base base' E k : Nat} {enc : α → List Value} {v : Value} {xs : List α} (h : OwnC w base' E k enc v xs) (hb : base ≤ base') : OwnC w base E k enc v xs := by
  refine ⟨h.1, ?_⟩
  rcases h.2 with h1 | ⟨g, cap, cur, rfl, h2, h3⟩
  · exact .inl h1
  · exact .inr ⟨g, cap, cur, rfl, Nat.le_trans hb h2, h3⟩
theorem OwnC.ne {α : Type} {w : World} {base E k : Nat} {enc : α → List Value} {v : Value} {xs : List α} (h : OwnC w base E k enc v xs) {j : Nat} {o : Obj} (ho : obj w j = some o) (hne : ∀ cur, o ≠ .cells cur E (0, 0)) : v.ownBlock ≠ some j := by
  intro e
  rcases h.2 with ⟨rfl, _⟩ | ⟨g, cap, cur, rfl, _, hg, _⟩
  · simp [Value.ownBlock] at e
  · simp [Value.ownBlock] at e
    subst e
    have hg' : obj w g = some (.cells cur E (0, 0)) := hg
    rw [ho] at hg'
    exact hne cur (Option.some.inj hg')
theorem OwnC.lt {α : Type} {w : World} {base E k : Nat} {enc : α → List Value} {v : Value} {xs : List α} (h : OwnC w base E k enc v xs) {g : Nat} (hg : v.ownBlock = some g) : base ≤ g ∧ g < w.heap.size := by
  rcases h.2 with ⟨rfl, _⟩ | ⟨g', cap, cur, rfl, hb, ho, _⟩
  · simp [Value.ownBlock] at hg
  · simp [Value.ownBlock] at hg
    subst hg
    exact ⟨hb, lt_of_obj ho⟩
theorem OwnC.slice {α : Type} {w : World} {base E k : Nat} {enc : α → List Value} {v : Value} {xs : List α} (h : OwnC w base E k enc v xs) : ∃ oa cap, v = .slice oa xs.length cap := by
  rcases h.2 with ⟨rfl, e⟩ | ⟨g', cap, cur, rfl, _⟩
  · exact ⟨none, 0, by rw [e]⟩
  · exact ⟨_, cap, rfl⟩
def SdOwn (w : World) (base : Nat) (rows : List SdD) (l : List SaidM) : Prop :=
  rows.length = l.length ∧ ∀ (i : Nat) (r : SdD) (s : SaidM), rows[i]? = some r → l[i]? = some s → r.node = s.node ∧ OwnC w base 32 32 idL (.slice r.oa r.n r.cap) s.ids
/-- a front in memory of its own -/
structure FrOwn (w : World) (base : Nat) (d : FrD) (m : FrM) : Prop where
  phase : d.phase = m.phase
  op : OwnC w base 3 1 intL (.slice d.oa d.on d.oc) m.op
  tips : OwnC w base 32 32 idL (.slice d.ta d.tn d.tc) m.tips
  said : ∃ rows, OwnC w base 42 2 sdL (.slice d.sa d.sn d.sc) rows ∧ SdOwn w base rows m.said
theorem SdOwn.at_ {w : World} {base : Nat} {rows : List SdD} {l : List SaidM} (h : SdOwn w base rows l) : SdAt w rows l :=
  ⟨h.1, fun i r s h1 h2 => ⟨(h.2 i r s h1 h2).1, (h.2 i r s h1 h2).2.slIn idL_length⟩⟩
theorem FrOwn.at_ {w : World} {base : Nat} {d : FrD} {m : FrM} (h : FrOwn w base d m) : FrAt w d m := by
  obtain ⟨rows, h1, h2⟩ := h.said
  exact ⟨h.phase, h.op.slIn intL_length, h.tips.slIn idL_length, rows, h1.slIn sdL_length, h2.at_⟩
theorem SdOwn.below {w W : World} {base : Nat} {rows : List SdD} {l : List SaidM} (h : SdOwn w base rows l) (hb : Below w.heap.size w W) : SdOwn W base rows l :=
  ⟨h.1, fun i r s h1 h2 => ⟨(h.2 i r s h1 h2).1, (h.2 i r s h1 h2).2.below hb⟩⟩
theorem FrOwn.below {w W : World} {base : Nat} {d : FrD} {m : FrM} (h : FrOwn w base d m) (hb : Below w.heap.size w W) : FrOwn W base d m := by
  obtain ⟨rows, h1, h2⟩ := h.said
  exact ⟨h.phase, h.op.below hb, h.tips.below hb, rows, h1.below hb, h2.below hb⟩
theorem FrOwn.mono {w : World} {base base' : Nat} {d : FrD} {m : FrM} (h : FrOwn w base' d m) (hb : base ≤ base') : FrOwn w base d m := by
  obtain ⟨rows, h1, h2⟩ := h.said
  exact ⟨h.phase, h.op.mono hb, h.tips.mono hb, rows, h1.mono hb, h2.1, fun i r s g1 g2 => ⟨(h2.2 i r s g1 g2).1, (h2.2 i r s g1 g2).2.mono hb⟩⟩
theorem flatMap_setC {α : Type} {k : Nat} {enc : α → List Value} (hk : ∀ x, (enc x).length = k) (y : α) (j : Nat) (u : Value) (hj : j < k) : ∀ (xs : List α) (i : Nat) (h : i < xs.length), enc y = (enc xs[i]).set j u → (xs.set i y).flatMap enc = (xs.flatMap enc).set (i * k + j) u
  | [], i, h, _ => by simp at h
  | x :: r, 0, h, he => by
    simp only [List.getElem_cons_zero] at he
    simp only [List.set_cons_zero, List.flatMap_cons, Nat.zero_mul, Nat.zero_add]
    rw [List.set_append_left _ _ (by rw [hk]; exact hj), he]
  | x :: r, i + 1, h, he => by
    simp only [List.getElem_cons_succ] at he
    have ih := flatMap_setC hk y j u hj r i (by simpa using h) he
    simp only [List.set_cons_succ, List.flatMap_cons]
    rw [ih, show (i + 1) * k + j = k + (i * k + j) by rw [Nat.add_mul]; omega, List.set_append_right _ _ (by rw [hk]; omega), hk, Nat.add_sub_cancel_left]
/-- an own row of what was said, with one slice laid anew -/
theorem OwnC.setS {w : World} {base g cap : Nat} {xs : List SdD} (h : OwnC w base 42 2 sdL (.slice (some ⟨g, 0, none⟩) xs.length cap) xs) {i : Nat} (hi : i < xs.length) (oa : Option Addr) (n c : Nat) :
    OwnC (w.setCell ⟨g, i * 2 + 1, none⟩ (.slice oa n c)) base 42 2 sdL (.slice (some ⟨g, 0, none⟩) xs.length cap) (xs.set i ⟨xs[i].node, oa, n, c⟩) := by
  have hf := flatMap_setC sdL_length ⟨xs[i].node, oa, n, c⟩ 1 (.slice oa n c) (by decide) xs i hi rfl
  obtain ⟨hl, h1⟩ := h
  rcases h1 with ⟨e, _⟩ | ⟨g', cap', cur, e, hb, hg, s1, s2, s3, s4⟩
  · cases e
  · simp only [Value.slice.injEq, Option.some.injEq, Addr.mk.injEq] at e
    obtain ⟨⟨rfl, _⟩, _, rfl⟩ := e
    have hg' : obj w g = some (.cells cur 42 (0, 0)) := hg
    have hset := obj_setCell_at (b := g) (i := i * 2 + 1) (.slice oa n c) hg'
    refine ⟨by rw [hf]; simpa using hl, .inr ⟨g, cap, cur.setIfInBounds (i * 2 + 1) (.slice oa n c), by simp, hb, hset, by simpa using s1, s2, by simpa using s3, ?_⟩⟩
    rw [Array.toList_setIfInBounds, List.take_set, hf]
    congr 1
    simpa using s4
def SdMix (w0 w : World) (base k : Nat) (rows : List SdD) (l : List SaidM) : Prop :=
  rows.length = l.length ∧ ∀ (i : Nat) (r : SdD) (s : SaidM), rows[i]? = some r → l[i]? = some s → r.node = s.node ∧ (k ≤ i → SlIn w0 (.slice r.oa r.n r.cap) 32 idL s.ids) ∧ (i < k → OwnC w base 32 32 idL (.slice r.oa r.n r.cap) s.ids)
theorem SdMix.keeps {w0 w W : World} {base k : Nat} {rows : List SdD} {l : List SaidM} (h : SdMix w0 w base k rows l) (hk : ∀ g cur, obj w g = some (.cells cur 32 (0, 0)) → obj W g = obj w g) : SdMix w0 W base k rows l := by
  refine ⟨h.1, fun i r s h1 h2 => ?_⟩
  obtain ⟨a1, a2, a3⟩ := h.2 i r s h1 h2
  refine ⟨a1, a2, fun hi => (a3 hi).keeps fun g hg => ?_⟩
  rcases (a3 hi).2 with ⟨e, _⟩ | ⟨g', cap, cur, e, _, ho, _⟩
  · rw [e] at hg; simp [Value.ownBlock] at hg
  · rw [e] at hg
    simp [Value.ownBlock] at hg
    subst hg
    exact hk _ cur ho
theorem SdMix.set {w0 w : World} {base k : Nat} {rows : List SdD} {l : List SaidM} (h : SdMix w0 w base k rows l) (hk : k < rows.length) {s : SaidM} (hs : l[k]? = some s) {oa : Option Addr} {n c : Nat} (ho : OwnC w base 32 32 idL (.slice oa n c) s.ids) : SdMix w0 w base (k + 1) (rows.set k ⟨rows[k].node, oa, n, c⟩) l := by
  refine ⟨by rw [List.length_set]; exact h.1, fun i r s' h1 h2 => ?_⟩
  rw [List.getElem?_set] at h1
  by_cases e : k = i
  · subst e
    rw [if_pos rfl, if_pos hk] at h1
    cases h1
    rw [hs] at h2
    cases h2
    exact ⟨(h.2 k _ _ (List.getElem?_eq_getElem hk) hs).1, fun h => by omega, fun _ => ho⟩
  · rw [if_neg e] at h1
    obtain ⟨a1, a2, a3⟩ := h.2 i r s' h1 h2
    exact ⟨a1, fun hi => a2 (by omega), fun hi => a3 (by omega)⟩
theorem meas_step {n k : Nat} (h : k < n) (hw : wrap64 ((k : Int) + 1) = ((k + 1 : Nat) : Int)) : n - (intOf (.int .i64 (wrap64 ((k : Int) + 1)))).toNat < n - (intOf (.int .i64 (k : Int))).toNat := by
  rw [hw]
  show n - (k + 1) < n - k
  omega
@[go_sem ↓] theorem zero29 (w : World) : (zeroValue 27).run Tryz.prog w = .ok (.agg #[.int .i64 0, .slice none 0 0, .slice none 0 0, .slice none 0 0]) w := by kernel_rfl
set_option maxRecDepth 100000 in
set_option maxHeartbeats 4000000 in
/-- own -/
theorem own_any (w : World) (d : FrD) (m : FrM) (h : FrAt w d m) (hs : FrSm m) : Calls Tryz.prog 33 #[frV d] w fun e w' => ∃ d', e = .returned (frV d') ∧ FrOwn w' w.heap.size d' m ∧ Below w.heap.size w w' := by
  have HF := Lib.hid h
  have HSM := Lib.hid hs
  obtain ⟨rows, hrow, hat⟩ := h.said
  have HROW := Lib.hid hrow
  have HAT := Lib.hid hat
  have hb0 : Below w.heap.size w ((w.alloc (.cells (frC d) 27)).alloc (.cells #[.int .i64 0, .slice none 0 0, .slice none 0 0, .slice none 0 0] 27)) := ((Below.refl _ w).alloc (Nat.le_refl _) _).alloc (by simp) _
  have ob : obj ((w.alloc (.cells (frC d) 27)).alloc (.cells #[.int .i64 0, .slice none 0 0, .slice none 0 0, .slice none 0 0] 27)) w.heap.size = some (.cells (frC d) 27 (0, 0)) := (obj_alloc_past _ _ _ (by simp)).trans (fr_box w d)
  have orr : obj ((w.alloc (.cells (frC d) 27)).alloc (.cells #[.int .i64 0, .slice none 0 0, .slice none 0 0, .slice none 0 0] 27)) (w.heap.size + 1) = some (.cells #[.int .i64 0, .slice none 0 0, .slice none 0 0, .slice none 0 0] 27 (0, 0)) := obj_alloc_at _ _ _ (by simp)
  have hz : ((w.alloc (.cells (frC d) 27)).alloc (.cells #[.int .i64 0, .slice none 0 0, .slice none 0 0, .slice none 0 0] 27)).heap.size = w.heap.size + 2 := by simp
  obtain ⟨dp, doa, don, doc, dta, dtn, dtc, dsa, dsn, dsc⟩ := d
  have HDP := Lib.hid h.phase
  clear h hs hrow hat
  have B0 := Lib.hid hb0
  have OB := Lib.hid ob
  have OR := Lib.hid orr
  have HZ := Lib.hid hz
  have x1 := cell_at OB.out 1
  simp at x1
  clear hb0 ob orr hz
  go_enter Tryz.func33, Tryz.ntmps33
  go_wp2_with fail
  generalize (w.alloc (.cells (frC ⟨dp, doa, don, doc, dta, dtn, dtc, dsa, dsn, dsc⟩) 27)).alloc (.cells #[.int .i64 0, .slice none 0 0, .slice none 0 0, .slice none 0 0] 27) = w1 at *
  clear x1
  have hz := HZ.out
  refine (clone_ints w1 _ m.op (HF.out.op.below B0.out) (by have := HSM.out.op; omega)).mono ?_
  rintro e w2 ⟨vw2, rfl, ow2, bw2⟩
  obtain ⟨a1, k1, e1⟩ := ow2.slice
  have hzw2 := bw2.size
  have hbxw2 : w.heap.size < w1.heap.size := lt_of_obj OB.out
  have OB2 := Lib.hid ((obj_below bw2 (lt_of_obj OB.out)).trans OB.out)
  have OR2 := Lib.hid ((obj_below bw2 (lt_of_obj OR.out)).trans OR.out)
  have Bw2 : Hid (Below w.heap.size w w2) := Lib.hid (B0.out.trans (bw2.mono (by omega)))
  generalize hln1 : m.op.length = n1 at e1
  subst e1
  have HO1 : Hid (OwnC w2 w.heap.size 3 1 intL (.slice a1 n1 k1) m.op) := Lib.hid (ow2.mono (by omega))
  have HLN1 := Lib.hid hln1
  clear hln1 ow2 bw2
  have hx1 := cell_at OB2.out 1
  have hf1 := frozen_at OB2.out 1
  have hl1 := lt_of_obj OB2.out
  have OB3 : Hid (obj (w2.setCell ⟨w.heap.size, 1, none⟩ (.slice a1 n1 k1)) w.heap.size = some (.cells #[.int .i64 dp, .slice a1 n1 k1, .slice dta dtn dtc, .slice dsa dsn dsc] 27 (0, 0))) := Lib.hid (by rw [obj_setCell_at _ OB2.out]; rfl)
  have OR3 : Hid (obj (w2.setCell ⟨w.heap.size, 1, none⟩ (.slice a1 n1 k1)) (w.heap.size + 1) = _) := Lib.hid ((obj_setCell_ne _ ⟨w.heap.size, 1, none⟩ _ _ (by dsimp only; omega)).trans OR2.out)
  have B3 : Hid (Below w.heap.size w (w2.setCell ⟨w.heap.size, 1, none⟩ (.slice a1 n1 k1))) := Lib.hid (Bw2.out.setCell (Nat.le_refl _) _)
  have HO1n := Lib.hid (HO1.out.keeps (W := (w2.setCell ⟨w.heap.size, 1, none⟩ (.slice a1 n1 k1))) fun g hg => obj_setCell_ne _ ⟨w.heap.size, 1, none⟩ _ _ (fun e => HO1.out.ne OB2.out (fun cur h => by cases h) (by rw [hg, e])))
  have hy2 := cell_at OB3.out 2
  simp at hy2
  go_wp2_with fail
  generalize w2.setCell ⟨w.heap.size, 1, none⟩ (.slice a1 n1 k1) = w3 at *
  have OB := OB3
  have OR := OR3
  have HO1 := HO1n
  clear OB2 OR2 OB3 OR3 HO1n  hx1 hf1

  refine (clone_names w3 _ m.tips (HF.out.tips.below B3.out) (by have := HSM.out.tips; omega)).mono ?_
  rintro e w4 ⟨vw4, rfl, ow4, bw4⟩
  obtain ⟨a2, k2, e2⟩ := ow4.slice
  have hzw4 := bw4.size
  have hbxw4 : w.heap.size < w3.heap.size := lt_of_obj OB.out
  have OB2 := Lib.hid ((obj_below bw4 (lt_of_obj OB.out)).trans OB.out)
  have OR2 := Lib.hid ((obj_below bw4 (lt_of_obj OR.out)).trans OR.out)
  have Bw4 : Hid (Below w.heap.size w w4) := Lib.hid (B3.out.trans (bw4.mono (by omega)))
  have HO1b := Lib.hid (HO1.out.below bw4)
  generalize hln2 : m.tips.length = n2 at e2
  subst e2
  have HO2 : Hid (OwnC w4 w.heap.size 32 32 idL (.slice a2 n2 k2) m.tips) := Lib.hid (ow4.mono (by omega))
  have HLN2 := Lib.hid hln2
  clear hln2 ow4 bw4
  have hx2 := cell_at OB2.out 2
  have hf2 := frozen_at OB2.out 2
  have hl2 := lt_of_obj OB2.out
  have OB3 : Hid (obj (w4.setCell ⟨w.heap.size, 2, none⟩ (.slice a2 n2 k2)) w.heap.size = some (.cells #[.int .i64 dp, .slice a1 n1 k1, .slice a2 n2 k2, .slice dsa dsn dsc] 27 (0, 0))) := Lib.hid (by rw [obj_setCell_at _ OB2.out]; rfl)
  have OR3 : Hid (obj (w4.setCell ⟨w.heap.size, 2, none⟩ (.slice a2 n2 k2)) (w.heap.size + 1) = _) := Lib.hid ((obj_setCell_ne _ ⟨w.heap.size, 2, none⟩ _ _ (by dsimp only; omega)).trans OR2.out)
  have B5 : Hid (Below w.heap.size w (w4.setCell ⟨w.heap.size, 2, none⟩ (.slice a2 n2 k2))) := Lib.hid (Bw4.out.setCell (Nat.le_refl _) _)
  have HO1n := Lib.hid (HO1b.out.keeps (W := (w4.setCell ⟨w.heap.size, 2, none⟩ (.slice a2 n2 k2))) fun g hg => obj_setCell_ne _ ⟨w.heap.size, 2, none⟩ _ _ (fun e => HO1b.out.ne OB2.out (fun cur h => by cases h) (by rw [hg, e])))
  have HO2n := Lib.hid (HO2.out.keeps (W := (w4.setCell ⟨w.heap.size, 2, none⟩ (.slice a2 n2 k2))) fun g hg => obj_setCell_ne _ ⟨w.heap.size, 2, none⟩ _ _ (fun e => HO2.out.ne OB2.out (fun cur h => by cases h) (by rw [hg, e])))
  have hy3 := cell_at OB3.out 3
  simp at hy3
  go_wp2_with fail
  generalize w4.setCell ⟨w.heap.size, 2, none⟩ (.slice a2 n2 k2) = w5 at *
  have OB := OB3
  have OR := OR3
  have HO1 := HO1n
  have HO2 := HO2n
  clear OB2 OR2 OB3 OR3 HO1n HO2n HO1b hx2 hf2

  refine (clone_said w5 _ rows (HROW.out.below B5.out) (by have := HSM.out.said; have := HAT.out.1; omega)).mono ?_
  rintro e w6 ⟨vw6, rfl, ow6, bw6⟩
  obtain ⟨a3, k3, e3⟩ := ow6.slice
  have hzw6 := bw6.size
  have hbxw6 : w.heap.size < w5.heap.size := lt_of_obj OB.out
  have OB2 := Lib.hid ((obj_below bw6 (lt_of_obj OB.out)).trans OB.out)
  have OR2 := Lib.hid ((obj_below bw6 (lt_of_obj OR.out)).trans OR.out)
  have Bw6 : Hid (Below w.heap.size w w6) := Lib.hid (B5.out.trans (bw6.mono (by omega)))
  have HO1b := Lib.hid (HO1.out.below bw6)
  have HO2b := Lib.hid (HO2.out.below bw6)
  generalize hln3 : rows.length = n3 at e3
  subst e3
  have HO3 : Hid (OwnC w6 w.heap.size 42 2 sdL (.slice a3 n3 k3) rows) := Lib.hid (ow6.mono (by omega))
  have HLN3 := Lib.hid hln3
  clear hln3 ow6 bw6
  have hx3 := cell_at OB2.out 3
  have hf3 := frozen_at OB2.out 3
  have hl3 := lt_of_obj OB2.out
  have OB3 : Hid (obj (w6.setCell ⟨w.heap.size, 3, none⟩ (.slice a3 n3 k3)) w.heap.size = some (.cells #[.int .i64 dp, .slice a1 n1 k1, .slice a2 n2 k2, .slice a3 n3 k3] 27 (0, 0))) := Lib.hid (by rw [obj_setCell_at _ OB2.out]; rfl)
  have OR3 : Hid (obj (w6.setCell ⟨w.heap.size, 3, none⟩ (.slice a3 n3 k3)) (w.heap.size + 1) = _) := Lib.hid ((obj_setCell_ne _ ⟨w.heap.size, 3, none⟩ _ _ (by dsimp only; omega)).trans OR2.out)
  have B7 : Hid (Below w.heap.size w (w6.setCell ⟨w.heap.size, 3, none⟩ (.slice a3 n3 k3))) := Lib.hid (Bw6.out.setCell (Nat.le_refl _) _)
  have HO1n := Lib.hid (HO1b.out.keeps (W := (w6.setCell ⟨w.heap.size, 3, none⟩ (.slice a3 n3 k3))) fun g hg => obj_setCell_ne _ ⟨w.heap.size, 3, none⟩ _ _ (fun e => HO1b.out.ne OB2.out (fun cur h => by cases h) (by rw [hg, e])))
  have HO2n := Lib.hid (HO2b.out.keeps (W := (w6.setCell ⟨w.heap.size, 3, none⟩ (.slice a3 n3 k3))) fun g hg => obj_setCell_ne _ ⟨w.heap.size, 3, none⟩ _ _ (fun e => HO2b.out.ne OB2.out (fun cur h => by cases h) (by rw [hg, e])))
  have HO3n := Lib.hid (HO3.out.keeps (W := (w6.setCell ⟨w.heap.size, 3, none⟩ (.slice a3 n3 k3))) fun g hg => obj_setCell_ne _ ⟨w.heap.size, 3, none⟩ _ _ (fun e => HO3.out.ne OB2.out (fun cur h => by cases h) (by rw [hg, e])))
  have hy4 := cell_at OB3.out 3
  simp at hy4
  go_wp2_with fail
  generalize w6.setCell ⟨w.heap.size, 3, none⟩ (.slice a3 n3 k3) = w7 at *
  have OB := OB3
  have OR := OR3
  have HO1 := HO1n
  have HO2 := HO2n
  have HO3 := HO3n
  clear OB2 OR2 OB3 OR3 HO1n HO2n HO3n HO1b HO2b hx3 hf3
  have HMX : Hid (SdMix w w7 w.heap.size 0 rows m.said) := Lib.hid ⟨HAT.out.1, fun i r s h1 h2 => ⟨(HAT.out.2 i r s h1 h2).1, fun _ => (HAT.out.2 i r s h1 h2).2, fun h => by omega⟩⟩
  go_loopw [3, 4, 20] (fun _ _ v20 wr => ∃ (k : Nat) (rows' : List SdD), rows'.length = n3 ∧ k ≤ n3 ∧ v20 = .int .i64 k ∧ Hid (OwnC wr w.heap.size 42 2 sdL (.slice a3 n3 k3) rows') ∧ Hid (SdMix w wr w.heap.size k rows' m.said) ∧ Hid (OwnC wr w.heap.size 3 1 intL (.slice a1 n1 k1) m.op) ∧ Hid (OwnC wr w.heap.size 32 32 idL (.slice a2 n2 k2) m.tips) ∧ Hid (obj wr w.heap.size = some (.cells #[.int .i64 dp, .slice a1 n1 k1, .slice a2 n2 k2, .slice a3 n3 k3] 27 (0, 0))) ∧ Hid (obj wr (w.heap.size + 1) = some (.cells #[.int .i64 0, .slice none 0 0, .slice none 0 0, .slice none 0 0] 27 (0, 0))) ∧ Hid (Below w.heap.size w wr)) (fun _ _ i _ => n3 - (intOf i).toNat)
  case atStart => exact ⟨0, rows, HLN3.out, Nat.zero_le _, rfl, HO3, HMX, HO1, HO2, OB, OR, B7⟩
  case round =>
    clear HO3 HMX HO1 HO2 OB OR B7
    obtain ⟨k, rows', hrl, hk, rfl, HO3, HMX, HO1, HO2, OB, OR, HB⟩ := hrel
    have hzr := HB.out.size
    have hbx := lt_of_obj OB.out
    have hrx := lt_of_obj OR.out
    have HRL := Lib.hid hrl
    clear hrl
    by_cases hlt : k < n3
    case neg =>
      have HMF : Hid (SdOwn wr w.heap.size rows' m.said) := Lib.hid ⟨HMX.out.1, fun i r s h1 h2 => by
        have := (List.getElem?_eq_some_iff.1 h1).1
        obtain ⟨a1, _, a3⟩ := HMX.out.2 i r s h1 h2
        exact ⟨a1, a3 (by have := HRL.out; omega)⟩⟩
      have x0 := cell_at OB.out 0
      have x1 := cell_at OB.out 1
      have x2 := cell_at OB.out 2
      have x3 := cell_at OB.out 3
      have y0 := cell_at OR.out 0
      have y1 := cell_at OR.out 1
      have y2 := cell_at OR.out 2
      have y3 := cell_at OR.out 3
      have yf := frozen_at OR.out
      simp at x0 x1 x2 x3 y0 y1 y2 y3
      go_wp2_with fail
      have q := obj_setCell_at (.slice a3 n3 k3) (i := 3) (obj_setCell_at (.slice a2 n2 k2) (i := 2) (obj_setCell_at (.slice a1 n1 k1) (i := 1) (obj_setCell_at (.int .i64 dp) (i := 0) OR.out)))
      have z0 := cell_at q 0
      have z1 := cell_at q 1
      have z2 := cell_at q 2
      have z3 := cell_at q 3
      have HQ := Lib.hid q
      clear q
      simp at z0 z1 z2 z3
      have B4 : Hid (Below w.heap.size w ((((wr.setCell ⟨w.heap.size + 1, 0, none⟩ (.int .i64 dp)).setCell ⟨w.heap.size + 1, 1, none⟩ (.slice a1 n1 k1)).setCell ⟨w.heap.size + 1, 2, none⟩ (.slice a2 n2 k2)).setCell ⟨w.heap.size + 1, 3, none⟩ (.slice a3 n3 k3))) := Lib.hid ((((HB.out.setCell (by simp) _).setCell (by simp) _).setCell (by simp) _).setCell (by simp) _)
      have KE : Hid (∀ j, j ≠ w.heap.size + 1 → obj ((((wr.setCell ⟨w.heap.size + 1, 0, none⟩ (.int .i64 dp)).setCell ⟨w.heap.size + 1, 1, none⟩ (.slice a1 n1 k1)).setCell ⟨w.heap.size + 1, 2, none⟩ (.slice a2 n2 k2)).setCell ⟨w.heap.size + 1, 3, none⟩ (.slice a3 n3 k3)) j = obj wr j) := Lib.hid (fun j hj => (obj_setCell_ne _ ⟨_, 3, none⟩ _ _ hj).trans ((obj_setCell_ne _ ⟨_, 2, none⟩ _ _ hj).trans ((obj_setCell_ne _ ⟨_, 1, none⟩ _ _ hj).trans (obj_setCell_ne _ ⟨_, 0, none⟩ _ _ hj))))
      generalize (((wr.setCell ⟨w.heap.size + 1, 0, none⟩ (.int .i64 dp)).setCell ⟨w.heap.size + 1, 1, none⟩ (.slice a1 n1 k1)).setCell ⟨w.heap.size + 1, 2, none⟩ (.slice a2 n2 k2)).setCell ⟨w.heap.size + 1, 3, none⟩ (.slice a3 n3 k3) = w9 at *
      refine bodyPost_ret (v := frV ⟨dp, a1, n1, k1, a2, n2, k2, a3, n3, k3⟩) (by simp [results, Tryz.results33, go_sem, z0, z1, z2, z3]) rfl ⟨_, rfl, ⟨HDP.out, HO1.out.keeps fun g hg => KE.out g (fun e => HO1.out.ne OR.out (fun cur h => by cases h) (by rw [hg, e])), HO2.out.keeps fun g hg => KE.out g (fun e => HO2.out.ne OR.out (fun cur h => by cases h) (by rw [hg, e])), rows', HO3.out.keeps fun g hg => KE.out g (fun e => HO3.out.ne OR.out (fun cur h => by cases h) (by rw [hg, e])), HMF.out.1, fun i r s h1 h2 => ⟨(HMF.out.2 i r s h1 h2).1, ?_⟩⟩, B4.out⟩
      have hoi := (HMF.out.2 i r s h1 h2).2
      exact hoi.keeps fun g hg => KE.out g (fun e => hoi.ne OR.out (fun cur h => by cases h) (by rw [hg, e]))
    obtain ⟨g, rfl⟩ : ∃ g, a3 = some ⟨g, 0, none⟩ := by
      rcases HO3.out.2 with ⟨e, e0⟩ | ⟨g, cap', cur, e, _⟩
      · simp only [Value.slice.injEq] at e; omega
      · simp only [Value.slice.injEq] at e; exact ⟨g, e.1⟩
    have hkr : k < rows'.length := by have := HRL.out; omega
    have hks : k < m.said.length := by have := HMX.out.1; omega
    obtain ⟨oa', cap', e', _, _, h3⟩ := HO3.out.slIn sdL_length
    obtain ⟨b', off', e2, hgl, hrow⟩ := h3 (by omega)
    simp only [Value.slice.injEq] at e'
    obtain ⟨rfl, -, rfl⟩ := e'
    simp only [Option.some.injEq, Addr.mk.injEq] at e2
    obtain ⟨rfl, rfl, _⟩ := e2
    have hs1 := hrow k hkr
    rw [Nat.zero_add] at hs1
    have hgb := (HO3.out.lt rfl).1
    have hmk := HMX.out.2 k rows'[k] m.said[k] (List.getElem?_eq_getElem hkr) (List.getElem?_eq_getElem hks)
    have HSI := Lib.hid ((hmk.2.1 (Nat.le_refl _)))
    have hil := HSM.out.ids m.said[k] (List.getElem_mem hks)
    have HSK : Hid (m.said[k]? = some m.said[k]) := Lib.hid (List.getElem?_eq_getElem hks)
    have f0 : wr.cell? ⟨g, k * 2, none⟩ = some (.int .i64 rows'[k].node) := by have := subOf_cell hs1 (j := 0) (by decide); simpa [sdL] using this
    have f1 : wr.cell? ⟨g, k * 2 + 1, none⟩ = some (.slice rows'[k].oa rows'[k].n rows'[k].cap) := by have := subOf_cell hs1 (j := 1) (by decide); simpa [sdL] using this
    have HSET := fun W (hW : OwnC W w.heap.size 42 2 sdL (.slice (some ⟨g, 0, none⟩) rows'.length k3) rows') oa n c => OwnC.setS hW hkr oa n c
    have HMS := fun W (hW : SdMix w W w.heap.size k rows' m.said) oa n c ho => SdMix.set hW hkr HSK.out (oa := oa) (n := n) (c := c) ho
    have hgne : g ≠ w.heap.size ∧ g ≠ w.heap.size + 1 := ⟨fun e => HO3.out.ne OB.out (fun cur h => by cases h) (by rw [e]; rfl), fun e => HO3.out.ne OR.out (fun cur h => by cases h) (by rw [e]; rfl)⟩
    have HF2 : Hid (∀ W, obj W g = obj wr g → ∀ i, W.frozen? ⟨g, i, none⟩ = false) := Lib.hid (fun W hW i => by
      rcases HO3.out.2 with ⟨e, _⟩ | ⟨g', cap', cur, e, _, ho, _⟩
      · cases e
      · simp only [Value.slice.injEq, Option.some.injEq, Addr.mk.injEq] at e
        obtain ⟨⟨rfl, _⟩, _⟩ := e
        exact frozen_at (hW.trans ho) i)
    clear hs1 hrow h3 hmk
    have HSETh := Lib.hid HSET
    have HMSh := Lib.hid HMS
    clear HSET HMS
    generalize m.said[k] = s at *
    generalize hrk : rows'[k] = r at *
    obtain ⟨rn, roa, rln, rcap⟩ := r
    simp only at f0 f1 HSI HSETh HMSh
    clear hrk
    have bx3 := cell_at OB.out 3
    simp at bx3
    have hki : (k : Int) < n3 := by omega
    have BA : Hid (Below wr.heap.size wr (wr.alloc (.cells #[.int .i64 rn, .slice roa rln rcap] 42))) := Lib.hid ((Below.refl _ _).alloc (Nat.le_refl _) _)
    have OA : Hid (obj (wr.alloc (.cells #[.int .i64 rn, .slice roa rln rcap] 42)) wr.heap.size = some (.cells #[.int .i64 rn, .slice roa rln rcap] 42 (0, 0))) := Lib.hid (obj_alloc_at _ _ _ rfl)
    have HZA : Hid ((wr.alloc (.cells #[.int .i64 rn, .slice roa rln rcap] 42)).heap.size = wr.heap.size + 1) := Lib.hid (by simp)
    go_wp2_with fail
    have OXA := Lib.hid ((obj_below BA.out hbx).trans OB.out)
    have c3 := cell_at OXA.out 3
    have c1 := cell_at OA.out 1
    have hzw : wr.heap.size < (wr.alloc (.cells #[.int .i64 rn, .slice roa rln rcap] 42)).heap.size := by have := HZA.out; omega
    have hzb : w.heap.size < (wr.alloc (.cells #[.int .i64 rn, .slice roa rln rcap] 42)).heap.size := by omega
    generalize wr.alloc (.cells #[.int .i64 rn, .slice roa rln rcap] 42) = wa at *
    simp at c3 c1
    have hwd : wa.drew.heap.size = wa.heap.size := rfl
    have BD : Hid (Below wr.heap.size wr wa.drew) := Lib.hid BA.out.drew
    have HCL := Lib.hid (clone_names wa.drew (.slice roa rln rcap) s.ids (HSI.out.below (HB.out.trans (BD.out.mono hzr))) (by omega))
    have f0' := (World.cell?_of_block (w := wr) (a := ⟨g, k * 2, none⟩) (obj_below BA.out hgl)).trans f0
    go_region_held3 (fun W => W.cell? ⟨w.heap.size, 3, none⟩ = some (.slice (some ⟨g, 0, none⟩) n3 k3) ∧ W.cell? ⟨wr.heap.size, 1, none⟩ = some (.slice roa rln rcap))
      (first | exact ⟨c3, c1⟩ | assumption | exact cc2 _)
      (first
        | (go_at_call 62; (with_reducible refine HCL.out.mono ?_); rintro e w9 ⟨v9, rfl, o9, b9⟩; have B9 : Hid (Below wr.heap.size wr w9) := Lib.hid (BD.out.trans (b9.mono (by omega))); obtain ⟨oa9, cap9, e9⟩ := o9.slice; generalize s.ids.length = n9 at e9; subst e9; have O9 : Hid (OwnC w9 w.heap.size 32 32 idL (.slice oa9 n9 cap9) s.ids) := Lib.hid (o9.mono (by omega)); have h9g := (obj_below B9.out hgl); have f9 := HF2.out w9 h9g; have g9 : w9.cell? ⟨g, k * 2 + 1, none⟩ = some (.slice roa rln rcap) := (World.cell?_of_block (w := wr) (a := ⟨g, k * 2 + 1, none⟩) h9g).trans f1; have TB := Lib.hid ((obj_below B9.out hbx).trans OB.out); have TA := Lib.hid ((obj_below b9 (n := wr.heap.size) (by omega)).trans OA.out); have cc : w9.cell? ⟨w.heap.size, 3, none⟩ = some (.slice (some ⟨g, 0, none⟩) n3 k3) ∧ w9.cell? ⟨wr.heap.size, 1, none⟩ = some (.slice roa rln rcap) := ⟨cell_at TB.out 3, cell_at TA.out 1⟩; have hgz : g < w9.heap.size := (by have := B9.out.size; omega); have hgz1 : g < wr.heap.size := hgl; have cc2 : ∀ v, (w9.setCell ⟨g, k * 2 + 1, none⟩ v).cell? ⟨w.heap.size, 3, none⟩ = some (.slice (some ⟨g, 0, none⟩) n3 k3) ∧ (w9.setCell ⟨g, k * 2 + 1, none⟩ v).cell? ⟨wr.heap.size, 1, none⟩ = some (.slice roa rln rcap) := fun v => ⟨(World.cell?_of_block (w := w9) (a := ⟨w.heap.size, 3, none⟩) (obj_setCell_ne _ ⟨g, k * 2 + 1, none⟩ _ _ (fun e => hgne.1 e.symm))).trans cc.1, (World.cell?_of_block (w := w9) (a := ⟨wr.heap.size, 1, none⟩) (obj_setCell_ne _ ⟨g, k * 2 + 1, none⟩ _ _ (by dsimp only; omega))).trans cc.2⟩; clear o9 b9 h9g HCL))
    have T3 := Lib.hid (HO3.out.below B9.out)
    have T1 := Lib.hid (HO1.out.below B9.out)
    have T2 := Lib.hid (HO2.out.below B9.out)
    have TM := Lib.hid (HMX.out.keeps (W := w9) fun j cur hj => obj_below B9.out (lt_of_obj hj))
    have TR := Lib.hid ((obj_below B9.out hrx).trans OR.out)
    have hG : ∃ cur, obj w9 g = some (.cells cur 42 (0, 0)) := by
      rcases T3.out.2 with ⟨e, _⟩ | ⟨g', cap', cur, e, _, ho, _⟩
      · cases e
      · simp only [Value.slice.injEq, Option.some.injEq, Addr.mk.injEq] at e
        obtain ⟨⟨rfl, _⟩, _⟩ := e
        exact ⟨cur, ho⟩
    obtain ⟨curG, hG⟩ := hG
    have HG := Lib.hid hG
    have HB9 : Hid (Below w.heap.size w w9) := Lib.hid (HB.out.trans (B9.out.mono hzr))
    clear hG
    have KE : ∀ j, j ≠ g → obj (w9.setCell ⟨g, k * 2 + 1, none⟩ (.slice oa9 n9 cap9)) j = obj w9 j := fun j hj => obj_setCell_ne _ ⟨g, k * 2 + 1, none⟩ _ _ hj
    have N1 : Hid (OwnC (w9.setCell ⟨g, k * 2 + 1, none⟩ (.slice oa9 n9 cap9)) w.heap.size 42 2 sdL (.slice (some ⟨g, 0, none⟩) n3 k3) (rows'.set k ⟨rn, oa9, n9, cap9⟩)) := Lib.hid (by have h := HSETh.out w9 (by rw [HRL.out]; exact T3.out) oa9 n9 cap9; rw [HRL.out] at h; exact h)
    have N2 : Hid (SdMix w (w9.setCell ⟨g, k * 2 + 1, none⟩ (.slice oa9 n9 cap9)) w.heap.size (k + 1) (rows'.set k ⟨rn, oa9, n9, cap9⟩) m.said) := Lib.hid (HMSh.out _ (TM.out.keeps fun j cur hj => KE j (fun e => by rw [e, HG.out] at hj; cases hj)) oa9 n9 cap9 (O9.out.keeps fun j hj => KE j (fun e => O9.out.ne HG.out (fun cur h => by cases h) (by rw [hj, e]))))
    have N3 : Hid (OwnC (w9.setCell ⟨g, k * 2 + 1, none⟩ (.slice oa9 n9 cap9)) w.heap.size 3 1 intL (.slice a1 n1 k1) m.op) := Lib.hid (T1.out.keeps fun j hj => KE j (fun e => T1.out.ne HG.out (fun cur h => by cases h) (by rw [hj, e])))
    have N4 : Hid (OwnC (w9.setCell ⟨g, k * 2 + 1, none⟩ (.slice oa9 n9 cap9)) w.heap.size 32 32 idL (.slice a2 n2 k2) m.tips) := Lib.hid (T2.out.keeps fun j hj => KE j (fun e => T2.out.ne HG.out (fun cur h => by cases h) (by rw [hj, e])))
    have N5 := Lib.hid ((KE w.heap.size (fun e => hgne.1 e.symm)).trans TB.out)
    have N6 := Lib.hid ((KE (w.heap.size + 1) (fun e => hgne.2 e.symm)).trans TR.out)
    have N7 : Hid (Below w.heap.size w (w9.setCell ⟨g, k * 2 + 1, none⟩ (.slice oa9 n9 cap9))) := Lib.hid (HB9.out.setCell hgb _)
    have hkw : wrap64 ((k : Int) + 1) = ((k + 1 : Nat) : Int) := by
      have h1 := HSM.out.said
      have h2 := HMX.out.1
      have h3 := HRL.out
      rw [show wrap64 ((k : Int) + 1) = (k : Int) + 1 from by unfold wrap64; omega]
      omega
    go_wp2_with fail
    go_roundw
    case rel =>
      have e20 : Value.int .i64 (wrap64 ((k : Int) + 1)) = .int .i64 ((k + 1 : Nat) : Int) := by rw [hkw]
      have hl9 : (rows'.set k ⟨rn, oa9, n9, cap9⟩).length = n3 := by rw [List.length_set]; exact HRL.out
      exact ⟨k + 1, rows'.set k ⟨rn, oa9, n9, cap9⟩, hl9, hlt, e20, N1, N2, N3, N4, N5, N6, N7⟩
    case measure =>
      exact meas_step hlt hkw
end Go.Proofs.YtmgpfmgmpmkkaaaGreat
