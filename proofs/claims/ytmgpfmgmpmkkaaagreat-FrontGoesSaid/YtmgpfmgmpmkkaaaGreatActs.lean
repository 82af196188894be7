import Derived.Test.YtmgpfmgmpmkkaaaGreatCls
namespace Go.Proofs.YtmgpfmgmpmkkaaaGreat
open Go.RowKit Go.Shelf Go.Sort

/-! ### the acts: what they hand back -/
def failR (l : List Vd) (m : FrM) (node : Int) : FrM × Int := if asksE l m 0 node ≠ 0 then (zeroM, asksE l m 0 node) else (closedM l.length m node, 0)
def tipR (l : List Vd) (m : FrM) (node : Int) (id : ID) : FrM × Int :=
  if asksE l m 1 node ≠ 0 then (zeroM, asksE l m 1 node) else if id ∉ m.tips ∧ 32 ≤ m.tips.length then (zeroM, 1) else (tipM l.length m node id, 0)
def accR (l : List Vd) (m : FrM) (node : Int) (ids : List ID) : FrM × Int := if asksE l m 2 node ≠ 0 then (zeroM, asksE l m 2 node) else (accM l.length m node ids, 0)
@[reducible] def zeroD : FrD := ⟨0, none, 0, 0, none, 0, 0, none, 0, 0⟩
theorem frOwn_zero (w : World) (base : Nat) : FrOwn w base zeroD zeroM := ⟨rfl, World.ownsRow_nil _ _ _ _, World.ownsRow_nil _ _ _ _, [], World.ownsRow_nil _ _ _ _, rfl, fun i r s h _ => by simp at h⟩
theorem asksE_op {l : List Vd} {m : FrM} {ph node : Int} (h : asksE l m ph node = 0) : mayB l m = true ∧ (ph ≠ 0 → m.phase = ph) ∧ node ∈ m.op := by
  unfold asksE at h
  split at h
  · rename_i hm
    split at h
    · cases h
    · rename_i hn
      simp only [not_or] at hn
      refine ⟨hm, fun h0 => ?_, by simpa using hn.2⟩
      by_cases e : m.phase = ph
      · exact e
      · exact absurd ⟨h0, e⟩ hn.1
  · cases h
theorem asksE_len {l : List Vd} {m : FrM} {ph node : Int} (h : asksE l m ph node = 0) : m.op ≠ [] ∧ l.length ≤ 32 := by
  obtain ⟨h1, _, h2⟩ := asksE_op h
  refine ⟨fun e => (by rw [e] at h2; cases h2), ?_⟩
  unfold mayB at h1
  simp only [Bool.and_eq_true, decide_eq_true_eq] at h1
  exact (chk_32 h1.1.1.1.1.1).2.1
/-- what an act hands back: a front in memory of its own, and a number -/
def RetFr (w : World) (m : FrM) (c : Int) (e : Ending) (w' : World) : Prop := ∃ d', e = .returned (.tuple #[frV d', .int .i64 c]) ∧ FrOwn w' w.heap.size d' m ∧ Below w.heap.size w w'
set_option maxRecDepth 100000 in
set_option maxHeartbeats 4000000 in
/-- Failed -/
theorem failed_any (w : World) (v : Value) (l : List Vd) (d : FrD) (m : FrM) (node : Int) (hl : SlIn w v 2 vdL l) (h : FrAt w d m) (hs : FrSm m) :
    Calls Tryz.prog 13 #[v, frV d, .int .i64 node] w (RetFr w (failR l m node).1 (failR l m node).2) := by
  have hb0 : Below w.heap.size w ((w.alloc (.cells (frC d) 27)).alloc (.cells #[.int .i64 0, .slice none 0 0, .slice none 0 0, .slice none 0 0] 27)) := ((Below.refl _ w).alloc (Nat.le_refl _) _).alloc (by simp) _
  have ob : obj ((w.alloc (.cells (frC d) 27)).alloc (.cells #[.int .i64 0, .slice none 0 0, .slice none 0 0, .slice none 0 0] 27)) w.heap.size = some (.cells (frC d) 27 (0, 0)) := (obj_alloc_past _ _ _ (by simp)).trans (fr_box w d)
  have orr : obj ((w.alloc (.cells (frC d) 27)).alloc (.cells #[.int .i64 0, .slice none 0 0, .slice none 0 0, .slice none 0 0] 27)) (w.heap.size + 1) = some (.cells #[.int .i64 0, .slice none 0 0, .slice none 0 0, .slice none 0 0] 27 (0, 0)) := obj_alloc_at _ _ _ (by simp)
  have hz : ((w.alloc (.cells (frC d) 27)).alloc (.cells #[.int .i64 0, .slice none 0 0, .slice none 0 0, .slice none 0 0] 27)).heap.size = w.heap.size + 2 := by simp
  have HA := Lib.hid (asks_any _ v l d m 0 node (hl.below hb0) (h.below hb0) hs)
  have HL := Lib.hid (hl.below hb0)
  have HF := Lib.hid (h.below hb0)
  have HS := Lib.hid hs
  have HE : Hid (failR l m node = if asksE l m 0 node ≠ 0 then (zeroM, asksE l m 0 node) else (closedM l.length m node, 0)) := Lib.hid rfl
  have HEN : Hid (asksE l m 0 node = 0 → m.op ≠ [] ∧ l.length ≤ 32) := Lib.hid asksE_len
  generalize failR l m node = T at *
  generalize asksE l m 0 node = E at *
  obtain ⟨dp, doa, don, doc, dta, dtn, dtc, dsa, dsn, dsc⟩ := d
  have B0 := Lib.hid hb0
  have OB := Lib.hid ob
  have OR := Lib.hid orr
  have HZ := Lib.hid hz
  clear hb0 ob orr hz h hl hs
  have x0 := cell_at OB.out 0
  have x1 := cell_at OB.out 1
  have x2 := cell_at OB.out 2
  have x3 := cell_at OB.out 3
  simp at x0 x1 x2 x3
  go_enter Tryz.func13, Tryz.ntmps13
  go_wp2_with fail
  generalize (w.alloc (.cells (frC ⟨dp, doa, don, doc, dta, dtn, dtc, dsa, dsn, dsc⟩) 27)).alloc (.cells #[.int .i64 0, .slice none 0 0, .slice none 0 0, .slice none 0 0] 27) = w1 at *
  clear x0 x1 x2 x3
  have hz := HZ.out
  refine HA.out.mono ?_
  rintro e w2 ⟨rfl, b2⟩
  have hz2 := b2.size
  have OB2 := Lib.hid ((obj_below b2 (lt_of_obj OB.out)).trans OB.out)
  have OR2 := Lib.hid ((obj_below b2 (lt_of_obj OR.out)).trans OR.out)
  have B2 : Hid (Below w.heap.size w w2) := Lib.hid (B0.out.trans (b2.mono (by omega)))
  have HL2 := Lib.hid (HL.out.below b2)
  have HF2 := Lib.hid (HF.out.below b2)
  clear HA b2 HL HF OB OR B0
  by_cases hE : E = 0
  case neg =>
    obtain rfl : T = (zeroM, E) := by rw [HE.out, if_pos hE]
    have y0 := cell_at OR2.out 0
    have y1 := cell_at OR2.out 1
    have y2 := cell_at OR2.out 2
    have y3 := cell_at OR2.out 3
    have yf := frozen_at OR2.out
    simp at y0 y1 y2 y3 yf
    go_wp2_with fail
    have q := obj_setCell_at (.slice none 0 0) (i := 3) (obj_setCell_at (.slice none 0 0) (i := 2) (obj_setCell_at (.slice none 0 0) (i := 1) (obj_setCell_at (.int .i64 0) (i := 0) OR2.out)))
    have z0 := cell_at q 0
    have z1 := cell_at q 1
    have z2 := cell_at q 2
    have z3 := cell_at q 3
    have HQ := Lib.hid q
    clear q
    simp at z0 z1 z2 z3
    have BE : Hid (Below w.heap.size w ((((w2.setCell ⟨w.heap.size + 1, 0, none⟩ (.int .i64 0)).setCell ⟨w.heap.size + 1, 1, none⟩ (.slice none 0 0)).setCell ⟨w.heap.size + 1, 2, none⟩ (.slice none 0 0)).setCell ⟨w.heap.size + 1, 3, none⟩ (.slice none 0 0))) := Lib.hid ((((B2.out.setCell (by simp) _).setCell (by simp) _).setCell (by simp) _).setCell (by simp) _)
    generalize (((w2.setCell ⟨w.heap.size + 1, 0, none⟩ (.int .i64 0)).setCell ⟨w.heap.size + 1, 1, none⟩ (.slice none 0 0)).setCell ⟨w.heap.size + 1, 2, none⟩ (.slice none 0 0)).setCell ⟨w.heap.size + 1, 3, none⟩ (.slice none 0 0) = wE at *
    refine bodyPost_ret (v := .tuple #[frV zeroD, .int .i64 E]) (by simp [results, Tryz.results13, go_sem, z0, z1, z2, z3]) rfl ⟨_, rfl, frOwn_zero _ _, BE.out⟩
  subst hE
  obtain rfl : T = (closedM l.length m node, 0) := by rw [HE.out, if_neg (by simp)]
  obtain ⟨hop, hl32⟩ := HEN.out rfl
  have HOP := Lib.hid hop
  have x0 := cell_at OB2.out 0
  have x1 := cell_at OB2.out 1
  have x2 := cell_at OB2.out 2
  have x3 := cell_at OB2.out 3
  simp at x0 x1 x2 x3
  clear hop
  have HOW := Lib.hid (own_any w2 _ m HF2.out HS.out)
  go_wp2_with fail
  refine HOW.out.mono ?_
  rintro e w3 ⟨d3, rfl, hf3, b3⟩
  have hz3 := b3.size
  have OR3 := Lib.hid ((obj_below b3 (lt_of_obj OR2.out)).trans OR2.out)
  have B3 : Hid (Below w.heap.size w w3) := Lib.hid (B2.out.trans (b3.mono (by omega)))
  have HC := Lib.hid (closed_any w3 w2.heap.size v l d3 m node (HL2.out.below b3) hf3 hz3 HOP.out HS.out.op (by omega))
  have hr3 := lt_of_obj OR2.out
  clear HOW hf3 b3
  obtain ⟨ep, eoa, eon, eoc, eta, etn, etc, esa, esn, esc⟩ := d3
  go_wp2_with fail
  refine HC.out.mono ?_
  rintro e w4 ⟨d4, rfl, hf4, b4⟩
  have OR4 := Lib.hid ((obj_below b4 hr3).trans OR3.out)
  have B4 : Hid (Below w.heap.size w w4) := Lib.hid (B3.out.trans (b4.mono (by omega)))
  have HF4 := Lib.hid (hf4.mono (base := w.heap.size) (by omega))
  clear HC hf4 b4
  obtain ⟨gp, goa, gon, goc, gta, gtn, gtc, gsa, gsn, gsc⟩ := d4
  have y0 := cell_at OR4.out 0
  have y1 := cell_at OR4.out 1
  have y2 := cell_at OR4.out 2
  have y3 := cell_at OR4.out 3
  have yf := frozen_at OR4.out
  simp at y0 y1 y2 y3 yf
  go_wp2_with fail
  have q := obj_setCell_at (.slice gsa gsn gsc) (i := 3) (obj_setCell_at (.slice gta gtn gtc) (i := 2) (obj_setCell_at (.slice goa gon goc) (i := 1) (obj_setCell_at (.int .i64 gp) (i := 0) OR4.out)))
  have z0 := cell_at q 0
  have z1 := cell_at q 1
  have z2 := cell_at q 2
  have z3 := cell_at q 3
  have HQ := Lib.hid q
  clear q
  simp at z0 z1 z2 z3
  have HFE := Lib.hid ((((HF4.out.setBox OR4.out 0 (.int .i64 gp)).setBox (obj_setCell_at (.int .i64 gp) (i := 0) OR4.out) 1 (.slice goa gon goc)).setBox (obj_setCell_at (.slice goa gon goc) (i := 1) (obj_setCell_at (.int .i64 gp) (i := 0) OR4.out)) 2 (.slice gta gtn gtc)).setBox (obj_setCell_at (.slice gta gtn gtc) (i := 2) (obj_setCell_at (.slice goa gon goc) (i := 1) (obj_setCell_at (.int .i64 gp) (i := 0) OR4.out))) 3 (.slice gsa gsn gsc))
  have BE : Hid (Below w.heap.size w ((((w4.setCell ⟨w.heap.size + 1, 0, none⟩ (.int .i64 gp)).setCell ⟨w.heap.size + 1, 1, none⟩ (.slice goa gon goc)).setCell ⟨w.heap.size + 1, 2, none⟩ (.slice gta gtn gtc)).setCell ⟨w.heap.size + 1, 3, none⟩ (.slice gsa gsn gsc))) := Lib.hid ((((B4.out.setCell (by simp) _).setCell (by simp) _).setCell (by simp) _).setCell (by simp) _)
  generalize (((w4.setCell ⟨w.heap.size + 1, 0, none⟩ (.int .i64 gp)).setCell ⟨w.heap.size + 1, 1, none⟩ (.slice goa gon goc)).setCell ⟨w.heap.size + 1, 2, none⟩ (.slice gta gtn gtc)).setCell ⟨w.heap.size + 1, 3, none⟩ (.slice gsa gsn gsc) = wE at *
  refine bodyPost_ret (v := .tuple #[frV ⟨gp, goa, gon, goc, gta, gtn, gtc, gsa, gsn, gsc⟩, .int .i64 0]) (by simp [results, Tryz.results13, go_sem, z0, z1, z2, z3]) rfl ⟨_, rfl, HFE.out, BE.out⟩
theorem FrOwn.setTips {w W : World} {base : Nat} {d : FrD} {m : FrM} (h : FrOwn w base d m) (hsd : m.said = []) (hk : ∀ g, g < w.heap.size → (Value.slice d.ta d.tn d.tc).ownBlock ≠ some g → obj W g = obj w g) {a : Option Addr} {n c : Nat} {ts : List ID} (ho : OwnC W base 32 32 idL (.slice a n c) ts) :
    FrOwn W base ⟨d.phase, d.oa, d.on, d.oc, a, n, c, d.sa, d.sn, d.sc⟩ ⟨m.phase, m.op, ts, m.said⟩ := by
  obtain ⟨rows, h1, h2⟩ := h.said
  exact ⟨h.phase, h.op.keeps fun g hg => hk g (h.op.lt hg).2 (h.op.apart h.tips (by decide) hg), ho, rows, h1.keeps fun g hg => hk g (h1.lt hg).2 (h1.apart h.tips (by decide) hg), h2.1, fun j r s g1 g2 => (by rw [hsd] at g2; simp at g2)⟩
theorem pushN {ops : Array Oper} {rest : List Oper} {o : Oper} {a : Act} {w : World} {Q : Exit → Act → World → Prop} (hgd : o.guard = none) (s x : Operand) (ho : o.op = .call { callee := .builtin .append, args := #[s, x], argTypes := #[24, 24] })
    (base : Nat) (v : Value) (xs : List ID) (y : ID) (hs : a.eval s = v) (hown : OwnC w base 32 32 idL v xs) (g : Nat) (hx : a.eval x = .slice (some ⟨g, 0, none⟩) 1 1) (hg : obj w g = some (.cells (idL y).toArray 32 (0, 0)))
    (hlen : xs.length ≤ 1048576) (hbase : base ≤ w.heap.size)
    (h : ∀ v' w', OwnC w' base 32 32 idL v' (xs ++ [y]) → Below base w w' → (∀ k, k < w.heap.size → v.ownBlock ≠ some k → obj w' k = obj w k) → wpList Tryz.prog ops Q rest (a.put o.dst v') w') : wpList Tryz.prog ops Q (o :: rest) a w := by
  obtain ⟨i0, hi, hz0, hz1, hz2⟩ := info_parts info45
  exact wpList_pushC Tryz.underlying24 hi hz0 hz1 hz2 (by simp [Value.cells]) (by decide) idL idL_length idL_one hgd s x ho base v xs y hs hown g hx hg hlen (by decide) hbase h
theorem asksE_said {l : List Vd} {m : FrM} {node : Int} (h : asksE l m 1 node = 0) : m.said = [] := by
  obtain ⟨h1, h2, _⟩ := asksE_op h
  have hp := h2 (by decide)
  unfold mayB phaseB at h1
  rw [if_pos hp] at h1
  simp only [Bool.and_eq_true, decide_eq_true_eq] at h1
  exact List.length_eq_zero_iff.1 h1.2.1
set_option maxRecDepth 100000 in
set_option maxHeartbeats 4000000 in
/-- Tip -/
theorem tip_act (w : World) (v : Value) (l : List Vd) (d : FrD) (m : FrM) (node : Int) (id : ID) (hl : SlIn w v 2 vdL l) (h : FrAt w d m) (hs : FrSm m) :
    Calls Tryz.prog 9 #[v, frV d, .int .i64 node, .agg (idL id).toArray] w (RetFr w (tipR l m node id).1 (tipR l m node id).2) := by
  have hb0 : Below w.heap.size w (((w.alloc (.cells (frC d) 27)).alloc (.cells (idL id).toArray 32)).alloc (.cells #[.int .i64 0, .slice none 0 0, .slice none 0 0, .slice none 0 0] 27)) := (((Below.refl _ w).alloc (Nat.le_refl _) _).alloc (by simp) _).alloc (by simp; omega) _
  have ob : obj (((w.alloc (.cells (frC d) 27)).alloc (.cells (idL id).toArray 32)).alloc (.cells #[.int .i64 0, .slice none 0 0, .slice none 0 0, .slice none 0 0] 27)) w.heap.size = some (.cells (frC d) 27 (0, 0)) := (obj_alloc_past _ _ _ (by simp; omega)).trans ((obj_alloc_past _ _ _ (by simp)).trans (fr_box w d))
  have oi : obj (((w.alloc (.cells (frC d) 27)).alloc (.cells (idL id).toArray 32)).alloc (.cells #[.int .i64 0, .slice none 0 0, .slice none 0 0, .slice none 0 0] 27)) (w.heap.size + 1) = some (.cells (idL id).toArray 32 (0, 0)) := (obj_alloc_past _ _ _ (by simp)).trans (obj_alloc_at _ _ _ (by simp))
  have orr : obj (((w.alloc (.cells (frC d) 27)).alloc (.cells (idL id).toArray 32)).alloc (.cells #[.int .i64 0, .slice none 0 0, .slice none 0 0, .slice none 0 0] 27)) (w.heap.size + 2) = some (.cells #[.int .i64 0, .slice none 0 0, .slice none 0 0, .slice none 0 0] 27 (0, 0)) := obj_alloc_at _ _ _ (by simp)
  have hz : (((w.alloc (.cells (frC d) 27)).alloc (.cells (idL id).toArray 32)).alloc (.cells #[.int .i64 0, .slice none 0 0, .slice none 0 0, .slice none 0 0] 27)).heap.size = w.heap.size + 3 := by simp
  have HA := Lib.hid (asks_any _ v l d m 1 node (hl.below hb0) (h.below hb0) hs)
  have HL := Lib.hid hl
  have HF := Lib.hid (h.below hb0)
  have HS := Lib.hid hs
  have HE : Hid (tipR l m node id = if asksE l m 1 node ≠ 0 then (zeroM, asksE l m 1 node) else if id ∉ m.tips ∧ 32 ≤ m.tips.length then (zeroM, 1) else (tipM l.length m node id, 0)) := Lib.hid rfl
  have HEN : Hid (asksE l m 1 node = 0 → m.op ≠ [] ∧ l.length ≤ 32) := Lib.hid asksE_len
  have HSD : Hid (asksE l m 1 node = 0 → m.said = []) := Lib.hid asksE_said
  generalize tipR l m node id = T at *
  generalize asksE l m 1 node = E at *
  obtain ⟨dp, doa, don, doc, dta, dtn, dtc, dsa, dsn, dsc⟩ := d
  have B0 := Lib.hid hb0
  have OB := Lib.hid ob
  have OI := Lib.hid oi
  have OR := Lib.hid orr
  have HZ := Lib.hid hz
  clear hb0 ob oi orr hz h hl hs
  have x0 := cell_at OB.out 0
  have x1 := cell_at OB.out 1
  have x2 := cell_at OB.out 2
  have x3 := cell_at OB.out 3
  simp at x0 x1 x2 x3
  go_enter Tryz.func9, Tryz.ntmps9
  go_wp2_with fail
  generalize ((w.alloc (.cells (frC ⟨dp, doa, don, doc, dta, dtn, dtc, dsa, dsn, dsc⟩) 27)).alloc (.cells (idL id).toArray 32)).alloc (.cells #[.int .i64 0, .slice none 0 0, .slice none 0 0, .slice none 0 0] 27) = w1 at *
  clear x0 x1 x2 x3
  have hz := HZ.out
  refine HA.out.mono ?_
  rintro e w2 ⟨rfl, b2⟩
  have hz2 := b2.size
  have OB2 := Lib.hid ((obj_below b2 (lt_of_obj OB.out)).trans OB.out)
  have OI2 := Lib.hid ((obj_below b2 (lt_of_obj OI.out)).trans OI.out)
  have OR2 := Lib.hid ((obj_below b2 (lt_of_obj OR.out)).trans OR.out)
  have B2 : Hid (Below w.heap.size w w2) := Lib.hid (B0.out.trans (b2.mono (by omega)))
  have HF2 := Lib.hid (HF.out.below b2)
  clear HA b2 HF OB OR OI B0
  by_cases hE : E = 0
  case neg =>
    obtain rfl : T = (zeroM, E) := by rw [HE.out, if_pos hE]
    have y0 := cell_at OR2.out 0
    have y1 := cell_at OR2.out 1
    have y2 := cell_at OR2.out 2
    have y3 := cell_at OR2.out 3
    have yf := frozen_at OR2.out
    simp at y0 y1 y2 y3 yf
    go_wp2_with fail
    have q := obj_setCell_at (.slice none 0 0) (i := 3) (obj_setCell_at (.slice none 0 0) (i := 2) (obj_setCell_at (.slice none 0 0) (i := 1) (obj_setCell_at (.int .i64 0) (i := 0) OR2.out)))
    have z0 := cell_at q 0
    have z1 := cell_at q 1
    have z2 := cell_at q 2
    have z3 := cell_at q 3
    have HQ := Lib.hid q
    clear q
    simp at z0 z1 z2 z3
    have BE : Hid (Below w.heap.size w ((((w2.setCell ⟨w.heap.size + 2, 0, none⟩ (.int .i64 0)).setCell ⟨w.heap.size + 2, 1, none⟩ (.slice none 0 0)).setCell ⟨w.heap.size + 2, 2, none⟩ (.slice none 0 0)).setCell ⟨w.heap.size + 2, 3, none⟩ (.slice none 0 0))) := Lib.hid ((((B2.out.setCell (by simp) _).setCell (by simp) _).setCell (by simp) _).setCell (by simp) _)
    generalize (((w2.setCell ⟨w.heap.size + 2, 0, none⟩ (.int .i64 0)).setCell ⟨w.heap.size + 2, 1, none⟩ (.slice none 0 0)).setCell ⟨w.heap.size + 2, 2, none⟩ (.slice none 0 0)).setCell ⟨w.heap.size + 2, 3, none⟩ (.slice none 0 0) = wE at *
    refine bodyPost_ret (v := .tuple #[frV zeroD, .int .i64 E]) (by simp [results, Tryz.results9, go_sem, z0, z1, z2, z3]) rfl ⟨_, rfl, frOwn_zero _ _, BE.out⟩
  subst hE
  have HT : Hid (T = if id ∉ m.tips ∧ 32 ≤ m.tips.length then (zeroM, 1) else (tipM l.length m node id, 0)) := Lib.hid (by rw [HE.out, if_neg (by simp)])
  obtain ⟨hop, hl32⟩ := HEN.out rfl
  have HOP := Lib.hid hop
  have HOL := Lib.hid HS.out.op
  have HSN := Lib.hid (HSD.out rfl)
  have x0 := cell_at OB2.out 0
  have x1 := cell_at OB2.out 1
  have x2 := cell_at OB2.out 2
  have x3 := cell_at OB2.out 3
  simp at x0 x1 x2 x3
  clear hop HE HEN HSD
  have HOW := Lib.hid (own_any w2 _ m HF2.out HS.out)
  go_wp2_with fail
  clear x0 x1 x2 x3
  refine HOW.out.mono ?_
  rintro e w3 ⟨d3, rfl, hf3, b3⟩
  have hz3 := b3.size
  have OB3 := Lib.hid ((obj_below b3 (lt_of_obj OB2.out)).trans OB2.out)
  have OI3 := Lib.hid ((obj_below b3 (lt_of_obj OI2.out)).trans OI2.out)
  have OR3 := Lib.hid ((obj_below b3 (lt_of_obj OR2.out)).trans OR2.out)
  have B3 : Hid (Below w.heap.size w w3) := Lib.hid (B2.out.trans (b3.mono (by omega)))
  have HF3 := Lib.hid hf3
  clear HOW hf3 b3 OB2 OI2 OR2 B2
  obtain ⟨ep, eoa, eon, eoc, eta, etn, etc, esa, esn, esc⟩ := d3
  have hbz := lt_of_obj OR3.out
  have OB4 : Hid (obj ((((w3.setCell ⟨w.heap.size, 0, none⟩ (.int .i64 ep)).setCell ⟨w.heap.size, 1, none⟩ (.slice eoa eon eoc)).setCell ⟨w.heap.size, 2, none⟩ (.slice eta etn etc)).setCell ⟨w.heap.size, 3, none⟩ (.slice esa esn esc)) w.heap.size = some (.cells #[(.int .i64 ep), (.slice eoa eon eoc), (.slice eta etn etc), (.slice esa esn esc)] 27 (0, 0))) := Lib.hid (by rw [obj_setCell_at _ (obj_setCell_at _ (obj_setCell_at _ (obj_setCell_at _ OB3.out)))]; rfl)
  have HF4 := Lib.hid ((((HF3.out.setBox OB3.out 0 (.int .i64 ep)).setBox (obj_setCell_at (.int .i64 ep) (i := 0) OB3.out) 1 (.slice eoa eon eoc)).setBox (obj_setCell_at (.slice eoa eon eoc) (i := 1) (obj_setCell_at (.int .i64 ep) (i := 0) OB3.out)) 2 (.slice eta etn etc)).setBox (obj_setCell_at (.slice eta etn etc) (i := 2) (obj_setCell_at (.slice eoa eon eoc) (i := 1) (obj_setCell_at (.int .i64 ep) (i := 0) OB3.out))) 3 (.slice esa esn esc))
  have OI4 : Hid (obj ((((w3.setCell ⟨w.heap.size, 0, none⟩ (.int .i64 ep)).setCell ⟨w.heap.size, 1, none⟩ (.slice eoa eon eoc)).setCell ⟨w.heap.size, 2, none⟩ (.slice eta etn etc)).setCell ⟨w.heap.size, 3, none⟩ (.slice esa esn esc)) (w.heap.size + 1) = _) := Lib.hid ((obj_setCell_ne _ ⟨w.heap.size, 3, none⟩ _ _ (by dsimp only; omega)).trans ((obj_setCell_ne _ ⟨w.heap.size, 2, none⟩ _ _ (by dsimp only; omega)).trans ((obj_setCell_ne _ ⟨w.heap.size, 1, none⟩ _ _ (by dsimp only; omega)).trans ((obj_setCell_ne _ ⟨w.heap.size, 0, none⟩ _ _ (by dsimp only; omega)).trans OI3.out))))
  have OR4 : Hid (obj ((((w3.setCell ⟨w.heap.size, 0, none⟩ (.int .i64 ep)).setCell ⟨w.heap.size, 1, none⟩ (.slice eoa eon eoc)).setCell ⟨w.heap.size, 2, none⟩ (.slice eta etn etc)).setCell ⟨w.heap.size, 3, none⟩ (.slice esa esn esc)) (w.heap.size + 2) = _) := Lib.hid ((obj_setCell_ne _ ⟨w.heap.size, 3, none⟩ _ _ (by dsimp only; omega)).trans ((obj_setCell_ne _ ⟨w.heap.size, 2, none⟩ _ _ (by dsimp only; omega)).trans ((obj_setCell_ne _ ⟨w.heap.size, 1, none⟩ _ _ (by dsimp only; omega)).trans ((obj_setCell_ne _ ⟨w.heap.size, 0, none⟩ _ _ (by dsimp only; omega)).trans OR3.out))))
  have B4 : Hid (Below w.heap.size w ((((w3.setCell ⟨w.heap.size, 0, none⟩ (.int .i64 ep)).setCell ⟨w.heap.size, 1, none⟩ (.slice eoa eon eoc)).setCell ⟨w.heap.size, 2, none⟩ (.slice eta etn etc)).setCell ⟨w.heap.size, 3, none⟩ (.slice esa esn esc))) := Lib.hid ((((B3.out.setCell (by simp) _).setCell (by simp) _).setCell (by simp) _).setCell (by simp) _)
  have hz4 : ((((w3.setCell ⟨w.heap.size, 0, none⟩ (.int .i64 ep)).setCell ⟨w.heap.size, 1, none⟩ (.slice eoa eon eoc)).setCell ⟨w.heap.size, 2, none⟩ (.slice eta etn etc)).setCell ⟨w.heap.size, 3, none⟩ (.slice esa esn esc)).heap.size = w3.heap.size := by simp
  have y0 := cell_at OB3.out 0
  have y1 := cell_at OB3.out 1
  have y2 := cell_at OB3.out 2
  have y3 := cell_at OB3.out 3
  simp at y0 y1 y2 y3
  have yf := frozen_at OB3.out
  have x0 := cell_at OB4.out 0
  have x1 := cell_at OB4.out 1
  have x2 := cell_at OB4.out 2
  have x3 := cell_at OB4.out 3
  simp at x0 x1 x2 x3
  have pi : subOf (obj w3 (w.heap.size + 1)) 0 32 = some (idL id).toArray := by rw [OI3.out, subOf_cells (by simp), subA_all (by simp)]
  have HTP := Lib.hid (tip_any ((((w3.setCell ⟨w.heap.size, 0, none⟩ (.int .i64 ep)).setCell ⟨w.heap.size, 1, none⟩ (.slice eoa eon eoc)).setCell ⟨w.heap.size, 2, none⟩ (.slice eta etn etc)).setCell ⟨w.heap.size, 3, none⟩ (.slice esa esn esc)) ⟨ep, eoa, eon, eoc, eta, etn, etc, esa, esn, esc⟩ m id HF4.out.at_)
  go_wp2_with fail
  generalize (((w3.setCell ⟨w.heap.size, 0, none⟩ (.int .i64 ep)).setCell ⟨w.heap.size, 1, none⟩ (.slice eoa eon eoc)).setCell ⟨w.heap.size, 2, none⟩ (.slice eta etn etc)).setCell ⟨w.heap.size, 3, none⟩ (.slice esa esn esc) = w4 at *
  clear x0 x1 x2 x3 y0 y1 y2 y3 yf pi OB3 OI3 OR3 HF3 B3
  refine HTP.out.mono ?_
  rintro e w5 ⟨rfl, b5⟩
  have hz5 := b5.size
  have hbl := lt_of_obj OB4.out
  have hil := lt_of_obj OI4.out
  have hrl := lt_of_obj OR4.out
  have OB5 := Lib.hid ((obj_below b5 hbl).trans OB4.out)
  have OI5 := Lib.hid ((obj_below b5 hil).trans OI4.out)
  have OR5 := Lib.hid ((obj_below b5 hrl).trans OR4.out)
  have B5 : Hid (Below w.heap.size w w5) := Lib.hid (B4.out.trans (b5.mono (by omega)))
  have HF5 := Lib.hid (HF4.out.below b5)
  clear HTP b5 OB4 OI4 OR4 B4 HF4
  have HTN : Hid (m.tips.length = etn) := Lib.hid HF5.out.at_.tips.n.symm
  by_cases hid : id ∈ m.tips
  case pos =>
    obtain rfl : T = (closedM l.length m node, 0) := by rw [HT.out, if_neg (by simp [hid])]; unfold tipM addT; rw [if_pos hid]
    have hdc : decide (id ∈ m.tips) = true := decide_eq_true hid
    generalize decide (id ∈ m.tips) = D at *
    subst hdc
    clear hid
    have x0 := cell_at OB5.out 0
    have x1 := cell_at OB5.out 1
    have x2 := cell_at OB5.out 2
    have x3 := cell_at OB5.out 3
    simp at x0 x1 x2 x3
    have HC := Lib.hid (closed_any w5 w2.heap.size v l ⟨ep, eoa, eon, eoc, eta, etn, etc, esa, esn, esc⟩ m node (HL.out.below B5.out) HF5.out (by omega) HOP.out HOL.out (by omega))
    have hr6 := lt_of_obj OR5.out
    have hzz6 := B5.out.size
    go_wp2_with fail
    refine HC.out.mono ?_
    rintro e wc ⟨dc, rfl, hfc, bc⟩
    have OR6 := Lib.hid ((obj_below (n := w.heap.size + 2) bc (by omega)).trans OR5.out)
    have B6 : Hid (Below w.heap.size w wc) := Lib.hid (B5.out.trans (bc.mono (by omega)))
    have HF6 := Lib.hid (hfc.mono (base := w.heap.size) (by omega))
    clear HC hfc bc
    obtain ⟨gp, goa, gon, goc, gta, gtn, gtc, gsa, gsn, gsc⟩ := dc
    have y0 := cell_at OR6.out 0
    have y1 := cell_at OR6.out 1
    have y2 := cell_at OR6.out 2
    have y3 := cell_at OR6.out 3
    have yf := frozen_at OR6.out
    simp at y0 y1 y2 y3 yf
    go_wp2_with fail
    have q := obj_setCell_at (.slice gsa gsn gsc) (i := 3) (obj_setCell_at (.slice gta gtn gtc) (i := 2) (obj_setCell_at (.slice goa gon goc) (i := 1) (obj_setCell_at (.int .i64 gp) (i := 0) OR6.out)))
    have z0 := cell_at q 0
    have z1 := cell_at q 1
    have z2 := cell_at q 2
    have z3 := cell_at q 3
    have HQ := Lib.hid q
    clear q
    simp at z0 z1 z2 z3
    have HFE := Lib.hid ((((HF6.out.setBox OR6.out 0 (.int .i64 gp)).setBox (obj_setCell_at (.int .i64 gp) (i := 0) OR6.out) 1 (.slice goa gon goc)).setBox (obj_setCell_at (.slice goa gon goc) (i := 1) (obj_setCell_at (.int .i64 gp) (i := 0) OR6.out)) 2 (.slice gta gtn gtc)).setBox (obj_setCell_at (.slice gta gtn gtc) (i := 2) (obj_setCell_at (.slice goa gon goc) (i := 1) (obj_setCell_at (.int .i64 gp) (i := 0) OR6.out))) 3 (.slice gsa gsn gsc))
    have BE : Hid (Below w.heap.size w ((((wc.setCell ⟨w.heap.size + 2, 0, none⟩ (.int .i64 gp)).setCell ⟨w.heap.size + 2, 1, none⟩ (.slice goa gon goc)).setCell ⟨w.heap.size + 2, 2, none⟩ (.slice gta gtn gtc)).setCell ⟨w.heap.size + 2, 3, none⟩ (.slice gsa gsn gsc))) := Lib.hid ((((B6.out.setCell (by simp) _).setCell (by simp) _).setCell (by simp) _).setCell (by simp) _)
    generalize (((wc.setCell ⟨w.heap.size + 2, 0, none⟩ (.int .i64 gp)).setCell ⟨w.heap.size + 2, 1, none⟩ (.slice goa gon goc)).setCell ⟨w.heap.size + 2, 2, none⟩ (.slice gta gtn gtc)).setCell ⟨w.heap.size + 2, 3, none⟩ (.slice gsa gsn gsc) = wE at *
    refine bodyPost_ret (v := .tuple #[frV ⟨gp, goa, gon, goc, gta, gtn, gtc, gsa, gsn, gsc⟩, .int .i64 0]) (by simp [results, Tryz.results9, go_sem, z0, z1, z2, z3]) rfl ⟨_, rfl, HFE.out, BE.out⟩
  have hdc : decide (id ∈ m.tips) = false := decide_eq_false hid
  generalize decide (id ∈ m.tips) = D at *
  subst hdc
  by_cases h32 : 32 ≤ etn
  case pos =>
    obtain rfl : T = (zeroM, 1) := by rw [HT.out, if_pos ⟨hid, by rw [HTN.out]; exact h32⟩]
    have h32i : (32 : Int) ≤ etn := by omega
    clear hid
    have x0 := cell_at OB5.out 0
    have x1 := cell_at OB5.out 1
    have x2 := cell_at OB5.out 2
    have x3 := cell_at OB5.out 3
    simp at x0 x1 x2 x3
    have y0 := cell_at OR5.out 0
    have y1 := cell_at OR5.out 1
    have y2 := cell_at OR5.out 2
    have y3 := cell_at OR5.out 3
    have yf := frozen_at OR5.out
    simp at y0 y1 y2 y3 yf
    go_wp2_with fail
    have q := obj_setCell_at (.slice none 0 0) (i := 3) (obj_setCell_at (.slice none 0 0) (i := 2) (obj_setCell_at (.slice none 0 0) (i := 1) (obj_setCell_at (.int .i64 0) (i := 0) OR5.out)))
    have z0 := cell_at q 0
    have z1 := cell_at q 1
    have z2 := cell_at q 2
    have z3 := cell_at q 3
    have HQ := Lib.hid q
    clear q
    simp at z0 z1 z2 z3
    have BE : Hid (Below w.heap.size w ((((w5.setCell ⟨w.heap.size + 2, 0, none⟩ (.int .i64 0)).setCell ⟨w.heap.size + 2, 1, none⟩ (.slice none 0 0)).setCell ⟨w.heap.size + 2, 2, none⟩ (.slice none 0 0)).setCell ⟨w.heap.size + 2, 3, none⟩ (.slice none 0 0))) := Lib.hid ((((B5.out.setCell (by simp) _).setCell (by simp) _).setCell (by simp) _).setCell (by simp) _)
    generalize (((w5.setCell ⟨w.heap.size + 2, 0, none⟩ (.int .i64 0)).setCell ⟨w.heap.size + 2, 1, none⟩ (.slice none 0 0)).setCell ⟨w.heap.size + 2, 2, none⟩ (.slice none 0 0)).setCell ⟨w.heap.size + 2, 3, none⟩ (.slice none 0 0) = wE at *
    refine bodyPost_ret (v := .tuple #[frV zeroD, .int .i64 1]) (by simp [results, Tryz.results9, go_sem, z0, z1, z2, z3]) rfl ⟨_, rfl, frOwn_zero _ _, BE.out⟩
  have h32i : ¬ (32 : Int) ≤ etn := by omega
  have HAD : Hid (addT m.tips id = sortI (m.tips ++ [id])) := Lib.hid (by unfold addT; rw [if_neg hid])
  have HT2 : Hid (T = (closedM l.length { m with tips := sortI (m.tips ++ [id]) } node, 0)) := Lib.hid (by rw [HT.out, if_neg (by rintro ⟨_, h⟩; rw [HTN.out] at h; exact h32 h)]; unfold tipM; rw [HAD.out])
  obtain rfl := HT2.out
  have BA : Hid (Below w5.heap.size w5 (w5.alloc (.cells (idL id).toArray 32))) := Lib.hid ((Below.refl _ _).alloc (Nat.le_refl _) _)
  have OA : Hid (obj (w5.alloc (.cells (idL id).toArray 32)) w5.heap.size = some (.cells (idL id).toArray 32 (0, 0))) := Lib.hid (obj_alloc_at _ _ _ rfl)
  have hbl5 := lt_of_obj OB5.out
  have hrl5 := lt_of_obj OR5.out
  have HFA := Lib.hid (HF5.out.below BA.out)
  have OBA := Lib.hid ((obj_below BA.out hbl5).trans OB5.out)
  have ORA := Lib.hid ((obj_below BA.out hrl5).trans OR5.out)
  have HBA : Hid (Below w.heap.size w (w5.alloc (.cells (idL id).toArray 32))) := Lib.hid (B5.out.alloc (by omega) _)
  have hza : (w5.alloc (.cells (idL id).toArray 32)).heap.size = w5.heap.size + 1 := by simp
  have HNB : Hid ((Value.slice eta etn etc).ownBlock ≠ some w.heap.size) := Lib.hid (HF5.out.tips.ne OB5.out (fun cur h => by injection h with h1 h2; cases h2))
  have HNR : Hid ((Value.slice eta etn etc).ownBlock ≠ some (w.heap.size + 2)) := Lib.hid (HF5.out.tips.ne OR5.out (fun cur h => by injection h with h1 h2; cases h2))
  have pi : subOf (obj w5 (w.heap.size + 1)) 0 32 = some (idL id).toArray := by rw [OI5.out, subOf_cells (by simp), subA_all (by simp)]
  have htl : m.tips.length ≤ 100 := by have := HTN.out; omega
  have HLQ : Hid (∀ (a : Option Addr) (c : Nat), Value.slice a (m.tips ++ [id]).length c = .slice a (etn + 1) c) := Lib.hid (fun a c => by rw [List.length_append, HTN.out]; rfl)
  have hbo : w2.heap.size ≤ (w5.alloc (.cells (idL id).toArray 32)).heap.size := by omega
  clear hid HT HT2 HTN HAD
  have x0 := cell_at OB5.out 0
  have x1 := cell_at OB5.out 1
  have x2 := cell_at OB5.out 2
  have x3 := cell_at OB5.out 3
  simp at x0 x1 x2 x3
  go_wp2_with (at_builtin; refine pushN rfl _ _ rfl w2.heap.size (.slice eta etn etc) m.tips id rfl HFA.out.tips w5.heap.size rfl OA.out (by omega) hbo ?_; intro v6 w6 r6 b6 g6; obtain ⟨a6, c6, e6⟩ := r6.slice; have e7 := e6.trans (HLQ.out a6 c6); subst e7; have HO6 : Hid (OwnC w6 w2.heap.size 32 32 idL (.slice a6 (etn + 1) c6) (m.tips ++ [id])) := Lib.hid r6; have OB6 : Hid (obj w6 w.heap.size = some (.cells #[.int .i64 ep, .slice eoa eon eoc, .slice eta etn etc, .slice esa esn esc] 27 (0, 0))) := Lib.hid ((g6 _ (by rw [hza]; omega) HNB.out).trans OBA.out); have OR6 : Hid (obj w6 (w.heap.size + 2) = some (.cells #[.int .i64 0, .slice none 0 0, .slice none 0 0, .slice none 0 0] 27 (0, 0))) := Lib.hid ((g6 _ (by rw [hza]; omega) HNR.out).trans ORA.out); have HF6 : Hid (FrOwn w6 w2.heap.size ⟨ep, eoa, eon, eoc, a6, etn + 1, c6, esa, esn, esc⟩ ⟨m.phase, m.op, m.tips ++ [id], m.said⟩) := Lib.hid (HFA.out.setTips HSN.out g6 HO6.out); have HB6 : Hid (Below w.heap.size w w6) := Lib.hid (HBA.out.trans (b6.mono (by omega))); have hz6 : w5.heap.size + 1 ≤ w6.heap.size := (by have := b6.size; omega); have u2 := cell_at OB6.out 2; have uf := frozen_at OB6.out 2; clear r6 b6 g6 e6 HO6; simp at u2)
  have HF7 := Lib.hid (HF6.out.setBox OB6.out 2 (.slice a6 (etn + 1) c6))
  have OB7 : Hid (obj (w6.setCell ⟨w.heap.size, 2, none⟩ (.slice a6 (etn + 1) c6)) w.heap.size = some (.cells #[.int .i64 ep, .slice eoa eon eoc, .slice a6 (etn + 1) c6, .slice esa esn esc] 27 (0, 0))) := Lib.hid (by rw [obj_setCell_at _ OB6.out]; rfl)
  have OR7 : Hid (obj (w6.setCell ⟨w.heap.size, 2, none⟩ (.slice a6 (etn + 1) c6)) (w.heap.size + 2) = _) := Lib.hid ((obj_setCell_ne _ ⟨w.heap.size, 2, none⟩ _ _ (by dsimp only; omega)).trans OR6.out)
  have HB7 : Hid (Below w.heap.size w (w6.setCell ⟨w.heap.size, 2, none⟩ (.slice a6 (etn + 1) c6))) := Lib.hid (HB6.out.setCell (Nat.le_refl _) _)
  have HZ7 : Hid (w5.heap.size + 1 ≤ (w6.setCell ⟨w.heap.size, 2, none⟩ (.slice a6 (etn + 1) c6)).heap.size) := Lib.hid (by simpa using hz6)
  generalize w6.setCell ⟨w.heap.size, 2, none⟩ (.slice a6 (etn + 1) c6) = w7 at *
  have HSO := Lib.hid (sort_names w7 w2.heap.size (.slice a6 (etn + 1) c6) (m.tips ++ [id]) HF7.out.tips (by rw [List.length_append]; simp; omega))
  refine HSO.out.mono ?_
  rintro e w8 ⟨rfl, o8, k8⟩
  have hz7 := HZ7.out
  have hz8 := k8.size
  have HN7 : Hid ((Value.slice a6 (etn + 1) c6).ownBlock ≠ some w.heap.size) := Lib.hid (HF7.out.tips.ne OB7.out (fun cur h => by injection h with h1 h2; cases h2))
  have HN7r : Hid ((Value.slice a6 (etn + 1) c6).ownBlock ≠ some (w.heap.size + 2)) := Lib.hid (HF7.out.tips.ne OR7.out (fun cur h => by injection h with h1 h2; cases h2))
  have OB8 := Lib.hid ((k8.block _ (by omega) HN7.out).trans OB7.out)
  have OR8 := Lib.hid ((k8.block _ (by omega) HN7r.out).trans OR7.out)
  have HF8 := Lib.hid (HF7.out.setTips HSN.out k8.block o8)
  have B8 : Hid (Below w.heap.size w w8) := Lib.hid (HB7.out.trans (k8.below (fun g hg => by have := (HF7.out.tips.lt hg).1; omega) (by omega)))
  clear HSO o8 k8 OB7 OR7 HF7 HB7 HF6 OB6 OR6 HB6
  have x0 := cell_at OB8.out 0
  have x1 := cell_at OB8.out 1
  have x2 := cell_at OB8.out 2
  have x3 := cell_at OB8.out 3
  simp at x0 x1 x2 x3
  have HC := Lib.hid (closed_any w8 w2.heap.size v l ⟨ep, eoa, eon, eoc, a6, etn + 1, c6, esa, esn, esc⟩ ⟨m.phase, m.op, sortI (m.tips ++ [id]), m.said⟩ node (HL.out.below B8.out) HF8.out (by omega) HOP.out HOL.out (by omega))
  have hr9 := lt_of_obj OR8.out
  have hzz9 := B8.out.size
  go_wp2_with fail
  refine HC.out.mono ?_
  rintro e wc ⟨dc, rfl, hfc, bc⟩
  have OR9 := Lib.hid ((obj_below (n := w.heap.size + 2) bc (by omega)).trans OR8.out)
  have B9 : Hid (Below w.heap.size w wc) := Lib.hid (B8.out.trans (bc.mono (by omega)))
  have HF9 := Lib.hid (hfc.mono (base := w.heap.size) (by omega))
  clear HC hfc bc
  obtain ⟨gp, goa, gon, goc, gta, gtn, gtc, gsa, gsn, gsc⟩ := dc
  have y0 := cell_at OR9.out 0
  have y1 := cell_at OR9.out 1
  have y2 := cell_at OR9.out 2
  have y3 := cell_at OR9.out 3
  have yf := frozen_at OR9.out
  simp at y0 y1 y2 y3 yf
  go_wp2_with fail
  have q := obj_setCell_at (.slice gsa gsn gsc) (i := 3) (obj_setCell_at (.slice gta gtn gtc) (i := 2) (obj_setCell_at (.slice goa gon goc) (i := 1) (obj_setCell_at (.int .i64 gp) (i := 0) OR9.out)))
  have z0 := cell_at q 0
  have z1 := cell_at q 1
  have z2 := cell_at q 2
  have z3 := cell_at q 3
  have HQ := Lib.hid q
  clear q
  simp at z0 z1 z2 z3
  have HFE := Lib.hid ((((HF9.out.setBox OR9.out 0 (.int .i64 gp)).setBox (obj_setCell_at (.int .i64 gp) (i := 0) OR9.out) 1 (.slice goa gon goc)).setBox (obj_setCell_at (.slice goa gon goc) (i := 1) (obj_setCell_at (.int .i64 gp) (i := 0) OR9.out)) 2 (.slice gta gtn gtc)).setBox (obj_setCell_at (.slice gta gtn gtc) (i := 2) (obj_setCell_at (.slice goa gon goc) (i := 1) (obj_setCell_at (.int .i64 gp) (i := 0) OR9.out))) 3 (.slice gsa gsn gsc))
  have BE : Hid (Below w.heap.size w ((((wc.setCell ⟨w.heap.size + 2, 0, none⟩ (.int .i64 gp)).setCell ⟨w.heap.size + 2, 1, none⟩ (.slice goa gon goc)).setCell ⟨w.heap.size + 2, 2, none⟩ (.slice gta gtn gtc)).setCell ⟨w.heap.size + 2, 3, none⟩ (.slice gsa gsn gsc))) := Lib.hid ((((B9.out.setCell (by simp) _).setCell (by simp) _).setCell (by simp) _).setCell (by simp) _)
  generalize (((wc.setCell ⟨w.heap.size + 2, 0, none⟩ (.int .i64 gp)).setCell ⟨w.heap.size + 2, 1, none⟩ (.slice goa gon goc)).setCell ⟨w.heap.size + 2, 2, none⟩ (.slice gta gtn gtc)).setCell ⟨w.heap.size + 2, 3, none⟩ (.slice gsa gsn gsc) = wE at *
  refine bodyPost_ret (v := .tuple #[frV ⟨gp, goa, gon, goc, gta, gtn, gtc, gsa, gsn, gsc⟩, .int .i64 0]) (by simp [results, Tryz.results9, go_sem, z0, z1, z2, z3]) rfl ⟨_, rfl, HFE.out, BE.out⟩
end Go.Proofs.YtmgpfmgmpmkkaaaGreat
