import Derived.Test.YtmgpfmgmpmkkaaaGreatActs
namespace Go.Proofs.YtmgpfmgmpmkkaaaGreat
open Go.RowKit Go.Shelf Go.Sort

theorem map_fst_zip' {α β : Type} : ∀ {a : List α} {b : List β}, a.length = b.length → (a.zip b).map (·.1) = a
  | [], _, _ => rfl
  | x :: a, [], h => by simp at h
  | x :: a, y :: b, h => by simp only [List.zip_cons_cons, List.map_cons]; rw [map_fst_zip' (by simpa using h)]
theorem map_snd_zip' {α β : Type} : ∀ {a : List α} {b : List β}, a.length = b.length → (a.zip b).map (·.2) = b
  | [], [], _ => rfl
  | [], _ :: _, h => by simp at h
  | x :: a, [], h => by simp at h
  | x :: a, y :: b, h => by simp only [List.zip_cons_cons, List.map_cons]; rw [map_snd_zip' (by simpa using h)]
/-- sorted alike -/
theorem SdOwn.sort {w : World} {base : Nat} {rows : List SdD} {l : List SaidM} (h : SdOwn w base rows l) : SdOwn w base (sortD rows) (sortS l) := by
  have hz : ∀ p ∈ rows.zip l, p.1.node = p.2.node ∧ OwnC w base 32 32 idL (.slice p.1.oa p.1.n p.1.cap) p.2.ids := by
    intro p hp
    obtain ⟨i, hi⟩ := List.getElem?_of_mem hp
    rw [List.getElem?_zip_eq_some] at hi
    exact h.2 i _ _ hi.1 hi.2
  have e1 : sortD rows = ((rows.zip l).mergeSort fun p q => decide (p.1.node ≤ q.1.node)).map (·.1) := by
    rw [List.map_mergeSort (s := fun a b : SdD => decide (a.node ≤ b.node)) (fun a _ b _ => rfl), map_fst_zip' h.1]; rfl
  have e2 : sortS l = ((rows.zip l).mergeSort fun p q => decide (p.1.node ≤ q.1.node)).map (·.2) := by
    rw [List.map_mergeSort (s := fun a b : SaidM => decide (a.node ≤ b.node)) (fun a ha b hb => by rw [(hz a ha).1, (hz b hb).1]), map_snd_zip' h.1]; rfl
  rw [e1, e2]
  refine ⟨by simp, fun i r s h1 h2 => ?_⟩
  rw [List.getElem?_map, Option.map_eq_some_iff] at h1 h2
  obtain ⟨p, hp, rfl⟩ := h1
  obtain ⟨q, hq, rfl⟩ := h2
  rw [hp] at hq
  cases hq
  exact hz p ((List.mergeSort_perm _ _).mem_iff.1 (List.mem_of_getElem? hp))
theorem SdOwn.keeps {w W : World} {base : Nat} {rows : List SdD} {l : List SaidM} (h : SdOwn w base rows l) (hk : ∀ g cur, obj w g = some (.cells cur 32 (0, 0)) → obj W g = obj w g) : SdOwn W base rows l := by
  refine ⟨h.1, fun i r s h1 h2 => ⟨(h.2 i r s h1 h2).1, (h.2 i r s h1 h2).2.keeps fun g hg => ?_⟩⟩
  rcases (h.2 i r s h1 h2).2.2 with ⟨e, _⟩ | ⟨g', cap, cur, e, _, ho, _⟩
  · rw [e] at hg; simp [Value.ownBlock] at hg
  · rw [e] at hg
    simp [Value.ownBlock] at hg
    subst hg
    exact hk _ cur ho
theorem SdOwn.snoc {w : World} {base : Nat} {rows : List SdD} {l : List SaidM} (h : SdOwn w base rows l) {r : SdD} {s : SaidM} (hn : r.node = s.node) (ho : OwnC w base 32 32 idL (.slice r.oa r.n r.cap) s.ids) : SdOwn w base (rows ++ [r]) (l ++ [s]) := by
  refine ⟨by simp [h.1], fun i r' s' h1 h2 => ?_⟩
  by_cases hi : i < rows.length
  · rw [List.getElem?_append_left hi] at h1
    rw [List.getElem?_append_left (by rw [← h.1]; exact hi)] at h2
    exact h.2 i r' s' h1 h2
  · rw [List.getElem?_append_right (by omega)] at h1
    rw [List.getElem?_append_right (by rw [← h.1]; omega), ← h.1] at h2
    have hi0 : i - rows.length = 0 := by
      have := (List.getElem?_eq_some_iff.1 h1).1
      simpa using this
    rw [hi0] at h1 h2
    cases h1
    cases h2
    exact ⟨hn, ho⟩
theorem FrOwn.setSaid {w W : World} {base : Nat} {d : FrD} {m : FrM} (h : FrOwn w base d m) (hk : ∀ g, g < w.heap.size → (Value.slice d.sa d.sn d.sc).ownBlock ≠ some g → obj W g = obj w g) {rows : List SdD} (h56 : ∃ rows0, OwnC w base 42 2 sdL (.slice d.sa d.sn d.sc) rows0) {a : Option Addr} {n c : Nat} {sd : List SaidM} (ho : OwnC W base 42 2 sdL (.slice a n c) rows) (hs : SdOwn W base rows sd) :
    FrOwn W base ⟨d.phase, d.oa, d.on, d.oc, d.ta, d.tn, d.tc, a, n, c⟩ ⟨m.phase, m.op, m.tips, sd⟩ := by
  obtain ⟨rows0, h1⟩ := h56
  exact ⟨h.phase, h.op.keeps fun g hg => hk g (h.op.lt hg).2 (h.op.apart h1 (by decide) hg), h.tips.keeps fun g hg => hk g (h.tips.lt hg).2 (h.tips.apart h1 (by decide) hg), rows, ho, hs⟩
theorem pushS {ops : Array Oper} {rest : List Oper} {o : Oper} {a : Act} {w : World} {Q : Exit → Act → World → Prop} (hgd : o.guard = none) (s x : Operand) (ho : o.op = .call { callee := .builtin .append, args := #[s, x], argTypes := #[25, 25] })
    (base : Nat) (v : Value) (xs : List SdD) (y : SdD) (hs : a.eval s = v) (hown : OwnC w base 42 2 sdL v xs) (g : Nat) (hx : a.eval x = .slice (some ⟨g, 0, none⟩) 1 1) (hg : obj w g = some (.cells (sdL y).toArray 42 (0, 0)))
    (hlen : xs.length ≤ 1048576) (hbase : base ≤ w.heap.size)
    (h : ∀ v' w', OwnC w' base 42 2 sdL v' (xs ++ [y]) → Below base w w' → (∀ k, k < w.heap.size → v.ownBlock ≠ some k → obj w' k = obj w k) → wpList Tryz.prog ops Q rest (a.put o.dst v') w') : wpList Tryz.prog ops Q (o :: rest) a w := by
  obtain ⟨i0, hi, hz0, hz1, hz2⟩ := info_parts info56
  exact wpList_pushC Tryz.underlying25 hi hz0 hz1 hz2 (by simp [Value.cells]) (by decide) sdL sdL_length sdL_one hgd s x ho base v xs y hs hown g hx hg hlen (by decide) hbase h
theorem asksE_nodes {l : List Vd} {m : FrM} {ph node : Int} (h : asksE l m ph node = 0) : (∀ s ∈ m.said, 0 ≤ s.node ∧ s.node < 32) ∧ (0 ≤ node ∧ node < 32) ∧ (m.said.map (·.node) ++ [node]).Nodup := by
  obtain ⟨h1, _, h2⟩ := asksE_op h
  have h32 := (asksE_len h).2
  unfold mayB saidB at h1
  simp only [Bool.and_eq_true, decide_eq_true_eq, placesB_iff, List.all_eq_true] at h1
  obtain ⟨⟨⟨⟨⟨-, hop⟩, -⟩, -⟩, hsd⟩, -⟩ := h1
  refine ⟨fun s hs => ?_, ?_, ?_⟩
  · have := hsd.2.1 s.node (List.mem_map.2 ⟨s, hs, rfl⟩)
    omega
  · have := hop.1 node h2; omega
  · rw [List.nodup_append]
    refine ⟨hsd.2.2.imp fun h => by omega, by simp, fun a ha b hb => ?_⟩
    simp at hb
    subst hb
    rintro rfl
    obtain ⟨s, hs, e⟩ := List.mem_map.1 ha
    have := (hsd.1 s hs).1.1
    rw [e] at this
    simp [h2] at this
theorem SdOwn.nodes {w : World} {base : Nat} {rows : List SdD} {l : List SaidM} (h : SdOwn w base rows l) : rows.map (·.node) = l.map (·.node) := by
  apply List.ext_getElem?
  intro i
  rw [List.getElem?_map, List.getElem?_map]
  by_cases hi : i < rows.length
  · have hl : i < l.length := by rw [← h.1]; exact hi
    rw [List.getElem?_eq_getElem hi, List.getElem?_eq_getElem hl]
    exact congrArg some (h.2 i _ _ (List.getElem?_eq_getElem hi) (List.getElem?_eq_getElem hl)).1
  · rw [List.getElem?_eq_none (by omega), List.getElem?_eq_none (by rw [← h.1]; omega)]; rfl
def ftip (ids ts : List ID) (k : Nat) : List ID := (ts.take k).filter fun id => decide (id ∈ ids)
theorem ftip_zero (ids ts : List ID) : ftip ids ts 0 = [] := rfl
theorem ftip_yes {ids ts : List ID} {k : Nat} (h : k < ts.length) (hm : ts[k] ∈ ids) : ftip ids ts (k + 1) = ftip ids ts k ++ [ts[k]] := by
  unfold ftip
  rw [List.take_succ_eq_append_getElem h, List.filter_append]
  simp [hm]
theorem ftip_no {ids ts : List ID} {k : Nat} (h : k < ts.length) (hm : ts[k] ∉ ids) : ftip ids ts (k + 1) = ftip ids ts k := by
  unfold ftip
  rw [List.take_succ_eq_append_getElem h, List.filter_append]
  simp [hm]
theorem ftip_len (ids ts : List ID) (k : Nat) : (ftip ids ts k).length ≤ ts.length := Nat.le_trans (List.length_filter_le _ _) (by simp; omega)
theorem ftip_all (ids ts : List ID) : ftip ids ts ts.length = ts.filter fun id => decide (id ∈ ids) := by unfold ftip; rw [List.take_length]
set_option maxRecDepth 100000 in
set_option maxHeartbeats 4000000 in
/-- Accepted -/
theorem acc_act (w : World) (v vi : Value) (l : List Vd) (d : FrD) (m : FrM) (node : Int) (ids : List ID) (hl : SlIn w v 2 vdL l) (h : FrAt w d m) (hs : FrSm m) (hi : SlIn w vi 32 idL ids) :
    Calls Tryz.prog 11 #[v, frV d, .int .i64 node, vi] w (RetFr w (accR l m node ids).1 (accR l m node ids).2) := by
  have hb0 : Below w.heap.size w ((w.alloc (.cells (frC d) 27)).alloc (.cells #[.int .i64 0, .slice none 0 0, .slice none 0 0, .slice none 0 0] 27)) := ((Below.refl _ w).alloc (Nat.le_refl _) _).alloc (by simp) _
  have ob : obj ((w.alloc (.cells (frC d) 27)).alloc (.cells #[.int .i64 0, .slice none 0 0, .slice none 0 0, .slice none 0 0] 27)) w.heap.size = some (.cells (frC d) 27 (0, 0)) := (obj_alloc_past _ _ _ (by simp)).trans (fr_box w d)
  have orr : obj ((w.alloc (.cells (frC d) 27)).alloc (.cells #[.int .i64 0, .slice none 0 0, .slice none 0 0, .slice none 0 0] 27)) (w.heap.size + 1) = some (.cells #[.int .i64 0, .slice none 0 0, .slice none 0 0, .slice none 0 0] 27 (0, 0)) := obj_alloc_at _ _ _ (by simp)
  have hz : ((w.alloc (.cells (frC d) 27)).alloc (.cells #[.int .i64 0, .slice none 0 0, .slice none 0 0, .slice none 0 0] 27)).heap.size = w.heap.size + 2 := by simp
  have HA := Lib.hid (asks_any _ v l d m 2 node (hl.below hb0) (h.below hb0) hs)
  have HL := Lib.hid hl
  have HI := Lib.hid hi
  have HF := Lib.hid (h.below hb0)
  have HS := Lib.hid hs
  have HE : Hid (accR l m node ids = if asksE l m 2 node ≠ 0 then (zeroM, asksE l m 2 node) else (closedM l.length { m with said := addS m node ids } node, 0)) := Lib.hid rfl
  have HEN : Hid (asksE l m 2 node = 0 → m.op ≠ [] ∧ l.length ≤ 32) := Lib.hid asksE_len
  have HND : Hid (asksE l m 2 node = 0 → (∀ s ∈ m.said, 0 ≤ s.node ∧ s.node < 32) ∧ (0 ≤ node ∧ node < 32) ∧ (m.said.map (·.node) ++ [node]).Nodup) := Lib.hid asksE_nodes
  generalize accR l m node ids = T at *
  generalize asksE l m 2 node = E at *
  obtain ⟨dp, doa, don, doc, dta, dtn, dtc, dsa, dsn, dsc⟩ := d
  have B0 := Lib.hid hb0
  have OB := Lib.hid ob
  have OR := Lib.hid orr
  have HZ := Lib.hid hz
  clear hb0 ob orr hz h hl hs hi
  have x0 := cell_at OB.out 0
  have x1 := cell_at OB.out 1
  have x2 := cell_at OB.out 2
  have x3 := cell_at OB.out 3
  simp at x0 x1 x2 x3
  go_enter Tryz.func11, Tryz.ntmps11
  go_wp2_with fail
  generalize (w.alloc (.cells (frC ⟨dp, doa, don, doc, dta, dtn, dtc, dsa, dsn, dsc⟩) 27)).alloc (.cells #[.int .i64 0, .slice none 0 0, .slice none 0 0, .slice none 0 0] 27) = w1 at *
  clear x0 x1 x2 x3
  have hz := HZ.out
  refine HA.out.mono ?_
  rintro e w2 ⟨rfl, b2⟩
  have hz2 := b2.size
  have OB2 := Lib.hid ((obj_below b2 (lt_of_obj OB.out)).trans OB.out)
  have OR2 := Lib.hid ((obj_below b2 (lt_of_obj OR.out)).trans OR.out)
  have B2 : Hid (Below w.heap.size w w2) := Lib.hid (B0.out.trans (b2.mono (by omega)))
  have HF2 := Lib.hid (HF.out.below b2)
  clear HA b2 HF OB OR B0
  by_cases hE : E = 0
  case neg =>
    obtain rfl : T = (zeroM, E) := by rw [HE.out, if_pos hE]
    have y0 := cell_at OR2.out 0
    have y1 := cell_at OR2.out 1
    have y2 := cell_at OR2.out 2
    have y3 := cell_at OR2.out 3
    have yf := frozen_at OR2.out
    simp at y0 y1 y2 y3 yf
    go_wp2_with fail
    have q := obj_setCell_at (.slice none 0 0) (i := 3) (obj_setCell_at (.slice none 0 0) (i := 2) (obj_setCell_at (.slice none 0 0) (i := 1) (obj_setCell_at (.int .i64 0) (i := 0) OR2.out)))
    have z0 := cell_at q 0
    have z1 := cell_at q 1
    have z2 := cell_at q 2
    have z3 := cell_at q 3
    have HQ := Lib.hid q
    clear q
    simp at z0 z1 z2 z3
    have BE : Hid (Below w.heap.size w ((((w2.setCell ⟨w.heap.size + 1, 0, none⟩ (.int .i64 0)).setCell ⟨w.heap.size + 1, 1, none⟩ (.slice none 0 0)).setCell ⟨w.heap.size + 1, 2, none⟩ (.slice none 0 0)).setCell ⟨w.heap.size + 1, 3, none⟩ (.slice none 0 0))) := Lib.hid ((((B2.out.setCell (by simp) _).setCell (by simp) _).setCell (by simp) _).setCell (by simp) _)
    generalize (((w2.setCell ⟨w.heap.size + 1, 0, none⟩ (.int .i64 0)).setCell ⟨w.heap.size + 1, 1, none⟩ (.slice none 0 0)).setCell ⟨w.heap.size + 1, 2, none⟩ (.slice none 0 0)).setCell ⟨w.heap.size + 1, 3, none⟩ (.slice none 0 0) = wE at *
    refine bodyPost_ret (v := .tuple #[frV zeroD, .int .i64 E]) (by simp [results, Tryz.results11, go_sem, z0, z1, z2, z3]) rfl ⟨_, rfl, frOwn_zero _ _, BE.out⟩
  subst hE
  obtain rfl : T = (closedM l.length { m with said := addS m node ids } node, 0) := by rw [HE.out, if_neg (by simp)]
  obtain ⟨hop, hl32⟩ := HEN.out rfl
  have HNN := Lib.hid (HND.out rfl)
  have HOP := Lib.hid hop
  have HOL := Lib.hid HS.out.op
  have x0 := cell_at OB2.out 0
  have x1 := cell_at OB2.out 1
  have x2 := cell_at OB2.out 2
  have x3 := cell_at OB2.out 3
  simp at x0 x1 x2 x3
  clear hop HE HEN HND
  have HOW := Lib.hid (own_any w2 _ m HF2.out HS.out)
  go_wp2_with fail
  clear x0 x1 x2 x3
  refine HOW.out.mono ?_
  rintro e w3 ⟨d3, rfl, hf3, b3⟩
  have hz3 := b3.size
  have OB3 := Lib.hid ((obj_below b3 (lt_of_obj OB2.out)).trans OB2.out)
  have OR3 := Lib.hid ((obj_below b3 (lt_of_obj OR2.out)).trans OR2.out)
  have B3 : Hid (Below w.heap.size w w3) := Lib.hid (B2.out.trans (b3.mono (by omega)))
  have HF3 := Lib.hid hf3
  clear HOW hf3 b3 OB2 OR2 B2
  obtain ⟨ep, eoa, eon, eoc, eta, etn, etc, esa, esn, esc⟩ := d3
  have hbz := lt_of_obj OR3.out
  have OB4 : Hid (obj ((((w3.setCell ⟨w.heap.size, 0, none⟩ (.int .i64 ep)).setCell ⟨w.heap.size, 1, none⟩ (.slice eoa eon eoc)).setCell ⟨w.heap.size, 2, none⟩ (.slice eta etn etc)).setCell ⟨w.heap.size, 3, none⟩ (.slice esa esn esc)) w.heap.size = some (.cells #[(.int .i64 ep), (.slice eoa eon eoc), (.slice eta etn etc), (.slice esa esn esc)] 27 (0, 0))) := Lib.hid (by rw [obj_setCell_at _ (obj_setCell_at _ (obj_setCell_at _ (obj_setCell_at _ OB3.out)))]; rfl)
  have HF4 := Lib.hid ((((HF3.out.setBox OB3.out 0 (.int .i64 ep)).setBox (obj_setCell_at (.int .i64 ep) (i := 0) OB3.out) 1 (.slice eoa eon eoc)).setBox (obj_setCell_at (.slice eoa eon eoc) (i := 1) (obj_setCell_at (.int .i64 ep) (i := 0) OB3.out)) 2 (.slice eta etn etc)).setBox (obj_setCell_at (.slice eta etn etc) (i := 2) (obj_setCell_at (.slice eoa eon eoc) (i := 1) (obj_setCell_at (.int .i64 ep) (i := 0) OB3.out))) 3 (.slice esa esn esc))
  have OR4 : Hid (obj ((((w3.setCell ⟨w.heap.size, 0, none⟩ (.int .i64 ep)).setCell ⟨w.heap.size, 1, none⟩ (.slice eoa eon eoc)).setCell ⟨w.heap.size, 2, none⟩ (.slice eta etn etc)).setCell ⟨w.heap.size, 3, none⟩ (.slice esa esn esc)) (w.heap.size + 1) = _) := Lib.hid ((obj_setCell_ne _ ⟨w.heap.size, 3, none⟩ _ _ (by dsimp only; omega)).trans ((obj_setCell_ne _ ⟨w.heap.size, 2, none⟩ _ _ (by dsimp only; omega)).trans ((obj_setCell_ne _ ⟨w.heap.size, 1, none⟩ _ _ (by dsimp only; omega)).trans ((obj_setCell_ne _ ⟨w.heap.size, 0, none⟩ _ _ (by dsimp only; omega)).trans OR3.out))))
  have B4 : Hid (Below w.heap.size w ((((w3.setCell ⟨w.heap.size, 0, none⟩ (.int .i64 ep)).setCell ⟨w.heap.size, 1, none⟩ (.slice eoa eon eoc)).setCell ⟨w.heap.size, 2, none⟩ (.slice eta etn etc)).setCell ⟨w.heap.size, 3, none⟩ (.slice esa esn esc))) := Lib.hid ((((B3.out.setCell (by simp) _).setCell (by simp) _).setCell (by simp) _).setCell (by simp) _)
  have hz4 : ((((w3.setCell ⟨w.heap.size, 0, none⟩ (.int .i64 ep)).setCell ⟨w.heap.size, 1, none⟩ (.slice eoa eon eoc)).setCell ⟨w.heap.size, 2, none⟩ (.slice eta etn etc)).setCell ⟨w.heap.size, 3, none⟩ (.slice esa esn esc)).heap.size = w3.heap.size := by simp
  have y0 := cell_at OB3.out 0
  have y1 := cell_at OB3.out 1
  have y2 := cell_at OB3.out 2
  have y3 := cell_at OB3.out 3
  simp at y0 y1 y2 y3
  have yf := frozen_at OB3.out
  have x0 := cell_at OB4.out 0
  have x1 := cell_at OB4.out 1
  have x2 := cell_at OB4.out 2
  have x3 := cell_at OB4.out 3
  simp at x0 x1 x2 x3
  have hb3 : w.heap.size < w3.heap.size := by omega
  go_wp2_with fail
  clear x0 x1 x2 x3 y0 y1 y2 y3 yf OB3 OR3 HF3 B3
  generalize (((w3.setCell ⟨w.heap.size, 0, none⟩ (.int .i64 ep)).setCell ⟨w.heap.size, 1, none⟩ (.slice eoa eon eoc)).setCell ⟨w.heap.size, 2, none⟩ (.slice eta etn etc)).setCell ⟨w.heap.size, 3, none⟩ (.slice esa esn esc) = w4 at *
  have HZ4 : Hid (w4.heap.size = w3.heap.size) := Lib.hid hz4
  have OS0 : Hid (obj (w4.alloc (.cells #[.int .i64 node, .slice none 0 0] 42)) w3.heap.size = some (.cells #[.int .i64 node, .slice none 0 0] 42 (0, 0))) := Lib.hid (obj_alloc_at _ _ _ (by rw [hz4]))
  have BS0 : Hid (Below w4.heap.size w4 (w4.alloc (.cells #[.int .i64 node, .slice none 0 0] 42))) := Lib.hid ((Below.refl _ _).alloc (Nat.le_refl _) _)
  have HZS : Hid (w3.heap.size + 1 ≤ (w4.alloc (.cells #[.int .i64 node, .slice none 0 0] 42)).heap.size) := Lib.hid (by simp; omega)
  have HTN : Hid (m.tips.length = etn) := Lib.hid HF4.out.at_.tips.n.symm
  clear hz4
  generalize w4.alloc (.cells #[.int .i64 node, .slice none 0 0] 42) = wa at *
  go_loopw [13, 29] (fun _ v29 wr => ∃ (k : Nat) (a : Option Addr) (n c : Nat), k ≤ etn ∧ v29 = .int .i64 k ∧ Hid (OwnC wr (w3.heap.size + 1) 32 32 idL (.slice a n c) (ftip ids m.tips k)) ∧ Hid (obj wr w3.heap.size = some (.cells #[.int .i64 node, .slice a n c] 42 (0, 0))) ∧ Hid (Below w4.heap.size w4 wr) ∧ Hid (w3.heap.size + 1 ≤ wr.heap.size)) (fun _ i _ => etn - (intOf i).toNat)
  case atStart => exact ⟨0, none, 0, 0, Nat.zero_le _, rfl, Lib.hid (World.ownsRow_nil _ _ _ _), OS0, BS0, HZS⟩
  case round =>
    clear OS0 BS0 HZS
    obtain ⟨k, a, n, c, hk, rfl, HO, OS, HB, HSZ⟩ := hrel
    have hzr := HSZ.out
    have hz4 := HZ4.out
    have OBr := Lib.hid ((obj_below HB.out (lt_of_obj OB4.out)).trans OB4.out)
    have ORr := Lib.hid ((obj_below HB.out (lt_of_obj OR4.out)).trans OR4.out)
    have HFr := Lib.hid (HF4.out.below HB.out)
    have Br : Hid (Below w.heap.size w wr) := Lib.hid (B4.out.trans (HB.out.mono (by omega)))
    by_cases hlt : k < etn
    case neg =>
      obtain rfl : k = etn := by omega
      have HFL : Hid (ftip ids m.tips k = m.tips.filter fun id => decide (id ∈ ids)) := Lib.hid (by rw [← HTN.out]; exact ftip_all ids m.tips)
      obtain ⟨rows, h1, h2⟩ := HFr.out.said
      have HR1 := Lib.hid h1
      have HR2 := Lib.hid h2
      have hrl : rows.length = m.said.length := h2.1
      have hrn := (h1.slIn sdL_length).n
      simp only at hrn
      clear h1 h2
      have HO' := Lib.hid HO.out
      rw [HFL.out] at HO'
      have BA : Hid (Below wr.heap.size wr (wr.alloc (.cells #[.int .i64 node, .slice a n c] 42))) := Lib.hid ((Below.refl _ _).alloc (Nat.le_refl _) _)
      have OA : Hid (obj (wr.alloc (.cells #[.int .i64 node, .slice a n c] 42)) wr.heap.size = some (.cells (sdL ⟨node, a, n, c⟩).toArray 42 (0, 0))) := Lib.hid (obj_alloc_at _ _ _ rfl)
      have HRA := Lib.hid (HR1.out.below BA.out)
      have HSA := Lib.hid (HR2.out.below BA.out)
      have HOA := Lib.hid (HO'.out.below BA.out)
      have HFA := Lib.hid (HFr.out.below BA.out)
      have OBA := Lib.hid ((obj_below BA.out (lt_of_obj OBr.out)).trans OBr.out)
      have ORA := Lib.hid ((obj_below BA.out (lt_of_obj ORr.out)).trans ORr.out)
      have HBA : Hid (Below w.heap.size w (wr.alloc (.cells #[.int .i64 node, .slice a n c] 42))) := Lib.hid (Br.out.trans (BA.out.mono Br.out.size))
      have hzA : (wr.alloc (.cells #[.int .i64 node, .slice a n c] 42)).heap.size = wr.heap.size + 1 := by simp
      have HNB : Hid ((Value.slice esa esn esc).ownBlock ≠ some w.heap.size) := Lib.hid (HR1.out.ne OBr.out (fun cur h => by injection h with h1 h2; cases h2))
      have HNR : Hid ((Value.slice esa esn esc).ownBlock ≠ some (w.heap.size + 1)) := Lib.hid (HR1.out.ne ORr.out (fun cur h => by injection h with h1 h2; cases h2))
      have HLQ : Hid (∀ (v6 : Value) (a' : Option Addr) (c' : Nat), v6 = .slice a' (rows ++ [(⟨node, a, n, c⟩ : SdD)]).length c' → v6 = .slice a' (esn + 1) c') := Lib.hid (fun v6 a' c' e => by rw [e, List.length_append, ← hrn]; rfl)
      have hsl := HS.out.said
      have hrl2 : rows.length ≤ 4096 := by omega
      have hlb := lt_of_obj OBr.out
      have hls := lt_of_obj OS.out
      clear hrn hrl HO HTN
      have x3 := cell_at OBr.out 3
      have u0 := cell_at OS.out 0
      have u1 := cell_at OS.out 1
      simp at x3 u0 u1
      have hbo : w2.heap.size ≤ (wr.alloc (.cells #[.int .i64 node, .slice a n c] 42)).heap.size := by omega
      go_wp2_with (at_builtin; refine pushS rfl _ _ rfl w2.heap.size (.slice esa esn esc) rows ⟨node, a, n, c⟩ rfl HRA.out wr.heap.size rfl OA.out (by omega) hbo ?_; intro v6 w6 r6 b6 g6; obtain ⟨a6, c6, e6⟩ := r6.slice; have e7 := HLQ.out v6 a6 c6 e6; subst e7; have HS6 : Hid (SdOwn w6 w2.heap.size (rows ++ [(⟨node, a, n, c⟩ : SdD)]) (m.said ++ [(⟨node, m.tips.filter fun id => decide (id ∈ ids)⟩ : SaidM)])) := Lib.hid ((HSA.out.keeps (fun g cur hg => g6 g (lt_of_obj hg) (HRA.out.ne hg (fun cur h => by injection h with h1 h2; cases h2)))).snoc rfl ((HOA.out.keeps (fun g hg => g6 g (HOA.out.lt hg).2 (HOA.out.apart HRA.out (by decide) hg))).mono (by omega))); have HF6 : Hid (FrOwn w6 w2.heap.size ⟨ep, eoa, eon, eoc, eta, k, etc, a6, esn + 1, c6⟩ ⟨m.phase, m.op, m.tips, m.said ++ [(⟨node, m.tips.filter fun id => decide (id ∈ ids)⟩ : SaidM)]⟩) := Lib.hid (HFA.out.setSaid g6 ⟨rows, HRA.out⟩ r6 HS6.out); have OB6 : Hid (obj w6 w.heap.size = some (.cells #[.int .i64 ep, .slice eoa eon eoc, .slice eta k etc, .slice esa esn esc] 27 (0, 0))) := Lib.hid ((g6 _ (by rw [hzA]; omega) HNB.out).trans OBA.out); have OR6 : Hid (obj w6 (w.heap.size + 1) = some (.cells #[.int .i64 0, .slice none 0 0, .slice none 0 0, .slice none 0 0] 27 (0, 0))) := Lib.hid ((g6 _ (by rw [hzA]; omega) HNR.out).trans ORA.out); have HB6 : Hid (Below w.heap.size w w6) := Lib.hid (HBA.out.trans (b6.mono (by omega))); have hz6 : wr.heap.size + 1 ≤ w6.heap.size := (by have := b6.size; omega); have y3 := cell_at OB6.out 3; have yf := frozen_at OB6.out 3; clear r6 b6 g6 e6 HS6; simp at y3)
      have HF7 := Lib.hid (HF6.out.setBox OB6.out 3 (.slice a6 (esn + 1) c6))
      have OB7 : Hid (obj (w6.setCell ⟨w.heap.size, 3, none⟩ (.slice a6 (esn + 1) c6)) w.heap.size = some (.cells #[.int .i64 ep, .slice eoa eon eoc, .slice eta k etc, .slice a6 (esn + 1) c6] 27 (0, 0))) := Lib.hid (by rw [obj_setCell_at _ OB6.out]; rfl)
      have OR7 : Hid (obj (w6.setCell ⟨w.heap.size, 3, none⟩ (.slice a6 (esn + 1) c6)) (w.heap.size + 1) = _) := Lib.hid ((obj_setCell_ne _ ⟨w.heap.size, 3, none⟩ _ _ (by dsimp only; omega)).trans OR6.out)
      have HB7 : Hid (Below w.heap.size w (w6.setCell ⟨w.heap.size, 3, none⟩ (.slice a6 (esn + 1) c6))) := Lib.hid (HB6.out.setCell (Nat.le_refl _) _)
      have HZ7 : Hid (wr.heap.size + 1 ≤ (w6.setCell ⟨w.heap.size, 3, none⟩ (.slice a6 (esn + 1) c6)).heap.size) := Lib.hid (by simpa using hz6)
      generalize w6.setCell ⟨w.heap.size, 3, none⟩ (.slice a6 (esn + 1) c6) = w7 at *
      clear HF6 OB6 OR6 HB6 hz6 x3 u0 u1 y3 yf HR1 HR2 HRA HSA HOA HFA OBA ORA HBA
      obtain ⟨rows7, o7, s7⟩ := HF7.out.said
      have hnd := s7.nodes
      have hl7 : rows7.length ≤ 1048576 := by
        have := s7.1
        rw [List.length_append] at this
        simp at this
        omega
      have hne7 : rows7.map (·.node) = m.said.map (·.node) ++ [node] := by rw [hnd, List.map_append]; rfl
      have hr7 : ∀ r ∈ rows7, 0 ≤ r.node ∧ r.node < 1048576 := fun r hr => by
        have h1 : r.node ∈ rows7.map (·.node) := List.mem_map.2 ⟨r, hr, rfl⟩
        rw [hne7, List.mem_append] at h1
        obtain ⟨q1, q2, -⟩ := HNN.out
        rcases h1 with h1 | h1
        · obtain ⟨s, hs, e⟩ := List.mem_map.1 h1
          have := q1 s hs
          rw [← e]
          omega
        · rw [List.mem_singleton] at h1
          rw [h1]
          omega
      have HSO := Lib.hid (sort_said w7 w2.heap.size (.slice a6 (esn + 1) c6) rows7 o7 hl7 hr7 (by rw [hne7]; exact HNN.out.2.2))
      have HO7 := Lib.hid o7
      have HS7 := Lib.hid s7
      clear o7 s7 hnd hne7 hr7
      refine HSO.out.mono ?_
      rintro e w8 ⟨rfl, o8, k8⟩
      have hz7 := HZ7.out
      have hz8 := k8.size
      have HN7 : Hid ((Value.slice a6 (esn + 1) c6).ownBlock ≠ some w.heap.size) := Lib.hid (HO7.out.ne OB7.out (fun cur h => by injection h with h1 h2; cases h2))
      have HN7r : Hid ((Value.slice a6 (esn + 1) c6).ownBlock ≠ some (w.heap.size + 1)) := Lib.hid (HO7.out.ne OR7.out (fun cur h => by injection h with h1 h2; cases h2))
      have OB8 := Lib.hid ((k8.block _ (by omega) HN7.out).trans OB7.out)
      have OR8 := Lib.hid ((k8.block _ (by omega) HN7r.out).trans OR7.out)
      have HS8 := Lib.hid (HS7.out.sort.keeps (fun g cur hg => k8.block g (lt_of_obj hg) (HO7.out.ne hg (fun cur h => by injection h with h1 h2; cases h2))))
      have HF8 : Hid (FrOwn w8 w2.heap.size ⟨ep, eoa, eon, eoc, eta, k, etc, a6, esn + 1, c6⟩ ⟨m.phase, m.op, m.tips, addS m node ids⟩) := Lib.hid (HF7.out.setSaid k8.block ⟨rows7, HO7.out⟩ o8 HS8.out)
      have B8 : Hid (Below w.heap.size w w8) := Lib.hid (HB7.out.trans (k8.below (fun g hg => by have := (HO7.out.lt hg).1; omega) (by omega)))
      clear HSO o8 k8 OB7 OR7 HF7 HB7 HO7 HS7 HS8
      have x0 := cell_at OB8.out 0
      have x1 := cell_at OB8.out 1
      have x2 := cell_at OB8.out 2
      have x3 := cell_at OB8.out 3
      simp at x0 x1 x2 x3
      have HC := Lib.hid (closed_any w8 w2.heap.size v l ⟨ep, eoa, eon, eoc, eta, k, etc, a6, esn + 1, c6⟩ ⟨m.phase, m.op, m.tips, addS m node ids⟩ node (HL.out.below B8.out) HF8.out (by omega) HOP.out HOL.out (by omega))
      have hr9 := lt_of_obj OR8.out
      have hzz9 := B8.out.size
      go_wp2_with fail
      refine HC.out.mono ?_
      rintro e wc ⟨dc, rfl, hfc, bc⟩
      have OR9 := Lib.hid ((obj_below (n := w.heap.size + 1) bc (by omega)).trans OR8.out)
      have B9 : Hid (Below w.heap.size w wc) := Lib.hid (B8.out.trans (bc.mono (by omega)))
      have HF9 := Lib.hid (hfc.mono (base := w.heap.size) (by omega))
      clear HC hfc bc
      obtain ⟨gp, goa, gon, goc, gta, gtn, gtc, gsa, gsn, gsc⟩ := dc
      have y0 := cell_at OR9.out 0
      have y1 := cell_at OR9.out 1
      have y2 := cell_at OR9.out 2
      have y3 := cell_at OR9.out 3
      have yf := frozen_at OR9.out
      simp at y0 y1 y2 y3 yf
      go_wp2_with fail
      have q := obj_setCell_at (.slice gsa gsn gsc) (i := 3) (obj_setCell_at (.slice gta gtn gtc) (i := 2) (obj_setCell_at (.slice goa gon goc) (i := 1) (obj_setCell_at (.int .i64 gp) (i := 0) OR9.out)))
      have z0 := cell_at q 0
      have z1 := cell_at q 1
      have z2 := cell_at q 2
      have z3 := cell_at q 3
      have HQ := Lib.hid q
      clear q
      simp at z0 z1 z2 z3
      have HFE := Lib.hid ((((HF9.out.setBox OR9.out 0 (.int .i64 gp)).setBox (obj_setCell_at (.int .i64 gp) (i := 0) OR9.out) 1 (.slice goa gon goc)).setBox (obj_setCell_at (.slice goa gon goc) (i := 1) (obj_setCell_at (.int .i64 gp) (i := 0) OR9.out)) 2 (.slice gta gtn gtc)).setBox (obj_setCell_at (.slice gta gtn gtc) (i := 2) (obj_setCell_at (.slice goa gon goc) (i := 1) (obj_setCell_at (.int .i64 gp) (i := 0) OR9.out))) 3 (.slice gsa gsn gsc))
      have BE : Hid (Below w.heap.size w ((((wc.setCell ⟨w.heap.size + 1, 0, none⟩ (.int .i64 gp)).setCell ⟨w.heap.size + 1, 1, none⟩ (.slice goa gon goc)).setCell ⟨w.heap.size + 1, 2, none⟩ (.slice gta gtn gtc)).setCell ⟨w.heap.size + 1, 3, none⟩ (.slice gsa gsn gsc))) := Lib.hid ((((B9.out.setCell (by simp) _).setCell (by simp) _).setCell (by simp) _).setCell (by simp) _)
      generalize (((wc.setCell ⟨w.heap.size + 1, 0, none⟩ (.int .i64 gp)).setCell ⟨w.heap.size + 1, 1, none⟩ (.slice goa gon goc)).setCell ⟨w.heap.size + 1, 2, none⟩ (.slice gta gtn gtc)).setCell ⟨w.heap.size + 1, 3, none⟩ (.slice gsa gsn gsc) = wE at *
      refine bodyPost_ret (v := .tuple #[frV ⟨gp, goa, gon, goc, gta, gtn, gtc, gsa, gsn, gsc⟩, .int .i64 0]) (by simp [results, Tryz.results11, go_sem, z0, z1, z2, z3]) rfl ⟨_, rfl, HFE.out, BE.out⟩
    have hkt : k < m.tips.length := by have := HTN.out; omega
    obtain ⟨ao, co, e0, g1, g2, g3⟩ := HFr.out.tips.slIn idL_length
    obtain ⟨bt, ot, et, hbt, hrow⟩ := g3 (by omega)
    simp only [Value.slice.injEq] at e0
    obtain ⟨rfl, e1, rfl⟩ := e0
    subst et
    clear g1 g2 g3 e1
    have hs1 := hrow k hkt
    have HYE := Lib.hid (fun (hm : m.tips[k] ∈ ids) => ftip_yes (ids := ids) hkt hm)
    have HNO := Lib.hid (fun (hm : m.tips[k] ∉ ids) => ftip_no (ids := ids) hkt hm)
    have hfl := ftip_len ids m.tips k
    have htl := HS.out.tips
    generalize m.tips[k] = x at *
    clear hrow
    have hki : (k : Int) < etn := by omega
    have o9 : Hid (obj (wr.alloc (.cells (idL x).toArray 32)) wr.heap.size = some (.cells (idL x).toArray 32 (0, 0))) := Lib.hid (obj_alloc_at _ _ _ rfl)
    have p9 : subOf (obj (wr.alloc (.cells (idL x).toArray 32)) wr.heap.size) 0 32 = some (idL x).toArray := by rw [o9.out, subOf_cells (by simp), subA_all (by simp)]
    have BX : Hid (Below wr.heap.size wr (wr.alloc (.cells (idL x).toArray 32))) := Lib.hid ((Below.refl _ _).alloc (Nat.le_refl _) _)
    have HCT := Lib.hid (contains_any (wr.alloc (.cells (idL x).toArray 32)) vi ids x (HI.out.below (Br.out.trans (BX.out.mono Br.out.size))))
    have hza : (wr.alloc (.cells (idL x).toArray 32)).heap.size = wr.heap.size + 1 := by simp
    go_wp2_with fail
    refine HCT.out.mono ?_
    rintro e wc ⟨rfl, bc⟩
    have hzc := bc.size
    have BC : Hid (Below wr.heap.size wr wc) := Lib.hid (BX.out.trans (bc.mono (by omega)))
    have OSc := Lib.hid ((obj_below BC.out (lt_of_obj OS.out)).trans OS.out)
    have HOc := Lib.hid (HO.out.below BC.out)
    have oxc := (obj_below bc (lt_of_obj o9.out)).trans o9.out
    have pxc : subOf (obj wc wr.heap.size) 0 32 = some (idL x).toArray := by rw [oxc, subOf_cells (by simp), subA_all (by simp)]
    have HBc : Hid (Below w4.heap.size w4 wc) := Lib.hid (HB.out.trans (BC.out.mono HB.out.size))
    have HZc : Hid (w3.heap.size + 1 ≤ wc.heap.size) := Lib.hid (by omega)
    clear bc HCT p9 o9 BX oxc hs1
    by_cases hin : x ∈ ids
    case neg =>
      have hd2 : decide (x ∈ ids) = false := decide_eq_false hin
      have HO2 : Hid (OwnC wc (w3.heap.size + 1) 32 32 idL (.slice a n c) (ftip ids m.tips (k + 1))) := Lib.hid (by rw [HNO.out hin]; exact HOc.out)
      clear hin
      go_wp2_with fail
      go_roundw
      case rel => exact ⟨k + 1, a, n, c, by omega, by go_num, HO2, OSc, HBc, HZc⟩
      case measure => exact meas_step' hlt
    have hd2 : decide (x ∈ ids) = true := decide_eq_true hin
    have HYK := Lib.hid (HYE.out hin)
    clear hin
    have hn : n = (ftip ids m.tips k).length := HOc.out.1 |> fun _ => (HOc.out.slIn idL_length).n
    have BA : Hid (Below wc.heap.size wc (wc.alloc (.cells (idL x).toArray 32))) := Lib.hid ((Below.refl _ _).alloc (Nat.le_refl _) _)
    have OA : Hid (obj (wc.alloc (.cells (idL x).toArray 32)) wc.heap.size = some (.cells (idL x).toArray 32 (0, 0))) := Lib.hid (obj_alloc_at _ _ _ rfl)
    have HOA := Lib.hid (HOc.out.below BA.out)
    have OSA := Lib.hid ((obj_below BA.out (lt_of_obj OSc.out)).trans OSc.out)
    have HBA : Hid (Below w4.heap.size w4 (wc.alloc (.cells (idL x).toArray 32))) := Lib.hid (HBc.out.trans (BA.out.mono HBc.out.size))
    have hzA : (wc.alloc (.cells (idL x).toArray 32)).heap.size = wc.heap.size + 1 := by simp
    have HNB : Hid ((Value.slice a n c).ownBlock ≠ some w3.heap.size) := Lib.hid (HOc.out.ne OSc.out (fun cur h => by injection h with h1 h2; cases h2))
    have hxl := lt_of_obj OSc.out
    have hxw : wr.heap.size < wc.heap.size := by omega
    have HLQ : Hid (∀ (v6 : Value) (a : Option Addr) (c' : Nat), v6 = .slice a (ftip ids m.tips k ++ [x]).length c' → v6 = .slice a (n + 1) c') := Lib.hid (fun v6 a c' e => by rw [e, List.length_append, ← hn]; rfl)
    clear hn
    have x1 := cell_at OSc.out 1
    simp at x1
    have hbo : w3.heap.size + 1 ≤ (wc.alloc (.cells (idL x).toArray 32)).heap.size := by omega
    go_wp2_with (at_builtin; refine pushN rfl _ _ rfl (w3.heap.size + 1) (.slice a n c) (ftip ids m.tips k) x rfl HOA.out wc.heap.size rfl OA.out (by omega) hbo ?_; intro v6 w6 r6 b6 g6; obtain ⟨a6, c6, e6⟩ := r6.slice; have e7 := HLQ.out v6 a6 c6 e6; subst e7; have HO6 : Hid (OwnC w6 (w3.heap.size + 1) 32 32 idL (.slice a6 (n + 1) c6) (ftip ids m.tips (k + 1))) := Lib.hid (by rw [HYK.out]; exact r6); have OS6 : Hid (obj w6 w3.heap.size = some (.cells #[.int .i64 node, .slice a n c] 42 (0, 0))) := Lib.hid ((g6 _ (by rw [hzA]; omega) HNB.out).trans OSA.out); have HB6 : Hid (Below w4.heap.size w4 w6) := Lib.hid (HBA.out.trans (b6.mono (by omega))); have hz6 : w3.heap.size + 1 ≤ w6.heap.size := (by have := b6.size; omega); have u1 := cell_at OS6.out 1; have uf := frozen_at OS6.out 1; clear r6 b6 g6 e6; simp at u1)
    have HO7 := Lib.hid (HO6.out.setBox OS6.out (by decide) 1 (.slice a6 (n + 1) c6))
    have OS7 : Hid (obj (w6.setCell ⟨w3.heap.size, 1, none⟩ (.slice a6 (n + 1) c6)) w3.heap.size = some (.cells #[.int .i64 node, .slice a6 (n + 1) c6] 42 (0, 0))) := Lib.hid (by rw [obj_setCell_at _ OS6.out]; rfl)
    have HB7 : Hid (Below w4.heap.size w4 (w6.setCell ⟨w3.heap.size, 1, none⟩ (.slice a6 (n + 1) c6))) := Lib.hid (HB6.out.setCell (by dsimp only; omega) _)
    have HZ7 : Hid (w3.heap.size + 1 ≤ (w6.setCell ⟨w3.heap.size, 1, none⟩ (.slice a6 (n + 1) c6)).heap.size) := Lib.hid (by simpa using hz6)
    go_roundw
    case rel => exact ⟨k + 1, a6, n + 1, c6, by omega, by go_num, HO7, OS7, HB7, HZ7⟩
    case measure => exact meas_step' hlt
end Go.Proofs.YtmgpfmgmpmkkaaaGreat
