import Derived.Test.YtmgpfmgmpmkkaaaGreatAns
namespace Go.Proofs.YtmgpfmgmpmkkaaaGreat
open Go.RowKit Go.Shelf Go.Sort

def AsAt (w : World) (xs : List AnsD) (av : List AnsM) : Prop :=
  xs.length = av.length ∧ ∀ (i : Nat) (r : AnsD) (a : AnsM), xs[i]? = some r → av[i]? = some a → r.fails = a.fails ∧ r.tip = a.tip ∧ SlIn w (.slice r.oa r.n r.cap) 32 idL a.ids
theorem AsAt.below {w W : World} {xs : List AnsD} {av : List AnsM} (h : AsAt w xs av) (hb : Below w.heap.size w W) : AsAt W xs av :=
  ⟨h.1, fun i r a h1 h2 => ⟨(h.2 i r a h1 h2).1, (h.2 i r a h1 h2).2.1, (h.2 i r a h1 h2).2.2.below hb⟩⟩
def ansOne (l : List Vd) (m : FrM) (node : Int) (a : AnsM) : FrM × Int := if a.fails = true then failR l m node else if m.phase = 1 then tipR l m node a.tip else accR l m node a.ids
def ansN (l : List Vd) (m : FrM) (node : Int) (av : List AnsM) : FrM × Bool := ((ansOne l m node (ansAt av node)).1, decide ((ansOne l m node (ansAt av node)).2 = 0))
def ansR (l : List Vd) (m : FrM) (k : Nat) (av : List AnsM) : FrM × Bool :=
  if h : m.op = [] then (m, false) else ansN l m (m.op[k % m.op.length]'(Nat.mod_lt _ (List.length_pos_iff.2 h))) av
attribute [go_sem] ans_tip
theorem fr_cellsA {W : World} {b : Nat} {c0 c1 c2 c3 : Value} (h : obj W b = some (.cells #[c0, c1, c2, c3] 27 (0, 0))) : W.cell? ⟨b, 0, none⟩ = some c0 ∧ W.cell? ⟨b, 1, none⟩ = some c1 ∧ W.cell? ⟨b, 2, none⟩ = some c2 ∧ W.cell? ⟨b, 3, none⟩ = some c3 :=
  ⟨cell_at h 0, cell_at h 1, cell_at h 2, cell_at h 3⟩
set_option maxRecDepth 100000 in
set_option maxHeartbeats 4000000 in
/-- answered -/
theorem answered_any (w : World) (v va : Value) (l : List Vd) (d : FrD) (m : FrM) (k : Nat) (xs : List AnsD) (av : List AnsM) (hl : SlIn w v 2 vdL l) (ho : FrOwn w 0 d m) (hs : FrSm m) (ha : SlIn w va 34 ansL xs) (hA : AsAt w xs av) (hk : k < 4611686018427387904) :
    Calls Tryz.prog 22 #[v, frV d, .int .i64 k, va] w fun e w' => ∃ d', e = .returned (.tuple #[frV d', .bool (ansR l m k av).2]) ∧ FrOwn w' 0 d' (ansR l m k av).1 ∧ Below w.heap.size w w' := by
  have h := ho.at_
  have HFO := Lib.hid ho
  have hb0 : Below w.heap.size w ((w.alloc (.cells (frC d) 27)).alloc (.cells #[.int .i64 0, .slice none 0 0, .slice none 0 0, .slice none 0 0] 27)) := ((Below.refl _ w).alloc (Nat.le_refl _) _).alloc (by simp) _
  have ob : obj ((w.alloc (.cells (frC d) 27)).alloc (.cells #[.int .i64 0, .slice none 0 0, .slice none 0 0, .slice none 0 0] 27)) w.heap.size = some (.cells (frC d) 27 (0, 0)) := (obj_alloc_past _ _ _ (by simp)).trans (fr_box w d)
  have orr : obj ((w.alloc (.cells (frC d) 27)).alloc (.cells #[.int .i64 0, .slice none 0 0, .slice none 0 0, .slice none 0 0] 27)) (w.heap.size + 1) = some (.cells #[.int .i64 0, .slice none 0 0, .slice none 0 0, .slice none 0 0] 27 (0, 0)) := obj_alloc_at _ _ _ (by simp)
  have hz : ((w.alloc (.cells (frC d) 27)).alloc (.cells #[.int .i64 0, .slice none 0 0, .slice none 0 0, .slice none 0 0] 27)).heap.size = w.heap.size + 2 := by simp
  have HL := Lib.hid hl
  have HF := Lib.hid h
  have HS := Lib.hid hs
  have HX := Lib.hid ha
  have HA := Lib.hid hA
  have HE0 : Hid (m.op = [] → ansR l m k av = (m, false)) := Lib.hid (fun e => by unfold ansR; rw [dif_pos e])
  have HE1 : Hid (∀ (q : Nat) (hq : q < m.op.length), q = k % m.op.length → ansR l m k av = ansN l m m.op[q] av) := Lib.hid (fun q hq e => by subst e; unfold ansR; rw [dif_neg (by intro e; rw [e] at hq; simp at hq)])
  generalize ansR l m k av = T at *
  obtain ⟨dp, doa, don, doc, dta, dtn, dtc, dsa, dsn, dsc⟩ := d
  have HON : Hid (m.op.length = don) := Lib.hid h.op.n.symm
  have B0 := Lib.hid hb0
  have OB := Lib.hid ob
  have OR := Lib.hid orr
  have HZ := Lib.hid hz
  clear hb0 ob orr hz h ho hl hs ha hA
  have x0 := cell_at OB.out 0
  have x1 := cell_at OB.out 1
  have x2 := cell_at OB.out 2
  have x3 := cell_at OB.out 3
  simp at x0 x1 x2 x3
  by_cases h0 : don = 0
  case pos =>
    subst h0
    obtain rfl : T = (m, false) := HE0.out (List.length_eq_zero_iff.1 HON.out)
    have q : obj ((w.alloc (.cells (frC ⟨dp, doa, 0, doc, dta, dtn, dtc, dsa, dsn, dsc⟩) 27)).alloc (.cells #[.int .i64 dp, .slice doa 0 doc, .slice dta dtn dtc, .slice dsa dsn dsc] 27)) (w.heap.size + 1) = some (.cells #[.int .i64 dp, .slice doa 0 doc, .slice dta dtn dtc, .slice dsa dsn dsc] 27 (0, 0)) := obj_alloc_at _ _ _ (by simp)
    have BE : Hid (Below w.heap.size w ((w.alloc (.cells (frC ⟨dp, doa, 0, doc, dta, dtn, dtc, dsa, dsn, dsc⟩) 27)).alloc (.cells #[.int .i64 dp, .slice doa 0 doc, .slice dta dtn dtc, .slice dsa dsn dsc] 27))) := Lib.hid (((Below.refl _ w).alloc (Nat.le_refl _) _).alloc (by simp) _)
    have z := fr_cellsA q
    clear q
    obtain ⟨z0, z1, z2, z3⟩ := z
    have hz := HZ.out
    go_enter Tryz.func22, Tryz.ntmps22
    go_wp2_with fail
    generalize ((w.alloc (.cells (frC ⟨dp, doa, 0, doc, dta, dtn, dtc, dsa, dsn, dsc⟩) 27)).alloc (.cells #[.int .i64 dp, .slice doa 0 doc, .slice dta dtn dtc, .slice dsa dsn dsc] 27)) = wE at *
    refine bodyPost_ret (v := .tuple #[frV ⟨dp, doa, 0, doc, dta, dtn, dtc, dsa, dsn, dsc⟩, .bool false]) (by simp [results, Tryz.results22, go_sem, z0, z1, z2, z3]) rfl ⟨⟨dp, doa, 0, doc, dta, dtn, dtc, dsa, dsn, dsc⟩, rfl, HFO.out.below BE.out, BE.out⟩
  have h0i : ¬ (don : Int) = 0 := by omega
  go_enter Tryz.func22, Tryz.ntmps22
  go_wp2_with fail
  generalize (w.alloc (.cells (frC ⟨dp, doa, don, doc, dta, dtn, dtc, dsa, dsn, dsc⟩) 27)).alloc (.cells #[.int .i64 0, .slice none 0 0, .slice none 0 0, .slice none 0 0] 27) = w1 at *
  clear x0 x1 x2 x3
  have hz := HZ.out
  have hqd : k % don < don := Nat.mod_lt _ (by omega)
  have hqm : k % don < m.op.length := by rw [HON.out]; exact hqd
  have HT := Lib.hid (HE1.out (k % don) hqm (by rw [HON.out]))
  have HMEM : Hid (m.op[k % don] ∈ m.op) := Lib.hid (List.getElem_mem hqm)
  obtain ⟨bo, oo, rfl, hbo, hrow⟩ := (fun (h : SlIn w (.slice doa don doc) 1 intL m.op) => (show ∃ b off, doa = some ⟨b, off, none⟩ ∧ b < w.heap.size ∧ RowAt w b off 1 intL m.op by obtain ⟨oa, cp, e, _, _, g⟩ := h; simp only [Value.slice.injEq] at e; obtain ⟨rfl, -, -⟩ := e; exact g (by omega))) HF.out.op
  have hs1 := hrow (k % don) hqm
  have cx : w.cell? ⟨bo, oo + k % don * 1, none⟩ = some (.int .i64 m.op[k % don]) := by
    have := subOf_cell hs1 (j := 0) (by decide)
    simpa [intL] using this
  rw [Nat.mul_one] at cx
  have cx1 : w1.cell? ⟨bo, oo + k % don, none⟩ = some (.int .i64 m.op[k % don]) := (B0.out.cell (p := ⟨bo, oo + k % don, none⟩) hbo).trans cx
  generalize m.op[k % don] = node at *
  have x1 := cell_at OB.out 1
  simp at x1
  clear hrow hs1 cx HE0 HE1
  go_region
  have OB2 : Hid (obj w1.drew w.heap.size = some (.cells (frC ⟨dp, some ⟨bo, oo, none⟩, don, doc, dta, dtn, dtc, dsa, dsn, dsc⟩) 27 (0, 0))) := OB
  have OR2 : Hid (obj w1.drew (w.heap.size + 1) = some (.cells #[.int .i64 0, .slice none 0 0, .slice none 0 0, .slice none 0 0] 27 (0, 0))) := OR
  have B2 : Hid (Below w.heap.size w w1.drew) := Lib.hid B0.out.drew
  have HZ2 : Hid (w1.drew.heap.size = w.heap.size + 2) := HZ
  clear OB OR B0 HZ hz x1 cx1 hqd hqm
  generalize w1.drew = w2 at *
  have HT2 : Hid (T = ((ansOne l m node (ansAt av node)).1, decide ((ansOne l m node (ansAt av node)).2 = 0))) := Lib.hid HT.out
  clear HT
  by_cases hin : 0 ≤ node ∧ node < xs.length
  case pos =>
    obtain ⟨hn0, hn1⟩ := hin
    obtain ⟨j, rfl⟩ : ∃ j : Nat, node = j := ⟨node.toNat, by omega⟩
    have hjx : j < xs.length := by omega
    have hja : j < av.length := by have := HA.out.1; omega
    have HAA : Hid (ansAt av (j : Int) = av[j]) := Lib.hid (by unfold ansAt; rw [if_neg (by omega)]; simp [List.getElem?_eq_getElem hja])
    have hq := HA.out.2 j xs[j] av[j] (List.getElem?_eq_getElem hjx) (List.getElem?_eq_getElem hja)
    rw [HAA.out] at HT2
    obtain ⟨oa', cap', rfl, -, hcm, hax⟩ := HX.out
    obtain ⟨bx, ox, rfl, hbx, hrx⟩ := hax (by omega)
    have hs2 := hrx j hjx
    rw [← obj_below B2.out hbx] at hs2
    have hbx2 : bx < w2.heap.size := by have := HZ2.out; omega
    unfold maxLen at hcm
    generalize xs[j] = x at *
    generalize av[j] = a at *
    obtain ⟨hfa, hta, hia⟩ := hq
    have HTA : Hid (x.fails = false → x.tip = a.tip ∧ SlIn w (.slice x.oa x.n x.cap) 32 idL a.ids) := Lib.hid (fun _ => ⟨hta, hia⟩)
    have HFA := Lib.hid hfa
    clear hax hrx hia hta hfa hn0
    have hni : (j : Int) < xs.length := by omega
    obtain ⟨node, hnd⟩ : ∃ node : Int, node = (j : Int) := ⟨_, rfl⟩
    rw [← hnd] at HT2 HMEM
    subst hnd
    have hz2 := HZ2.out
    have b3 : Below w2.heap.size w2 (w2.alloc (.cells (ansL x).toArray 54)) := (Below.refl _ _).alloc (Nat.le_refl _) _
    have b4 : Below (w2.alloc (.cells (ansL x).toArray 54)).heap.size (w2.alloc (.cells (ansL x).toArray 54)) ((w2.alloc (.cells (ansL x).toArray 54)).alloc (.cells #[.int .i64 0, .slice none 0 0, .slice none 0 0, .slice none 0 0] 27)) := (Below.refl _ _).alloc (Nat.le_refl _) _
    have hz3 : (w2.alloc (.cells (ansL x).toArray 54)).heap.size = w.heap.size + 2 + 1 := by simp [hz2]
    have hz4 : ((w2.alloc (.cells (ansL x).toArray 54)).alloc (.cells #[.int .i64 0, .slice none 0 0, .slice none 0 0, .slice none 0 0] 27)).heap.size = w.heap.size + 2 + 1 + 1 := by simp [hz2]
    have ox : obj (w2.alloc (.cells (ansL x).toArray 54)) (w.heap.size + 2) = some (.cells (ansL x).toArray 54 (0, 0)) := obj_alloc_at _ _ _ hz2.symm
    have OX4 := Lib.hid ((obj_below b4 (lt_of_obj ox)).trans ox)
    have OZ4 : Hid (obj ((w2.alloc (.cells (ansL x).toArray 54)).alloc (.cells #[.int .i64 0, .slice none 0 0, .slice none 0 0, .slice none 0 0] 27)) (w.heap.size + 2 + 1) = some (.cells #[.int .i64 0, .slice none 0 0, .slice none 0 0, .slice none 0 0] 27 (0, 0))) := Lib.hid (obj_alloc_at _ _ _ hz3.symm)
    have OB4 := Lib.hid ((obj_below (b3.trans (b4.mono b3.size)) (lt_of_obj OB2.out)).trans OB2.out)
    have OR4 := Lib.hid ((obj_below (b3.trans (b4.mono b3.size)) (lt_of_obj OR2.out)).trans OR2.out)
    have B4 : Hid (Below w.heap.size w ((w2.alloc (.cells (ansL x).toArray 54)).alloc (.cells #[.int .i64 0, .slice none 0 0, .slice none 0 0, .slice none 0 0] 27))) := Lib.hid (B2.out.trans ((b3.trans (b4.mono b3.size)).mono (by omega)))
    have HZ4 := Lib.hid hz4
    have HFL : Hid (FrAt ((w2.alloc (.cells (ansL x).toArray 54)).alloc (.cells #[.int .i64 0, .slice none 0 0, .slice none 0 0, .slice none 0 0] 27)) ⟨dp, some ⟨bo, oo, none⟩, don, doc, dta, dtn, dtc, dsa, dsn, dsc⟩ m) := Lib.hid (HF.out.below B4.out)
    have HPH : Hid (dp = m.phase) := Lib.hid HF.out.phase
    clear b3 b4 ox hz3 hz4
    obtain ⟨c0, c1, c33⟩ := ans_box OX4.out
    have x0 := cell_at OB4.out 0
    have x1 := cell_at OB4.out 1
    have x2 := cell_at OB4.out 2
    have x3 := cell_at OB4.out 3
    simp at x0 x1 x2 x3
    have HAO : Hid (ansOne l m (j : Int) a = if a.fails = true then failR l m (j : Int) else if m.phase = 1 then tipR l m (j : Int) a.tip else accR l m (j : Int) a.ids) := Lib.hid rfl
    cases hxf : x.fails with
    | true =>
      have HR : Hid (ansOne l m (j : Int) a = failR l m (j : Int)) := Lib.hid (by rw [HAO.out, if_pos (by rw [← HFA.out, hxf])])
      rw [hxf] at c0
      go_wp2_with fail
      refine (failed_any _ v l ⟨dp, some ⟨bo, oo, none⟩, don, doc, dta, dtn, dtc, dsa, dsn, dsc⟩ m (j : Int) (HL.out.below B4.out) HFL.out HS.out).mono ?_
      generalize ((w2.alloc (.cells (ansL x).toArray 54)).alloc (.cells #[.int .i64 0, .slice none 0 0, .slice none 0 0, .slice none 0 0] 27)) = w4 at *
      generalize failR l m (j : Int) = rr at *
      obtain ⟨rm, rc⟩ := rr
      rintro e w5 ⟨⟨gp, goa, gon, goc, gta, gtn, gtc, gsa, gsn, gsc⟩, rfl, hf5, b5⟩
      have OZ5 := Lib.hid ((obj_below b5 (lt_of_obj OZ4.out)).trans OZ4.out)
      have OR5 := Lib.hid ((obj_below b5 (lt_of_obj OR4.out)).trans OR4.out)
      have B5 : Hid (Below w.heap.size w w5) := Lib.hid (B4.out.trans (b5.mono B4.out.size))
      have HF5 := Lib.hid (hf5.mono (base := 0) (Nat.zero_le _))
      clear hf5 b5
      have OC1 : Hid (obj ((((w5.setCell ⟨(w.heap.size + 2 + 1), 0, none⟩ (.int .i64 gp)).setCell ⟨(w.heap.size + 2 + 1), 1, none⟩ (.slice goa gon goc)).setCell ⟨(w.heap.size + 2 + 1), 2, none⟩ (.slice gta gtn gtc)).setCell ⟨(w.heap.size + 2 + 1), 3, none⟩ (.slice gsa gsn gsc)) (w.heap.size + 1) = some (.cells #[.int .i64 0, .slice none 0 0, .slice none 0 0, .slice none 0 0] 27 (0, 0))) := Lib.hid ((obj_setCell_ne _ ⟨(w.heap.size + 2 + 1), 3, none⟩ _ _ (by dsimp only; omega)).trans ((obj_setCell_ne _ ⟨(w.heap.size + 2 + 1), 2, none⟩ _ _ (by dsimp only; omega)).trans ((obj_setCell_ne _ ⟨(w.heap.size + 2 + 1), 1, none⟩ _ _ (by dsimp only; omega)).trans ((obj_setCell_ne _ ⟨(w.heap.size + 2 + 1), 0, none⟩ _ _ (by dsimp only; omega)).trans OR5.out))))
      have OCB : Hid (obj ((((w5.setCell ⟨(w.heap.size + 2 + 1), 0, none⟩ (.int .i64 gp)).setCell ⟨(w.heap.size + 2 + 1), 1, none⟩ (.slice goa gon goc)).setCell ⟨(w.heap.size + 2 + 1), 2, none⟩ (.slice gta gtn gtc)).setCell ⟨(w.heap.size + 2 + 1), 3, none⟩ (.slice gsa gsn gsc)) (w.heap.size + 2 + 1) = some (.cells #[(.int .i64 gp), (.slice goa gon goc), (.slice gta gtn gtc), (.slice gsa gsn gsc)] 27 (0, 0))) := Lib.hid (obj_setCell_at (.slice gsa gsn gsc) (i := 3) (obj_setCell_at (.slice gta gtn gtc) (i := 2) (obj_setCell_at (.slice goa gon goc) (i := 1) (obj_setCell_at (.int .i64 gp) (i := 0) OZ5.out))))
      have HFC := Lib.hid ((((HF5.out.setBox OZ5.out 0 (.int .i64 gp)).setBox (obj_setCell_at (.int .i64 gp) (i := 0) OZ5.out) 1 (.slice goa gon goc)).setBox (obj_setCell_at (.slice goa gon goc) (i := 1) (obj_setCell_at (.int .i64 gp) (i := 0) OZ5.out)) 2 (.slice gta gtn gtc)).setBox (obj_setCell_at (.slice gta gtn gtc) (i := 2) (obj_setCell_at (.slice goa gon goc) (i := 1) (obj_setCell_at (.int .i64 gp) (i := 0) OZ5.out))) 3 (.slice gsa gsn gsc))
      have HFE := Lib.hid ((((HFC.out.setBox OC1.out 0 (.int .i64 gp)).setBox (obj_setCell_at (.int .i64 gp) (i := 0) OC1.out) 1 (.slice goa gon goc)).setBox (obj_setCell_at (.slice goa gon goc) (i := 1) (obj_setCell_at (.int .i64 gp) (i := 0) OC1.out)) 2 (.slice gta gtn gtc)).setBox (obj_setCell_at (.slice gta gtn gtc) (i := 2) (obj_setCell_at (.slice goa gon goc) (i := 1) (obj_setCell_at (.int .i64 gp) (i := 0) OC1.out))) 3 (.slice gsa gsn gsc))
      have OCE : Hid (obj ((((((((w5.setCell ⟨(w.heap.size + 2 + 1), 0, none⟩ (.int .i64 gp)).setCell ⟨(w.heap.size + 2 + 1), 1, none⟩ (.slice goa gon goc)).setCell ⟨(w.heap.size + 2 + 1), 2, none⟩ (.slice gta gtn gtc)).setCell ⟨(w.heap.size + 2 + 1), 3, none⟩ (.slice gsa gsn gsc)).setCell ⟨(w.heap.size + 1), 0, none⟩ (.int .i64 gp)).setCell ⟨(w.heap.size + 1), 1, none⟩ (.slice goa gon goc)).setCell ⟨(w.heap.size + 1), 2, none⟩ (.slice gta gtn gtc)).setCell ⟨(w.heap.size + 1), 3, none⟩ (.slice gsa gsn gsc)) (w.heap.size + 1) = some (.cells #[(.int .i64 gp), (.slice goa gon goc), (.slice gta gtn gtc), (.slice gsa gsn gsc)] 27 (0, 0))) := Lib.hid (obj_setCell_at (.slice gsa gsn gsc) (i := 3) (obj_setCell_at (.slice gta gtn gtc) (i := 2) (obj_setCell_at (.slice goa gon goc) (i := 1) (obj_setCell_at (.int .i64 gp) (i := 0) OC1.out))))
      have BE : Hid (Below w.heap.size w ((((((((w5.setCell ⟨(w.heap.size + 2 + 1), 0, none⟩ (.int .i64 gp)).setCell ⟨(w.heap.size + 2 + 1), 1, none⟩ (.slice goa gon goc)).setCell ⟨(w.heap.size + 2 + 1), 2, none⟩ (.slice gta gtn gtc)).setCell ⟨(w.heap.size + 2 + 1), 3, none⟩ (.slice gsa gsn gsc)).setCell ⟨(w.heap.size + 1), 0, none⟩ (.int .i64 gp)).setCell ⟨(w.heap.size + 1), 1, none⟩ (.slice goa gon goc)).setCell ⟨(w.heap.size + 1), 2, none⟩ (.slice gta gtn gtc)).setCell ⟨(w.heap.size + 1), 3, none⟩ (.slice gsa gsn gsc))) := Lib.hid ((((((((B5.out.setCell (by dsimp only; omega) _).setCell (by dsimp only; omega) _).setCell (by dsimp only; omega) _).setCell (by dsimp only; omega) _).setCell (by simp) _).setCell (by simp) _).setCell (by simp) _).setCell (by simp) _)
      have hl3 := lt_of_obj OZ5.out
      have hl1 := lt_of_obj OR5.out
      have y0 := cell_at OZ5.out 0
      have y1 := cell_at OZ5.out 1
      have y2 := cell_at OZ5.out 2
      have y3 := cell_at OZ5.out 3
      simp at y0 y1 y2 y3
      have yf := frozen_at OZ5.out
      have u0 := cell_at OR5.out 0
      have u1 := cell_at OR5.out 1
      have u2 := cell_at OR5.out 2
      have u3 := cell_at OR5.out 3
      simp at u0 u1 u2 u3
      have uf := frozen_at OR5.out
      go_wp2_with fail
      have z := fr_cellsA OCE.out
      obtain ⟨z0, z1, z2, z3⟩ := z
      generalize (((((((w5.setCell ⟨(w.heap.size + 2 + 1), 0, none⟩ (.int .i64 gp)).setCell ⟨(w.heap.size + 2 + 1), 1, none⟩ (.slice goa gon goc)).setCell ⟨(w.heap.size + 2 + 1), 2, none⟩ (.slice gta gtn gtc)).setCell ⟨(w.heap.size + 2 + 1), 3, none⟩ (.slice gsa gsn gsc)).setCell ⟨(w.heap.size + 1), 0, none⟩ (.int .i64 gp)).setCell ⟨(w.heap.size + 1), 1, none⟩ (.slice goa gon goc)).setCell ⟨(w.heap.size + 1), 2, none⟩ (.slice gta gtn gtc)).setCell ⟨(w.heap.size + 1), 3, none⟩ (.slice gsa gsn gsc) = wE at *
      refine bodyPost_ret (v := .tuple #[frV ⟨gp, goa, gon, goc, gta, gtn, gtc, gsa, gsn, gsc⟩, .bool ((rc : Int) == 0)]) (by simp [results, Tryz.results22, go_sem, z0, z1, z2, z3]) rfl ⟨⟨gp, goa, gon, goc, gta, gtn, gtc, gsa, gsn, gsc⟩, by rw [HT2.out, HR.out]; rfl, by rw [HT2.out, HR.out]; exact HFE.out, BE.out⟩
    | false =>
      rw [hxf] at c0
      by_cases hp : dp = 1
      · have HR : Hid (ansOne l m (j : Int) a = tipR l m (j : Int) x.tip) := Lib.hid (by rw [HAO.out, if_neg (by rw [← HFA.out, hxf]; simp), if_pos (HPH.out.symm.trans hp), (HTA.out hxf).1])
        subst hp
        go_wp2_with fail
        refine (tip_act _ v l ⟨1, some ⟨bo, oo, none⟩, don, doc, dta, dtn, dtc, dsa, dsn, dsc⟩ m (j : Int) x.tip (HL.out.below B4.out) HFL.out HS.out).mono ?_
        generalize ((w2.alloc (.cells (ansL x).toArray 54)).alloc (.cells #[.int .i64 0, .slice none 0 0, .slice none 0 0, .slice none 0 0] 27)) = w4 at *
        generalize tipR l m (j : Int) x.tip = rr at *
        obtain ⟨rm, rc⟩ := rr
        rintro e w5 ⟨⟨gp, goa, gon, goc, gta, gtn, gtc, gsa, gsn, gsc⟩, rfl, hf5, b5⟩
        have OZ5 := Lib.hid ((obj_below b5 (lt_of_obj OZ4.out)).trans OZ4.out)
        have OR5 := Lib.hid ((obj_below b5 (lt_of_obj OR4.out)).trans OR4.out)
        have B5 : Hid (Below w.heap.size w w5) := Lib.hid (B4.out.trans (b5.mono B4.out.size))
        have HF5 := Lib.hid (hf5.mono (base := 0) (Nat.zero_le _))
        clear hf5 b5
        have OC1 : Hid (obj ((((w5.setCell ⟨(w.heap.size + 2 + 1), 0, none⟩ (.int .i64 gp)).setCell ⟨(w.heap.size + 2 + 1), 1, none⟩ (.slice goa gon goc)).setCell ⟨(w.heap.size + 2 + 1), 2, none⟩ (.slice gta gtn gtc)).setCell ⟨(w.heap.size + 2 + 1), 3, none⟩ (.slice gsa gsn gsc)) (w.heap.size + 1) = some (.cells #[.int .i64 0, .slice none 0 0, .slice none 0 0, .slice none 0 0] 27 (0, 0))) := Lib.hid ((obj_setCell_ne _ ⟨(w.heap.size + 2 + 1), 3, none⟩ _ _ (by dsimp only; omega)).trans ((obj_setCell_ne _ ⟨(w.heap.size + 2 + 1), 2, none⟩ _ _ (by dsimp only; omega)).trans ((obj_setCell_ne _ ⟨(w.heap.size + 2 + 1), 1, none⟩ _ _ (by dsimp only; omega)).trans ((obj_setCell_ne _ ⟨(w.heap.size + 2 + 1), 0, none⟩ _ _ (by dsimp only; omega)).trans OR5.out))))
        have OCB : Hid (obj ((((w5.setCell ⟨(w.heap.size + 2 + 1), 0, none⟩ (.int .i64 gp)).setCell ⟨(w.heap.size + 2 + 1), 1, none⟩ (.slice goa gon goc)).setCell ⟨(w.heap.size + 2 + 1), 2, none⟩ (.slice gta gtn gtc)).setCell ⟨(w.heap.size + 2 + 1), 3, none⟩ (.slice gsa gsn gsc)) (w.heap.size + 2 + 1) = some (.cells #[(.int .i64 gp), (.slice goa gon goc), (.slice gta gtn gtc), (.slice gsa gsn gsc)] 27 (0, 0))) := Lib.hid (obj_setCell_at (.slice gsa gsn gsc) (i := 3) (obj_setCell_at (.slice gta gtn gtc) (i := 2) (obj_setCell_at (.slice goa gon goc) (i := 1) (obj_setCell_at (.int .i64 gp) (i := 0) OZ5.out))))
        have HFC := Lib.hid ((((HF5.out.setBox OZ5.out 0 (.int .i64 gp)).setBox (obj_setCell_at (.int .i64 gp) (i := 0) OZ5.out) 1 (.slice goa gon goc)).setBox (obj_setCell_at (.slice goa gon goc) (i := 1) (obj_setCell_at (.int .i64 gp) (i := 0) OZ5.out)) 2 (.slice gta gtn gtc)).setBox (obj_setCell_at (.slice gta gtn gtc) (i := 2) (obj_setCell_at (.slice goa gon goc) (i := 1) (obj_setCell_at (.int .i64 gp) (i := 0) OZ5.out))) 3 (.slice gsa gsn gsc))
        have HFE := Lib.hid ((((HFC.out.setBox OC1.out 0 (.int .i64 gp)).setBox (obj_setCell_at (.int .i64 gp) (i := 0) OC1.out) 1 (.slice goa gon goc)).setBox (obj_setCell_at (.slice goa gon goc) (i := 1) (obj_setCell_at (.int .i64 gp) (i := 0) OC1.out)) 2 (.slice gta gtn gtc)).setBox (obj_setCell_at (.slice gta gtn gtc) (i := 2) (obj_setCell_at (.slice goa gon goc) (i := 1) (obj_setCell_at (.int .i64 gp) (i := 0) OC1.out))) 3 (.slice gsa gsn gsc))
        have OCE : Hid (obj ((((((((w5.setCell ⟨(w.heap.size + 2 + 1), 0, none⟩ (.int .i64 gp)).setCell ⟨(w.heap.size + 2 + 1), 1, none⟩ (.slice goa gon goc)).setCell ⟨(w.heap.size + 2 + 1), 2, none⟩ (.slice gta gtn gtc)).setCell ⟨(w.heap.size + 2 + 1), 3, none⟩ (.slice gsa gsn gsc)).setCell ⟨(w.heap.size + 1), 0, none⟩ (.int .i64 gp)).setCell ⟨(w.heap.size + 1), 1, none⟩ (.slice goa gon goc)).setCell ⟨(w.heap.size + 1), 2, none⟩ (.slice gta gtn gtc)).setCell ⟨(w.heap.size + 1), 3, none⟩ (.slice gsa gsn gsc)) (w.heap.size + 1) = some (.cells #[(.int .i64 gp), (.slice goa gon goc), (.slice gta gtn gtc), (.slice gsa gsn gsc)] 27 (0, 0))) := Lib.hid (obj_setCell_at (.slice gsa gsn gsc) (i := 3) (obj_setCell_at (.slice gta gtn gtc) (i := 2) (obj_setCell_at (.slice goa gon goc) (i := 1) (obj_setCell_at (.int .i64 gp) (i := 0) OC1.out))))
        have BE : Hid (Below w.heap.size w ((((((((w5.setCell ⟨(w.heap.size + 2 + 1), 0, none⟩ (.int .i64 gp)).setCell ⟨(w.heap.size + 2 + 1), 1, none⟩ (.slice goa gon goc)).setCell ⟨(w.heap.size + 2 + 1), 2, none⟩ (.slice gta gtn gtc)).setCell ⟨(w.heap.size + 2 + 1), 3, none⟩ (.slice gsa gsn gsc)).setCell ⟨(w.heap.size + 1), 0, none⟩ (.int .i64 gp)).setCell ⟨(w.heap.size + 1), 1, none⟩ (.slice goa gon goc)).setCell ⟨(w.heap.size + 1), 2, none⟩ (.slice gta gtn gtc)).setCell ⟨(w.heap.size + 1), 3, none⟩ (.slice gsa gsn gsc))) := Lib.hid ((((((((B5.out.setCell (by dsimp only; omega) _).setCell (by dsimp only; omega) _).setCell (by dsimp only; omega) _).setCell (by dsimp only; omega) _).setCell (by simp) _).setCell (by simp) _).setCell (by simp) _).setCell (by simp) _)
        have hl3 := lt_of_obj OZ5.out
        have hl1 := lt_of_obj OR5.out
        have y0 := cell_at OZ5.out 0
        have y1 := cell_at OZ5.out 1
        have y2 := cell_at OZ5.out 2
        have y3 := cell_at OZ5.out 3
        simp at y0 y1 y2 y3
        have yf := frozen_at OZ5.out
        have u0 := cell_at OR5.out 0
        have u1 := cell_at OR5.out 1
        have u2 := cell_at OR5.out 2
        have u3 := cell_at OR5.out 3
        simp at u0 u1 u2 u3
        have uf := frozen_at OR5.out
        go_wp2_with fail
        have z := fr_cellsA OCE.out
        obtain ⟨z0, z1, z2, z3⟩ := z
        generalize (((((((w5.setCell ⟨(w.heap.size + 2 + 1), 0, none⟩ (.int .i64 gp)).setCell ⟨(w.heap.size + 2 + 1), 1, none⟩ (.slice goa gon goc)).setCell ⟨(w.heap.size + 2 + 1), 2, none⟩ (.slice gta gtn gtc)).setCell ⟨(w.heap.size + 2 + 1), 3, none⟩ (.slice gsa gsn gsc)).setCell ⟨(w.heap.size + 1), 0, none⟩ (.int .i64 gp)).setCell ⟨(w.heap.size + 1), 1, none⟩ (.slice goa gon goc)).setCell ⟨(w.heap.size + 1), 2, none⟩ (.slice gta gtn gtc)).setCell ⟨(w.heap.size + 1), 3, none⟩ (.slice gsa gsn gsc) = wE at *
        refine bodyPost_ret (v := .tuple #[frV ⟨gp, goa, gon, goc, gta, gtn, gtc, gsa, gsn, gsc⟩, .bool ((rc : Int) == 0)]) (by simp [results, Tryz.results22, go_sem, z0, z1, z2, z3]) rfl ⟨⟨gp, goa, gon, goc, gta, gtn, gtc, gsa, gsn, gsc⟩, by rw [HT2.out, HR.out]; rfl, by rw [HT2.out, HR.out]; exact HFE.out, BE.out⟩
      · have HR : Hid (ansOne l m (j : Int) a = accR l m (j : Int) a.ids) := Lib.hid (by rw [HAO.out, if_neg (by rw [← HFA.out, hxf]; simp), if_neg (fun e => hp (HPH.out.trans e))])
        go_wp2_with fail
        refine (acc_act _ v (.slice x.oa x.n x.cap) l ⟨dp, some ⟨bo, oo, none⟩, don, doc, dta, dtn, dtc, dsa, dsn, dsc⟩ m (j : Int) a.ids (HL.out.below B4.out) HFL.out HS.out ((HTA.out hxf).2.below B4.out)).mono ?_
        generalize ((w2.alloc (.cells (ansL x).toArray 54)).alloc (.cells #[.int .i64 0, .slice none 0 0, .slice none 0 0, .slice none 0 0] 27)) = w4 at *
        generalize accR l m (j : Int) a.ids = rr at *
        obtain ⟨rm, rc⟩ := rr
        rintro e w5 ⟨⟨gp, goa, gon, goc, gta, gtn, gtc, gsa, gsn, gsc⟩, rfl, hf5, b5⟩
        have OZ5 := Lib.hid ((obj_below b5 (lt_of_obj OZ4.out)).trans OZ4.out)
        have OR5 := Lib.hid ((obj_below b5 (lt_of_obj OR4.out)).trans OR4.out)
        have B5 : Hid (Below w.heap.size w w5) := Lib.hid (B4.out.trans (b5.mono B4.out.size))
        have HF5 := Lib.hid (hf5.mono (base := 0) (Nat.zero_le _))
        clear hf5 b5
        have OC1 : Hid (obj ((((w5.setCell ⟨(w.heap.size + 2 + 1), 0, none⟩ (.int .i64 gp)).setCell ⟨(w.heap.size + 2 + 1), 1, none⟩ (.slice goa gon goc)).setCell ⟨(w.heap.size + 2 + 1), 2, none⟩ (.slice gta gtn gtc)).setCell ⟨(w.heap.size + 2 + 1), 3, none⟩ (.slice gsa gsn gsc)) (w.heap.size + 1) = some (.cells #[.int .i64 0, .slice none 0 0, .slice none 0 0, .slice none 0 0] 27 (0, 0))) := Lib.hid ((obj_setCell_ne _ ⟨(w.heap.size + 2 + 1), 3, none⟩ _ _ (by dsimp only; omega)).trans ((obj_setCell_ne _ ⟨(w.heap.size + 2 + 1), 2, none⟩ _ _ (by dsimp only; omega)).trans ((obj_setCell_ne _ ⟨(w.heap.size + 2 + 1), 1, none⟩ _ _ (by dsimp only; omega)).trans ((obj_setCell_ne _ ⟨(w.heap.size + 2 + 1), 0, none⟩ _ _ (by dsimp only; omega)).trans OR5.out))))
        have OCB : Hid (obj ((((w5.setCell ⟨(w.heap.size + 2 + 1), 0, none⟩ (.int .i64 gp)).setCell ⟨(w.heap.size + 2 + 1), 1, none⟩ (.slice goa gon goc)).setCell ⟨(w.heap.size + 2 + 1), 2, none⟩ (.slice gta gtn gtc)).setCell ⟨(w.heap.size + 2 + 1), 3, none⟩ (.slice gsa gsn gsc)) (w.heap.size + 2 + 1) = some (.cells #[(.int .i64 gp), (.slice goa gon goc), (.slice gta gtn gtc), (.slice gsa gsn gsc)] 27 (0, 0))) := Lib.hid (obj_setCell_at (.slice gsa gsn gsc) (i := 3) (obj_setCell_at (.slice gta gtn gtc) (i := 2) (obj_setCell_at (.slice goa gon goc) (i := 1) (obj_setCell_at (.int .i64 gp) (i := 0) OZ5.out))))
        have HFC := Lib.hid ((((HF5.out.setBox OZ5.out 0 (.int .i64 gp)).setBox (obj_setCell_at (.int .i64 gp) (i := 0) OZ5.out) 1 (.slice goa gon goc)).setBox (obj_setCell_at (.slice goa gon goc) (i := 1) (obj_setCell_at (.int .i64 gp) (i := 0) OZ5.out)) 2 (.slice gta gtn gtc)).setBox (obj_setCell_at (.slice gta gtn gtc) (i := 2) (obj_setCell_at (.slice goa gon goc) (i := 1) (obj_setCell_at (.int .i64 gp) (i := 0) OZ5.out))) 3 (.slice gsa gsn gsc))
        have HFE := Lib.hid ((((HFC.out.setBox OC1.out 0 (.int .i64 gp)).setBox (obj_setCell_at (.int .i64 gp) (i := 0) OC1.out) 1 (.slice goa gon goc)).setBox (obj_setCell_at (.slice goa gon goc) (i := 1) (obj_setCell_at (.int .i64 gp) (i := 0) OC1.out)) 2 (.slice gta gtn gtc)).setBox (obj_setCell_at (.slice gta gtn gtc) (i := 2) (obj_setCell_at (.slice goa gon goc) (i := 1) (obj_setCell_at (.int .i64 gp) (i := 0) OC1.out))) 3 (.slice gsa gsn gsc))
        have OCE : Hid (obj ((((((((w5.setCell ⟨(w.heap.size + 2 + 1), 0, none⟩ (.int .i64 gp)).setCell ⟨(w.heap.size + 2 + 1), 1, none⟩ (.slice goa gon goc)).setCell ⟨(w.heap.size + 2 + 1), 2, none⟩ (.slice gta gtn gtc)).setCell ⟨(w.heap.size + 2 + 1), 3, none⟩ (.slice gsa gsn gsc)).setCell ⟨(w.heap.size + 1), 0, none⟩ (.int .i64 gp)).setCell ⟨(w.heap.size + 1), 1, none⟩ (.slice goa gon goc)).setCell ⟨(w.heap.size + 1), 2, none⟩ (.slice gta gtn gtc)).setCell ⟨(w.heap.size + 1), 3, none⟩ (.slice gsa gsn gsc)) (w.heap.size + 1) = some (.cells #[(.int .i64 gp), (.slice goa gon goc), (.slice gta gtn gtc), (.slice gsa gsn gsc)] 27 (0, 0))) := Lib.hid (obj_setCell_at (.slice gsa gsn gsc) (i := 3) (obj_setCell_at (.slice gta gtn gtc) (i := 2) (obj_setCell_at (.slice goa gon goc) (i := 1) (obj_setCell_at (.int .i64 gp) (i := 0) OC1.out))))
        have BE : Hid (Below w.heap.size w ((((((((w5.setCell ⟨(w.heap.size + 2 + 1), 0, none⟩ (.int .i64 gp)).setCell ⟨(w.heap.size + 2 + 1), 1, none⟩ (.slice goa gon goc)).setCell ⟨(w.heap.size + 2 + 1), 2, none⟩ (.slice gta gtn gtc)).setCell ⟨(w.heap.size + 2 + 1), 3, none⟩ (.slice gsa gsn gsc)).setCell ⟨(w.heap.size + 1), 0, none⟩ (.int .i64 gp)).setCell ⟨(w.heap.size + 1), 1, none⟩ (.slice goa gon goc)).setCell ⟨(w.heap.size + 1), 2, none⟩ (.slice gta gtn gtc)).setCell ⟨(w.heap.size + 1), 3, none⟩ (.slice gsa gsn gsc))) := Lib.hid ((((((((B5.out.setCell (by dsimp only; omega) _).setCell (by dsimp only; omega) _).setCell (by dsimp only; omega) _).setCell (by dsimp only; omega) _).setCell (by simp) _).setCell (by simp) _).setCell (by simp) _).setCell (by simp) _)
        have hl3 := lt_of_obj OZ5.out
        have hl1 := lt_of_obj OR5.out
        have y0 := cell_at OZ5.out 0
        have y1 := cell_at OZ5.out 1
        have y2 := cell_at OZ5.out 2
        have y3 := cell_at OZ5.out 3
        simp at y0 y1 y2 y3
        have yf := frozen_at OZ5.out
        have u0 := cell_at OR5.out 0
        have u1 := cell_at OR5.out 1
        have u2 := cell_at OR5.out 2
        have u3 := cell_at OR5.out 3
        simp at u0 u1 u2 u3
        have uf := frozen_at OR5.out
        go_wp2_with fail
        have z := fr_cellsA OCE.out
        obtain ⟨z0, z1, z2, z3⟩ := z
        generalize (((((((w5.setCell ⟨(w.heap.size + 2 + 1), 0, none⟩ (.int .i64 gp)).setCell ⟨(w.heap.size + 2 + 1), 1, none⟩ (.slice goa gon goc)).setCell ⟨(w.heap.size + 2 + 1), 2, none⟩ (.slice gta gtn gtc)).setCell ⟨(w.heap.size + 2 + 1), 3, none⟩ (.slice gsa gsn gsc)).setCell ⟨(w.heap.size + 1), 0, none⟩ (.int .i64 gp)).setCell ⟨(w.heap.size + 1), 1, none⟩ (.slice goa gon goc)).setCell ⟨(w.heap.size + 1), 2, none⟩ (.slice gta gtn gtc)).setCell ⟨(w.heap.size + 1), 3, none⟩ (.slice gsa gsn gsc) = wE at *
        refine bodyPost_ret (v := .tuple #[frV ⟨gp, goa, gon, goc, gta, gtn, gtc, gsa, gsn, gsc⟩, .bool ((rc : Int) == 0)]) (by simp [results, Tryz.results22, go_sem, z0, z1, z2, z3]) rfl ⟨⟨gp, goa, gon, goc, gta, gtn, gtc, gsa, gsn, gsc⟩, by rw [HT2.out, HR.out]; rfl, by rw [HT2.out, HR.out]; exact HFE.out, BE.out⟩

  case neg =>
    have HAA : Hid (ansAt av node = default) := Lib.hid (by
      unfold ansAt
      by_cases h : node < 0
      · rw [if_pos h]
      · rw [if_neg h, List.getElem?_eq_none (by have := HA.out.1; omega)]; rfl)
    rw [HAA.out] at HT2
    obtain ⟨oa', cap', rfl, -, hcm, hax⟩ := HX.out
    clear hax
    unfold maxLen at hcm
    obtain ⟨a, hav⟩ : ∃ a : AnsM, a = default := ⟨_, rfl⟩
    rw [← hav] at HT2
    have HFA : Hid (a.fails = true) := Lib.hid (by rw [hav]; rfl)
    clear hav
    by_cases hn0 : 0 ≤ node
    · have hni : ¬ node < (xs.length : Int) := fun h => hin ⟨hn0, h⟩
      clear hin
      have hz2 := HZ2.out
      have b3 : Below w2.heap.size w2 (w2.alloc (.cells (ansL badAns).toArray 54)) := (Below.refl _ _).alloc (Nat.le_refl _) _
      have b4 : Below (w2.alloc (.cells (ansL badAns).toArray 54)).heap.size (w2.alloc (.cells (ansL badAns).toArray 54)) ((w2.alloc (.cells (ansL badAns).toArray 54)).alloc (.cells #[.int .i64 0, .slice none 0 0, .slice none 0 0, .slice none 0 0] 27)) := (Below.refl _ _).alloc (Nat.le_refl _) _
      have hz3 : (w2.alloc (.cells (ansL badAns).toArray 54)).heap.size = w.heap.size + 2 + 1 := by simp [hz2]
      have hz4 : ((w2.alloc (.cells (ansL badAns).toArray 54)).alloc (.cells #[.int .i64 0, .slice none 0 0, .slice none 0 0, .slice none 0 0] 27)).heap.size = w.heap.size + 2 + 1 + 1 := by simp [hz2]
      have ox : obj (w2.alloc (.cells (ansL badAns).toArray 54)) (w.heap.size + 2) = some (.cells (ansL badAns).toArray 54 (0, 0)) := obj_alloc_at _ _ _ hz2.symm
      have OX4 := Lib.hid ((obj_below b4 (lt_of_obj ox)).trans ox)
      have OZ4 : Hid (obj ((w2.alloc (.cells (ansL badAns).toArray 54)).alloc (.cells #[.int .i64 0, .slice none 0 0, .slice none 0 0, .slice none 0 0] 27)) (w.heap.size + 2 + 1) = some (.cells #[.int .i64 0, .slice none 0 0, .slice none 0 0, .slice none 0 0] 27 (0, 0))) := Lib.hid (obj_alloc_at _ _ _ hz3.symm)
      have OB4 := Lib.hid ((obj_below (b3.trans (b4.mono b3.size)) (lt_of_obj OB2.out)).trans OB2.out)
      have OR4 := Lib.hid ((obj_below (b3.trans (b4.mono b3.size)) (lt_of_obj OR2.out)).trans OR2.out)
      have B4 : Hid (Below w.heap.size w ((w2.alloc (.cells (ansL badAns).toArray 54)).alloc (.cells #[.int .i64 0, .slice none 0 0, .slice none 0 0, .slice none 0 0] 27))) := Lib.hid (B2.out.trans ((b3.trans (b4.mono b3.size)).mono (by omega)))
      have HZ4 := Lib.hid hz4
      have HFL : Hid (FrAt ((w2.alloc (.cells (ansL badAns).toArray 54)).alloc (.cells #[.int .i64 0, .slice none 0 0, .slice none 0 0, .slice none 0 0] 27)) ⟨dp, some ⟨bo, oo, none⟩, don, doc, dta, dtn, dtc, dsa, dsn, dsc⟩ m) := Lib.hid (HF.out.below B4.out)
      have HPH : Hid (dp = m.phase) := Lib.hid HF.out.phase
      clear b3 b4 ox hz3 hz4
      obtain ⟨c0, c1, c33⟩ := ans_box OX4.out
      have x0 := cell_at OB4.out 0
      have x1 := cell_at OB4.out 1
      have x2 := cell_at OB4.out 2
      have x3 := cell_at OB4.out 3
      simp at x0 x1 x2 x3
      have HAO : Hid (ansOne l m node a = if a.fails = true then failR l m node else if m.phase = 1 then tipR l m node a.tip else accR l m node a.ids) := Lib.hid rfl
      have HR : Hid (ansOne l m node a = failR l m node) := Lib.hid (by rw [HAO.out, if_pos HFA.out])
      have c0' := c0
      simp only [badAns] at c0'
      go_wp2_with fail
      refine (failed_any _ v l ⟨dp, some ⟨bo, oo, none⟩, don, doc, dta, dtn, dtc, dsa, dsn, dsc⟩ m node (HL.out.below B4.out) HFL.out HS.out).mono ?_
      generalize ((w2.alloc (.cells (ansL badAns).toArray 54)).alloc (.cells #[.int .i64 0, .slice none 0 0, .slice none 0 0, .slice none 0 0] 27)) = w4 at *
      generalize failR l m node = rr at *
      obtain ⟨rm, rc⟩ := rr
      rintro e w5 ⟨⟨gp, goa, gon, goc, gta, gtn, gtc, gsa, gsn, gsc⟩, rfl, hf5, b5⟩
      have OZ5 := Lib.hid ((obj_below b5 (lt_of_obj OZ4.out)).trans OZ4.out)
      have OR5 := Lib.hid ((obj_below b5 (lt_of_obj OR4.out)).trans OR4.out)
      have B5 : Hid (Below w.heap.size w w5) := Lib.hid (B4.out.trans (b5.mono B4.out.size))
      have HF5 := Lib.hid (hf5.mono (base := 0) (Nat.zero_le _))
      clear hf5 b5
      have OC1 : Hid (obj ((((w5.setCell ⟨(w.heap.size + 2 + 1), 0, none⟩ (.int .i64 gp)).setCell ⟨(w.heap.size + 2 + 1), 1, none⟩ (.slice goa gon goc)).setCell ⟨(w.heap.size + 2 + 1), 2, none⟩ (.slice gta gtn gtc)).setCell ⟨(w.heap.size + 2 + 1), 3, none⟩ (.slice gsa gsn gsc)) (w.heap.size + 1) = some (.cells #[.int .i64 0, .slice none 0 0, .slice none 0 0, .slice none 0 0] 27 (0, 0))) := Lib.hid ((obj_setCell_ne _ ⟨(w.heap.size + 2 + 1), 3, none⟩ _ _ (by dsimp only; omega)).trans ((obj_setCell_ne _ ⟨(w.heap.size + 2 + 1), 2, none⟩ _ _ (by dsimp only; omega)).trans ((obj_setCell_ne _ ⟨(w.heap.size + 2 + 1), 1, none⟩ _ _ (by dsimp only; omega)).trans ((obj_setCell_ne _ ⟨(w.heap.size + 2 + 1), 0, none⟩ _ _ (by dsimp only; omega)).trans OR5.out))))
      have OCB : Hid (obj ((((w5.setCell ⟨(w.heap.size + 2 + 1), 0, none⟩ (.int .i64 gp)).setCell ⟨(w.heap.size + 2 + 1), 1, none⟩ (.slice goa gon goc)).setCell ⟨(w.heap.size + 2 + 1), 2, none⟩ (.slice gta gtn gtc)).setCell ⟨(w.heap.size + 2 + 1), 3, none⟩ (.slice gsa gsn gsc)) (w.heap.size + 2 + 1) = some (.cells #[(.int .i64 gp), (.slice goa gon goc), (.slice gta gtn gtc), (.slice gsa gsn gsc)] 27 (0, 0))) := Lib.hid (obj_setCell_at (.slice gsa gsn gsc) (i := 3) (obj_setCell_at (.slice gta gtn gtc) (i := 2) (obj_setCell_at (.slice goa gon goc) (i := 1) (obj_setCell_at (.int .i64 gp) (i := 0) OZ5.out))))
      have HFC := Lib.hid ((((HF5.out.setBox OZ5.out 0 (.int .i64 gp)).setBox (obj_setCell_at (.int .i64 gp) (i := 0) OZ5.out) 1 (.slice goa gon goc)).setBox (obj_setCell_at (.slice goa gon goc) (i := 1) (obj_setCell_at (.int .i64 gp) (i := 0) OZ5.out)) 2 (.slice gta gtn gtc)).setBox (obj_setCell_at (.slice gta gtn gtc) (i := 2) (obj_setCell_at (.slice goa gon goc) (i := 1) (obj_setCell_at (.int .i64 gp) (i := 0) OZ5.out))) 3 (.slice gsa gsn gsc))
      have HFE := Lib.hid ((((HFC.out.setBox OC1.out 0 (.int .i64 gp)).setBox (obj_setCell_at (.int .i64 gp) (i := 0) OC1.out) 1 (.slice goa gon goc)).setBox (obj_setCell_at (.slice goa gon goc) (i := 1) (obj_setCell_at (.int .i64 gp) (i := 0) OC1.out)) 2 (.slice gta gtn gtc)).setBox (obj_setCell_at (.slice gta gtn gtc) (i := 2) (obj_setCell_at (.slice goa gon goc) (i := 1) (obj_setCell_at (.int .i64 gp) (i := 0) OC1.out))) 3 (.slice gsa gsn gsc))
      have OCE : Hid (obj ((((((((w5.setCell ⟨(w.heap.size + 2 + 1), 0, none⟩ (.int .i64 gp)).setCell ⟨(w.heap.size + 2 + 1), 1, none⟩ (.slice goa gon goc)).setCell ⟨(w.heap.size + 2 + 1), 2, none⟩ (.slice gta gtn gtc)).setCell ⟨(w.heap.size + 2 + 1), 3, none⟩ (.slice gsa gsn gsc)).setCell ⟨(w.heap.size + 1), 0, none⟩ (.int .i64 gp)).setCell ⟨(w.heap.size + 1), 1, none⟩ (.slice goa gon goc)).setCell ⟨(w.heap.size + 1), 2, none⟩ (.slice gta gtn gtc)).setCell ⟨(w.heap.size + 1), 3, none⟩ (.slice gsa gsn gsc)) (w.heap.size + 1) = some (.cells #[(.int .i64 gp), (.slice goa gon goc), (.slice gta gtn gtc), (.slice gsa gsn gsc)] 27 (0, 0))) := Lib.hid (obj_setCell_at (.slice gsa gsn gsc) (i := 3) (obj_setCell_at (.slice gta gtn gtc) (i := 2) (obj_setCell_at (.slice goa gon goc) (i := 1) (obj_setCell_at (.int .i64 gp) (i := 0) OC1.out))))
      have BE : Hid (Below w.heap.size w ((((((((w5.setCell ⟨(w.heap.size + 2 + 1), 0, none⟩ (.int .i64 gp)).setCell ⟨(w.heap.size + 2 + 1), 1, none⟩ (.slice goa gon goc)).setCell ⟨(w.heap.size + 2 + 1), 2, none⟩ (.slice gta gtn gtc)).setCell ⟨(w.heap.size + 2 + 1), 3, none⟩ (.slice gsa gsn gsc)).setCell ⟨(w.heap.size + 1), 0, none⟩ (.int .i64 gp)).setCell ⟨(w.heap.size + 1), 1, none⟩ (.slice goa gon goc)).setCell ⟨(w.heap.size + 1), 2, none⟩ (.slice gta gtn gtc)).setCell ⟨(w.heap.size + 1), 3, none⟩ (.slice gsa gsn gsc))) := Lib.hid ((((((((B5.out.setCell (by dsimp only; omega) _).setCell (by dsimp only; omega) _).setCell (by dsimp only; omega) _).setCell (by dsimp only; omega) _).setCell (by simp) _).setCell (by simp) _).setCell (by simp) _).setCell (by simp) _)
      have hl3 := lt_of_obj OZ5.out
      have hl1 := lt_of_obj OR5.out
      have y0 := cell_at OZ5.out 0
      have y1 := cell_at OZ5.out 1
      have y2 := cell_at OZ5.out 2
      have y3 := cell_at OZ5.out 3
      simp at y0 y1 y2 y3
      have yf := frozen_at OZ5.out
      have u0 := cell_at OR5.out 0
      have u1 := cell_at OR5.out 1
      have u2 := cell_at OR5.out 2
      have u3 := cell_at OR5.out 3
      simp at u0 u1 u2 u3
      have uf := frozen_at OR5.out
      go_wp2_with fail
      have z := fr_cellsA OCE.out
      obtain ⟨z0, z1, z2, z3⟩ := z
      generalize (((((((w5.setCell ⟨(w.heap.size + 2 + 1), 0, none⟩ (.int .i64 gp)).setCell ⟨(w.heap.size + 2 + 1), 1, none⟩ (.slice goa gon goc)).setCell ⟨(w.heap.size + 2 + 1), 2, none⟩ (.slice gta gtn gtc)).setCell ⟨(w.heap.size + 2 + 1), 3, none⟩ (.slice gsa gsn gsc)).setCell ⟨(w.heap.size + 1), 0, none⟩ (.int .i64 gp)).setCell ⟨(w.heap.size + 1), 1, none⟩ (.slice goa gon goc)).setCell ⟨(w.heap.size + 1), 2, none⟩ (.slice gta gtn gtc)).setCell ⟨(w.heap.size + 1), 3, none⟩ (.slice gsa gsn gsc) = wE at *
      refine bodyPost_ret (v := .tuple #[frV ⟨gp, goa, gon, goc, gta, gtn, gtc, gsa, gsn, gsc⟩, .bool ((rc : Int) == 0)]) (by simp [results, Tryz.results22, go_sem, z0, z1, z2, z3]) rfl ⟨⟨gp, goa, gon, goc, gta, gtn, gtc, gsa, gsn, gsc⟩, by rw [HT2.out, HR.out]; rfl, by rw [HT2.out, HR.out]; exact HFE.out, BE.out⟩

    · clear hin
      have hz2 := HZ2.out
      have b3 : Below w2.heap.size w2 (w2.alloc (.cells (ansL badAns).toArray 54)) := (Below.refl _ _).alloc (Nat.le_refl _) _
      have b4 : Below (w2.alloc (.cells (ansL badAns).toArray 54)).heap.size (w2.alloc (.cells (ansL badAns).toArray 54)) ((w2.alloc (.cells (ansL badAns).toArray 54)).alloc (.cells #[.int .i64 0, .slice none 0 0, .slice none 0 0, .slice none 0 0] 27)) := (Below.refl _ _).alloc (Nat.le_refl _) _
      have hz3 : (w2.alloc (.cells (ansL badAns).toArray 54)).heap.size = w.heap.size + 2 + 1 := by simp [hz2]
      have hz4 : ((w2.alloc (.cells (ansL badAns).toArray 54)).alloc (.cells #[.int .i64 0, .slice none 0 0, .slice none 0 0, .slice none 0 0] 27)).heap.size = w.heap.size + 2 + 1 + 1 := by simp [hz2]
      have ox : obj (w2.alloc (.cells (ansL badAns).toArray 54)) (w.heap.size + 2) = some (.cells (ansL badAns).toArray 54 (0, 0)) := obj_alloc_at _ _ _ hz2.symm
      have OX4 := Lib.hid ((obj_below b4 (lt_of_obj ox)).trans ox)
      have OZ4 : Hid (obj ((w2.alloc (.cells (ansL badAns).toArray 54)).alloc (.cells #[.int .i64 0, .slice none 0 0, .slice none 0 0, .slice none 0 0] 27)) (w.heap.size + 2 + 1) = some (.cells #[.int .i64 0, .slice none 0 0, .slice none 0 0, .slice none 0 0] 27 (0, 0))) := Lib.hid (obj_alloc_at _ _ _ hz3.symm)
      have OB4 := Lib.hid ((obj_below (b3.trans (b4.mono b3.size)) (lt_of_obj OB2.out)).trans OB2.out)
      have OR4 := Lib.hid ((obj_below (b3.trans (b4.mono b3.size)) (lt_of_obj OR2.out)).trans OR2.out)
      have B4 : Hid (Below w.heap.size w ((w2.alloc (.cells (ansL badAns).toArray 54)).alloc (.cells #[.int .i64 0, .slice none 0 0, .slice none 0 0, .slice none 0 0] 27))) := Lib.hid (B2.out.trans ((b3.trans (b4.mono b3.size)).mono (by omega)))
      have HZ4 := Lib.hid hz4
      have HFL : Hid (FrAt ((w2.alloc (.cells (ansL badAns).toArray 54)).alloc (.cells #[.int .i64 0, .slice none 0 0, .slice none 0 0, .slice none 0 0] 27)) ⟨dp, some ⟨bo, oo, none⟩, don, doc, dta, dtn, dtc, dsa, dsn, dsc⟩ m) := Lib.hid (HF.out.below B4.out)
      have HPH : Hid (dp = m.phase) := Lib.hid HF.out.phase
      clear b3 b4 ox hz3 hz4
      obtain ⟨c0, c1, c33⟩ := ans_box OX4.out
      have x0 := cell_at OB4.out 0
      have x1 := cell_at OB4.out 1
      have x2 := cell_at OB4.out 2
      have x3 := cell_at OB4.out 3
      simp at x0 x1 x2 x3
      have HAO : Hid (ansOne l m node a = if a.fails = true then failR l m node else if m.phase = 1 then tipR l m node a.tip else accR l m node a.ids) := Lib.hid rfl
      have HR : Hid (ansOne l m node a = failR l m node) := Lib.hid (by rw [HAO.out, if_pos HFA.out])
      have c0' := c0
      simp only [badAns] at c0'
      go_wp2_with fail
      refine (failed_any _ v l ⟨dp, some ⟨bo, oo, none⟩, don, doc, dta, dtn, dtc, dsa, dsn, dsc⟩ m node (HL.out.below B4.out) HFL.out HS.out).mono ?_
      generalize ((w2.alloc (.cells (ansL badAns).toArray 54)).alloc (.cells #[.int .i64 0, .slice none 0 0, .slice none 0 0, .slice none 0 0] 27)) = w4 at *
      generalize failR l m node = rr at *
      obtain ⟨rm, rc⟩ := rr
      rintro e w5 ⟨⟨gp, goa, gon, goc, gta, gtn, gtc, gsa, gsn, gsc⟩, rfl, hf5, b5⟩
      have OZ5 := Lib.hid ((obj_below b5 (lt_of_obj OZ4.out)).trans OZ4.out)
      have OR5 := Lib.hid ((obj_below b5 (lt_of_obj OR4.out)).trans OR4.out)
      have B5 : Hid (Below w.heap.size w w5) := Lib.hid (B4.out.trans (b5.mono B4.out.size))
      have HF5 := Lib.hid (hf5.mono (base := 0) (Nat.zero_le _))
      clear hf5 b5
      have OC1 : Hid (obj ((((w5.setCell ⟨(w.heap.size + 2 + 1), 0, none⟩ (.int .i64 gp)).setCell ⟨(w.heap.size + 2 + 1), 1, none⟩ (.slice goa gon goc)).setCell ⟨(w.heap.size + 2 + 1), 2, none⟩ (.slice gta gtn gtc)).setCell ⟨(w.heap.size + 2 + 1), 3, none⟩ (.slice gsa gsn gsc)) (w.heap.size + 1) = some (.cells #[.int .i64 0, .slice none 0 0, .slice none 0 0, .slice none 0 0] 27 (0, 0))) := Lib.hid ((obj_setCell_ne _ ⟨(w.heap.size + 2 + 1), 3, none⟩ _ _ (by dsimp only; omega)).trans ((obj_setCell_ne _ ⟨(w.heap.size + 2 + 1), 2, none⟩ _ _ (by dsimp only; omega)).trans ((obj_setCell_ne _ ⟨(w.heap.size + 2 + 1), 1, none⟩ _ _ (by dsimp only; omega)).trans ((obj_setCell_ne _ ⟨(w.heap.size + 2 + 1), 0, none⟩ _ _ (by dsimp only; omega)).trans OR5.out))))
      have OCB : Hid (obj ((((w5.setCell ⟨(w.heap.size + 2 + 1), 0, none⟩ (.int .i64 gp)).setCell ⟨(w.heap.size + 2 + 1), 1, none⟩ (.slice goa gon goc)).setCell ⟨(w.heap.size + 2 + 1), 2, none⟩ (.slice gta gtn gtc)).setCell ⟨(w.heap.size + 2 + 1), 3, none⟩ (.slice gsa gsn gsc)) (w.heap.size + 2 + 1) = some (.cells #[(.int .i64 gp), (.slice goa gon goc), (.slice gta gtn gtc), (.slice gsa gsn gsc)] 27 (0, 0))) := Lib.hid (obj_setCell_at (.slice gsa gsn gsc) (i := 3) (obj_setCell_at (.slice gta gtn gtc) (i := 2) (obj_setCell_at (.slice goa gon goc) (i := 1) (obj_setCell_at (.int .i64 gp) (i := 0) OZ5.out))))
      have HFC := Lib.hid ((((HF5.out.setBox OZ5.out 0 (.int .i64 gp)).setBox (obj_setCell_at (.int .i64 gp) (i := 0) OZ5.out) 1 (.slice goa gon goc)).setBox (obj_setCell_at (.slice goa gon goc) (i := 1) (obj_setCell_at (.int .i64 gp) (i := 0) OZ5.out)) 2 (.slice gta gtn gtc)).setBox (obj_setCell_at (.slice gta gtn gtc) (i := 2) (obj_setCell_at (.slice goa gon goc) (i := 1) (obj_setCell_at (.int .i64 gp) (i := 0) OZ5.out))) 3 (.slice gsa gsn gsc))
      have HFE := Lib.hid ((((HFC.out.setBox OC1.out 0 (.int .i64 gp)).setBox (obj_setCell_at (.int .i64 gp) (i := 0) OC1.out) 1 (.slice goa gon goc)).setBox (obj_setCell_at (.slice goa gon goc) (i := 1) (obj_setCell_at (.int .i64 gp) (i := 0) OC1.out)) 2 (.slice gta gtn gtc)).setBox (obj_setCell_at (.slice gta gtn gtc) (i := 2) (obj_setCell_at (.slice goa gon goc) (i := 1) (obj_setCell_at (.int .i64 gp) (i := 0) OC1.out))) 3 (.slice gsa gsn gsc))
      have OCE : Hid (obj ((((((((w5.setCell ⟨(w.heap.size + 2 + 1), 0, none⟩ (.int .i64 gp)).setCell ⟨(w.heap.size + 2 + 1), 1, none⟩ (.slice goa gon goc)).setCell ⟨(w.heap.size + 2 + 1), 2, none⟩ (.slice gta gtn gtc)).setCell ⟨(w.heap.size + 2 + 1), 3, none⟩ (.slice gsa gsn gsc)).setCell ⟨(w.heap.size + 1), 0, none⟩ (.int .i64 gp)).setCell ⟨(w.heap.size + 1), 1, none⟩ (.slice goa gon goc)).setCell ⟨(w.heap.size + 1), 2, none⟩ (.slice gta gtn gtc)).setCell ⟨(w.heap.size + 1), 3, none⟩ (.slice gsa gsn gsc)) (w.heap.size + 1) = some (.cells #[(.int .i64 gp), (.slice goa gon goc), (.slice gta gtn gtc), (.slice gsa gsn gsc)] 27 (0, 0))) := Lib.hid (obj_setCell_at (.slice gsa gsn gsc) (i := 3) (obj_setCell_at (.slice gta gtn gtc) (i := 2) (obj_setCell_at (.slice goa gon goc) (i := 1) (obj_setCell_at (.int .i64 gp) (i := 0) OC1.out))))
      have BE : Hid (Below w.heap.size w ((((((((w5.setCell ⟨(w.heap.size + 2 + 1), 0, none⟩ (.int .i64 gp)).setCell ⟨(w.heap.size + 2 + 1), 1, none⟩ (.slice goa gon goc)).setCell ⟨(w.heap.size + 2 + 1), 2, none⟩ (.slice gta gtn gtc)).setCell ⟨(w.heap.size + 2 + 1), 3, none⟩ (.slice gsa gsn gsc)).setCell ⟨(w.heap.size + 1), 0, none⟩ (.int .i64 gp)).setCell ⟨(w.heap.size + 1), 1, none⟩ (.slice goa gon goc)).setCell ⟨(w.heap.size + 1), 2, none⟩ (.slice gta gtn gtc)).setCell ⟨(w.heap.size + 1), 3, none⟩ (.slice gsa gsn gsc))) := Lib.hid ((((((((B5.out.setCell (by dsimp only; omega) _).setCell (by dsimp only; omega) _).setCell (by dsimp only; omega) _).setCell (by dsimp only; omega) _).setCell (by simp) _).setCell (by simp) _).setCell (by simp) _).setCell (by simp) _)
      have hl3 := lt_of_obj OZ5.out
      have hl1 := lt_of_obj OR5.out
      have y0 := cell_at OZ5.out 0
      have y1 := cell_at OZ5.out 1
      have y2 := cell_at OZ5.out 2
      have y3 := cell_at OZ5.out 3
      simp at y0 y1 y2 y3
      have yf := frozen_at OZ5.out
      have u0 := cell_at OR5.out 0
      have u1 := cell_at OR5.out 1
      have u2 := cell_at OR5.out 2
      have u3 := cell_at OR5.out 3
      simp at u0 u1 u2 u3
      have uf := frozen_at OR5.out
      go_wp2_with fail
      have z := fr_cellsA OCE.out
      obtain ⟨z0, z1, z2, z3⟩ := z
      generalize (((((((w5.setCell ⟨(w.heap.size + 2 + 1), 0, none⟩ (.int .i64 gp)).setCell ⟨(w.heap.size + 2 + 1), 1, none⟩ (.slice goa gon goc)).setCell ⟨(w.heap.size + 2 + 1), 2, none⟩ (.slice gta gtn gtc)).setCell ⟨(w.heap.size + 2 + 1), 3, none⟩ (.slice gsa gsn gsc)).setCell ⟨(w.heap.size + 1), 0, none⟩ (.int .i64 gp)).setCell ⟨(w.heap.size + 1), 1, none⟩ (.slice goa gon goc)).setCell ⟨(w.heap.size + 1), 2, none⟩ (.slice gta gtn gtc)).setCell ⟨(w.heap.size + 1), 3, none⟩ (.slice gsa gsn gsc) = wE at *
      refine bodyPost_ret (v := .tuple #[frV ⟨gp, goa, gon, goc, gta, gtn, gtc, gsa, gsn, gsc⟩, .bool ((rc : Int) == 0)]) (by simp [results, Tryz.results22, go_sem, z0, z1, z2, z3]) rfl ⟨⟨gp, goa, gon, goc, gta, gtn, gtc, gsa, gsn, gsc⟩, by rw [HT2.out, HR.out]; rfl, by rw [HT2.out, HR.out]; exact HFE.out, BE.out⟩

end Go.Proofs.YtmgpfmgmpmkkaaaGreat
