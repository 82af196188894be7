import Derived.Test.YtmgpfmgmpmkkaaaGreatLivP
namespace Go.Proofs.YtmgpfmgmpmkkaaaGreat
open Go.RowKit Go.Shelf Go.Sort

set_option maxRecDepth 100000 in
/-- three -/
theorem three_any (w : World) : Calls Tryz.prog 30 #[] w fun e w' => ∃ v, e = .returned v ∧ SlIn w' v 2 vdL V3 ∧ Below w.heap.size w w' := by
  have OB : obj (w.alloc (.cells (V3.flatMap vdL).toArray 58)) w.heap.size = some (.cells (V3.flatMap vdL).toArray 58 (0, 0)) := obj_alloc_at _ _ _ rfl
  have HS := Lib.hid (SlIn.of_cells vdL_length V3 OB (by decide))
  have HB : Hid (Below w.heap.size w (w.alloc (.cells (V3.flatMap vdL).toArray 58))) := Lib.hid ((Below.refl _ w).alloc (Nat.le_refl _) _)
  clear OB
  go_enter Tryz.func30, Tryz.ntmps30
  go_wp2
  go_ret
  exact ⟨_, rfl, HS.out, HB.out⟩
theorem la1 {W wA : World} {o : Obj} (b : Below (W.alloc o).heap.size (W.alloc o) wA) : obj wA W.heap.size = some o := (obj_below b (by simp)).trans (obj_alloc_at _ _ _ rfl)
theorem la2 {W wA : World} {o o' : Obj} (b : Below ((W.alloc o).alloc o').heap.size ((W.alloc o).alloc o') wA) : obj wA W.heap.size = some o ∧ obj wA (W.heap.size + 1) = some o' :=
  ⟨(obj_below b (by simp; omega)).trans ((obj_alloc_past _ _ _ (by simp)).trans (obj_alloc_at _ _ _ rfl)), (obj_below b (by simp)).trans (obj_alloc_at _ _ _ (by simp))⟩
theorem lb0 {wA wB : World} {n : Nat} {o : Obj} (b : Below wA.heap.size wA wB) (q : obj wA n = some o) : obj wB n = some o := (obj_below b (lt_of_obj q)).trans q
theorem lp1 {wA : World} {n : Nat} {o o' : Obj} (q : obj wA n = some o) : obj (wA.alloc o') n = some o := (obj_alloc_past _ _ _ (lt_of_obj q)).trans q
theorem lb1 {wA wB : World} {n : Nat} {o o' : Obj} (b : Below (wA.alloc o').heap.size (wA.alloc o') wB) (q : obj wA n = some o) : obj wB n = some o := lb0 b (lp1 q)
theorem lb2 {wA wB : World} {n : Nat} {o o' o'' : Obj} (b : Below ((wA.alloc o').alloc o'').heap.size ((wA.alloc o').alloc o'') wB) (q : obj wA n = some o) : obj wB n = some o := lb0 b (lp1 (lp1 q))
theorem lc0 (W : World) (o : Obj) : obj (W.alloc o) W.heap.size = some o := obj_alloc_at _ _ _ rfl
theorem lc1 (W : World) (o o' : Obj) : obj ((W.alloc o).alloc o') W.heap.size = some o := lp1 (lc0 W o)
theorem lc2 (W : World) (o o' : Obj) : obj ((W.alloc o).alloc o') (W.heap.size + 1) = some o' := obj_alloc_at _ _ _ (by simp)
theorem ld1 {W wA : World} {o : Obj} (b : Below (W.drew.alloc o).heap.size (W.drew.alloc o) wA) : Below W.heap.size W wA := ((Below.refl _ W).drew.alloc (Nat.le_refl _) _).trans (b.mono (by simp))
theorem ld2 {W wA : World} {o o' : Obj} (b : Below ((W.drew.alloc o).alloc o').heap.size ((W.drew.alloc o).alloc o') wA) : Below W.heap.size W wA := (((Below.refl _ W).drew.alloc (Nat.le_refl _) _).alloc (by simp) _).trans (b.mono (by simp; omega))
theorem le0 {W wA wB : World} (h : Below W.heap.size W wA) (b : Below wA.heap.size wA wB) : Below W.heap.size W wB := h.trans (b.mono h.size)
theorem le1 {W wA wB : World} {o : Obj} (h : Below W.heap.size W wA) (b : Below (wA.alloc o).heap.size (wA.alloc o) wB) : Below W.heap.size W wB := le0 (h.alloc h.size _) b
theorem le2 {W wA wB : World} {o o' : Obj} (h : Below W.heap.size W wA) (b : Below ((wA.alloc o).alloc o').heap.size ((wA.alloc o).alloc o') wB) : Below W.heap.size W wB := le1 (h.alloc h.size _) b
theorem SlIn.two {w : World} {b E : Nat} {fr : Nat × Nat} (x y : ID) (h : obj w b = some (.cells (idL x ++ idL y).toArray E fr)) : SlIn w (.slice (some ⟨b, 0, none⟩) 2 2) 32 idL [x, y] := SlIn.of_cells (E := E) (fr := fr) idL_length [x, y] (by simpa using h) (by unfold maxLen; simp)
theorem splice2 (Z A B : Array Value) (n : Nat) (hz : Z.size = 2 * n) (ha : A.size = n) (hb : B.size = n) : spliceA (spliceA Z 0 A) n B = A ++ B := by
  apply Array.ext'
  simp only [spliceA, List.take_zero, List.nil_append, Nat.zero_add, Array.toList_append]
  have h1 : A.toList.length = n := by simpa using ha
  have h2 : B.toList.length = n := by simpa using hb
  rw [List.take_append_of_le_length (by omega), List.take_of_length_le (by omega), List.append_assoc]
  congr 1
  rw [h2, List.drop_append, List.drop_eq_nil_of_le (by omega), List.nil_append, List.drop_drop, List.drop_eq_nil_of_le (by simp; omega), List.append_nil]
set_option maxRecDepth 100000 in
@[go_sem] theorem run_two26 (a b : ID) (w : World) : (buildRow 24 2 #[(0, .agg (idL a).toArray), (1, .agg (idL b).toArray)]).run Tryz.prog w = .ok (.slice (some ⟨w.heap.size, 0, none⟩) 2 2) (w.alloc (.cells (idL a ++ idL b).toArray 32)) := by
  obtain ⟨ie, hie, hz, hn, hb⟩ := info_parts info45
  refine run_buildSlice w 24 32 2 _ (idL a ++ idL b).toArray ie (.agg (idL ID.zero).toArray) Tryz.underlying24 hie hz (by omega) (by omega) ?_
  simp only [hn]
  have hzc : ((Value.agg (idL ID.zero).toArray).cells).size = 32 := by simp [Value.cells]
  generalize hZ : Array.map _ (Array.range (2 * 32)) = Z
  have hZs : Z.size = 2 * 32 := by rw [← hZ]; simp
  rw [fill_agg (place := fun i => some (i * 32, 32)) (off := 0) (n := 32) (v := .agg (idL a).toArray) (by simp) (by simp [Value.cells]) (by omega)]
  rw [fill_agg (place := fun i => some (i * 32, 32)) (off := 32) (n := 32) (v := .agg (idL b).toArray) (by simp) (by simp [Value.cells]) (by rw [size_spliceA (by simp [Value.cells]; omega)]; omega)]
  simp only [Value.cells, Instr.fill]
  rw [splice2 Z _ _ 32 hZs (by simp) (by simp)]
  simp
theorem yieldsIf_move' {P : Program} {ops : Array Oper} {S : World → Prop} {op : Oper} {a : Act} {v : Value} (hw : Region.wanted op (yielded ops a.tmps) = true) (x : Operand) (ho : op.op = .move x) (hv : a.eval x = v) : YieldsIf P ops S op v a :=
  hv ▸ yieldsIf_move hw x ho
theorem l_3 : tipR V3 F0 0 (bID 1) = (F1, 0) := l_tip
theorem l_4 : failR V3 F1 2 = (F2, 0) := l_fail
theorem l_5 : accR V3 F2 1 [bID 1] = (F3, 0) := l_acc
theorem l_6 : accR V3 F3 2 [bID 1, bID 2] = (F4, 0) := l_acc2
theorem l_7 : failR V3 F4 0 = (F5, 0) := l_fail2
theorem small0 : FrSm F0 := ⟨by decide, by decide, by decide, by decide⟩
theorem small1 : FrSm F1 := ⟨by decide, by decide, by decide, by decide⟩
theorem small2 : FrSm F2 := ⟨by decide, by decide, by decide, by decide⟩
theorem small3 : FrSm F3 := ⟨by decide, by decide, by decide, by decide⟩
theorem small4 : FrSm F4 := ⟨by decide, by decide, by decide, by decide⟩
theorem small5 : FrSm F5 := ⟨by decide, by decide, by decide, by decide⟩
set_option maxRecDepth 100000 in
set_option maxHeartbeats 40000000 in
/-- live -/
theorem live_any (w : World) : Calls Tryz.prog 6 #[] w fun e w' => e = .returned (.bool true) ∧ Below w.heap.size w w' := by
  have hb0 : Below w.heap.size w ((w.alloc (.cells (idL (bID 1)).toArray 32)).alloc (.cells (idL (bID 2)).toArray 32)) := ((Below.refl _ w).alloc (Nat.le_refl _) _).alloc (by simp) _
  have ox : obj ((w.alloc (.cells (idL (bID 1)).toArray 32)).alloc (.cells (idL (bID 2)).toArray 32)) w.heap.size = some (.cells (idL (bID 1)).toArray 32 (0, 0)) := (obj_alloc_past _ _ _ (by simp)).trans (obj_alloc_at _ _ _ rfl)
  have oy : obj ((w.alloc (.cells (idL (bID 1)).toArray 32)).alloc (.cells (idL (bID 2)).toArray 32)) (w.heap.size + 1) = some (.cells (idL (bID 2)).toArray 32 (0, 0)) := obj_alloc_at _ _ _ (by simp)
  have hz : ((w.alloc (.cells (idL (bID 1)).toArray 32)).alloc (.cells (idL (bID 2)).toArray 32)).heap.size = w.heap.size + 2 := by simp
  have bx : ∀ w : World, (buildAgg 32 #[(0, .int .u8 1)]).run Tryz.prog w = .ok (.agg (idL (bID 1)).toArray) w := fun w => by kernel_rfl
  have by' : ∀ w : World, (buildAgg 32 #[(0, .int .u8 2)]).run Tryz.prog w = .ok (.agg (idL (bID 2)).toArray) w := fun w => by kernel_rfl
  have B0 := Lib.hid hb0
  have OX := Lib.hid ox
  have OY := Lib.hid oy
  have HZ := Lib.hid hz
  clear hb0 ox oy hz
  go_enter Tryz.func6, Tryz.ntmps6
  go_wp2_with fail
  generalize (w.alloc (.cells (idL (bID 1)).toArray 32)).alloc (.cells (idL (bID 2)).toArray 32) = w1 at *
  have hz := HZ.out
  refine (three_any w1).mono ?_
  rintro e w2 ⟨v2, rfl, hv2, b2⟩
  have hz2 := b2.size
  have ba : Below w2.heap.size w2 (w2.alloc (.cells #[.int .i64 2, .int .i64 2, .int .i64 0] 3)) := (Below.refl _ _).alloc (Nat.le_refl _) _
  have oa : obj (w2.alloc (.cells #[.int .i64 2, .int .i64 2, .int .i64 0] 3)) w2.heap.size = some (.cells (([2, 2, 0] : List Int).flatMap intL).toArray 3 (0, 0)) := obj_alloc_at _ _ _ rfl
  have hzA : (w2.alloc (.cells #[.int .i64 2, .int .i64 2, .int .i64 0] 3)).heap.size = w2.heap.size + 1 := by simp
  have HN := Lib.hid (new_act (w2.alloc (.cells #[.int .i64 2, .int .i64 2, .int .i64 0] 3)) v2 (.slice (some ⟨w2.heap.size, 0, none⟩) 3 3) V3 [2, 2, 0] (hv2.below ba) (SlIn.of_cells intL_length [2, 2, 0] oa (by decide)) (by decide))
  rw [l_new] at HN
  have BA : Hid (Below w1.heap.size w1 (w2.alloc (.cells #[.int .i64 2, .int .i64 2, .int .i64 0] 3))) := Lib.hid (b2.trans (ba.mono b2.size))
  clear hv2 b2 ba oa
  go_wp2_with fail
  generalize w2.alloc (.cells #[.int .i64 2, .int .i64 2, .int .i64 0] 3) = wa at *
  refine HN.out.mono ?_
  rintro e w3 ⟨d3, rfl, hf3, b3⟩
  have hz3 := b3.size
  have b4 : Below w3.heap.size w3 (w3.alloc (.cells (frC d3) 27)) := (Below.refl _ _).alloc (Nat.le_refl _) _
  have B4 : Hid (Below w1.heap.size w1 (w3.alloc (.cells (frC d3) 27))) := Lib.hid (BA.out.trans ((b3.trans (b4.mono hz3)).mono (by omega)))
  have O4 := Lib.hid (fr_box w3 d3)
  have A4 := Lib.hid (hf3.at_.below b4)
  clear hf3 b3 b4 HN BA
  obtain ⟨ap, aoa, aon, aoc, ata, atn, atc, asa, asn, asc⟩ := d3
  go_wp2_with fail
  generalize w3.alloc (.cells (frC ⟨ap, aoa, aon, aoc, ata, atn, atc, asa, asn, asc⟩) 27) = w4 at *
  generalize w3.heap.size = n4 at *
  have O_a := O4
  have A_a := A4
  clear O4 A4
  replace OX := Lib.hid ((obj_below B4.out (lt_of_obj OX.out)).trans OX.out)
  replace OY := Lib.hid ((obj_below B4.out (lt_of_obj OY.out)).trans OY.out)
  have hu := hu45
  have hs := hs45 (bID 1)
  have hs2 := hs45 (bID 2)
  have h_a := lt_of_obj O_a.out
  have hx := lt_of_obj OX.out
  have hy := lt_of_obj OY.out
  refine Code.wp_mono (Q := (fun (e : Exit) (a' : Act) (w' : World) => e = .normal ∧ ∃ (pb : Nat) (d : FrD) (u15 u16 u17 u18 u19 u20 u21 u22 u23 u24 u25 u26 u27 u28 u29 : Value), a' = ⟨#[.bool false, .pointer (some ⟨w.heap.size, 0, none⟩), .pointer (some ⟨(w.heap.size + 1), 0, none⟩), .pointer (some ⟨n4, 0, none⟩), .int .i64 0, .pointer (some ⟨pb, 0, none⟩), .int .i64 0, undef, undef, undef, undef, undef, undef, undef, undef, u15, u16, u17, u18, u19, u20, u21, u22, u23, u24, u25, u26, u27, u28, u29, undef, undef, undef, undef, undef, undef, undef, undef, undef, undef, undef, undef, undef, undef, undef, undef, undef, undef, undef, undef, undef, undef, undef, undef, undef, undef, undef, undef, undef, undef, undef, undef, undef, undef, undef, undef, undef, undef, undef, undef, undef, undef, undef, undef, undef, undef, undef, undef, undef, undef, undef, undef, undef, undef, undef, undef, undef, undef, undef, undef, undef, undef, undef, undef, undef, undef, undef, undef, undef, undef, undef, undef, undef, undef], []⟩ ∧ obj w' pb = some (.cells (frC d) 27 (0, 0)) ∧ FrAt w' d F1 ∧ Below w4.heap.size w4 w')) ?hq ?hr
  case hr =>
    have SC : ∀ W, Below w4.heap.size w4 W → (W.cell? ⟨n4, 0, none⟩ = some (.int .i64 ap) ∧ W.cell? ⟨n4, 1, none⟩ = some (.slice aoa aon aoc) ∧ W.cell? ⟨n4, 2, none⟩ = some (.slice ata atn atc) ∧ W.cell? ⟨n4, 3, none⟩ = some (.slice asa asn asc) ∧ W.rangeAt w.heap.size 0 (idL (bID 1)) ∧ Below w4.heap.size w4 W) := fun W hW => ⟨(fr_cells ((obj_below hW h_a).trans O_a.out)).1, (fr_cells ((obj_below hW h_a).trans O_a.out)).2.1, (fr_cells ((obj_below hW h_a).trans O_a.out)).2.2.1, (fr_cells ((obj_below hW h_a).trans O_a.out)).2.2.2, id_range ((obj_below hW hx).trans OX.out), hW⟩
    have HT := Lib.hid (fun W v (hv : SlIn W v 2 vdL V3) (hW : Below w4.heap.size w4 W) => tip_act W v V3 _ F0 0 (bID 1) hv (A_a.out.below hW) small0)
    rw [l_3] at HT
    clear B0 HZ hz hz2 hz3 hzA B4
    go_region_held3 (fun W => W.cell? ⟨n4, 0, none⟩ = some (.int .i64 ap) ∧ W.cell? ⟨n4, 1, none⟩ = some (.slice aoa aon aoc) ∧ W.cell? ⟨n4, 2, none⟩ = some (.slice ata atn atc) ∧ W.cell? ⟨n4, 3, none⟩ = some (.slice asa asn asc) ∧ W.rangeAt w.heap.size 0 (idL (bID 1)) ∧ Below w4.heap.size w4 W)
      (exact SC _ (by first | with_reducible assumption | exact (Below.refl _ _).drew | exact ((Below.refl _ _).alloc (Nat.le_refl _) _).drew | exact (((Below.refl _ _).alloc (Nat.le_refl _) _).alloc (by simp) _).drew | exact Below.alloc (by with_reducible assumption) (Below.size (by with_reducible assumption)) _ | exact Below.alloc (Below.alloc (by with_reducible assumption) (Below.size (by with_reducible assumption)) _) (Below.alloc (by with_reducible assumption) (Below.size (by with_reducible assumption)) _).size _ | exact Below.setCell (Below.setCell (Below.setCell (Below.setCell (by with_reducible assumption) (by dsimp only; omega) _) (by dsimp only; omega) _) (by dsimp only; omega) _) (by dsimp only; omega) _))
      (first
        | (go_at_call 30; (with_reducible refine (three_any _).mono ?_); rintro _ wA ⟨vA, rfl, hvA, bA⟩; have bA2 : Below w4.heap.size w4 wA := (by first | exact (Below.refl _ _).drew.trans bA | exact ld1 bA | exact ld2 bA); have SA := SC _ bA2; have hzA2 := bA2.size; (first | (have qq := la2 (W := w4.drew) bA; have q1 : obj wA w4.heap.size = some _ := qq.1; have q2 : obj wA (w4.heap.size + 1) = some _ := qq.2) | (have q1 : obj wA w4.heap.size = some _ := la1 (W := w4.drew) bA) | skip))
        | (go_at_call 9; (with_reducible refine (HT.out _ _ (by first | exact hvA | exact hvA.below ((Below.refl _ _).alloc (Nat.le_refl _) _) | exact hvA.below (((Below.refl _ _).alloc (Nat.le_refl _) _).alloc (by simp) _)) (by first | exact bA2 | exact bA2.alloc bA2.size _ | exact (bA2.alloc bA2.size _).alloc (bA2.alloc bA2.size _).size _)).mono ?_); rintro _ wB ⟨dB, rfl, hfB, bB⟩; obtain ⟨bp, boa, bon, boc, bta, btn, btc, bsa, bsn, bsc⟩ := dB; have bB2 : Below w4.heap.size w4 wB := (by first | exact le0 bA2 bB | exact le1 bA2 bB | exact le2 bA2 bB); have SB := SC _ bB2; have fB := hfB.at_; have hzB := bB2.size; (first | (have r1 := lb0 bB q1) | (have r1 := lb1 bB q1) | (have r1 := lb2 bB q1) | skip); (first | (have r2 := lb0 bB q2) | (have r2 := lb1 bB q2) | (have r2 := lb2 bB q2) | skip); (first | (have rr := la2 bB; obtain ⟨r3, r4⟩ := rr) | (have r3 := la1 bB) | skip); (first | (have kB : obj wB w4.heap.size = some (.cells #[.int .i64 0, .slice none 0 0, .slice none 0 0, .slice none 0 0] 27 (0, 0)) := r1) | (have kB : obj wB (w4.heap.size + 1) = some (.cells #[.int .i64 0, .slice none 0 0, .slice none 0 0, .slice none 0 0] 27 (0, 0)) := r2) | (have kB : obj wB wA.heap.size = some (.cells #[.int .i64 0, .slice none 0 0, .slice none 0 0, .slice none 0 0] 27 (0, 0)) := r3) | (have kB : obj wB (wA.heap.size + 1) = some (.cells #[.int .i64 0, .slice none 0 0, .slice none 0 0, .slice none 0 0] 27 (0, 0)) := r4) | skip); (try have y0 := cell_at kB 0); (try have y1 := cell_at kB 1); (try have y2 := cell_at kB 2); (try have y3 := cell_at kB 3); (try have yf := frozen_at kB); (try have yl := lt_of_obj kB)))
    all_goals refine ⟨rfl, _, ⟨bp, boa, bon, boc, bta, btn, btc, bsa, bsn, bsc⟩, _, _, _, _, _, _, _, _, _, _, _, _, _, _, _, rfl, ?_⟩
    all_goals first | exact ⟨by with_reducible exact obj_alloc_at _ _ _ rfl, fB.below ((Below.refl _ _).alloc (Nat.le_refl _) _), bB2.alloc bB2.size _⟩ | exact ⟨(obj_setCell_at (.slice bsa bsn bsc) (i := 3) (obj_setCell_at (.slice bta btn btc) (i := 2) (obj_setCell_at (.slice boa bon boc) (i := 1) (obj_setCell_at (.int .i64 bp) (i := 0) kB)))), ((((hfB.setBox kB 0 (.int .i64 bp)).setBox (obj_setCell_at (.int .i64 bp) (i := 0) kB) 1 (.slice boa bon boc)).setBox (obj_setCell_at (.slice boa bon boc) (i := 1) (obj_setCell_at (.int .i64 bp) (i := 0) kB)) 2 (.slice bta btn btc)).setBox (obj_setCell_at (.slice bta btn btc) (i := 2) (obj_setCell_at (.slice boa bon boc) (i := 1) (obj_setCell_at (.int .i64 bp) (i := 0) kB))) 3 (.slice bsa bsn bsc)).at_, Below.setCell (Below.setCell (Below.setCell (Below.setCell (by with_reducible assumption) (by dsimp only; omega) _) (by dsimp only; omega) _) (by dsimp only; omega) _) (by dsimp only; omega) _⟩
  case hq =>
    rintro e a' w5 ⟨rfl, p5, ⟨bp, boa, bon, boc, bta, btn, btc, bsa, bsn, bsc⟩, u15, u16, u17, u18, u19, u20, u21, u22, u23, u24, u25, u26, u27, u28, u29, rfl, o_, f_, b_⟩
    replace O_a := Lib.hid ((obj_below b_ h_a).trans O_a.out)
    replace OX := Lib.hid ((obj_below b_ hx).trans OX.out)
    replace OY := Lib.hid ((obj_below b_ hy).trans OY.out)
    replace A_a := Lib.hid (A_a.out.below b_)
    replace B4 : Hid (Below w1.heap.size w1 w5) := Lib.hid (B4.out.trans (b_.mono B4.out.size))
    have O_b := Lib.hid o_
    have A_b := Lib.hid f_
    clear o_ f_ b_ h_a hx hy
    have h_a := lt_of_obj O_a.out
    have h_b := lt_of_obj O_b.out
    have hx := lt_of_obj OX.out
    have hy := lt_of_obj OY.out
    go_wp2_with fail
    refine Code.wp_mono (Q := (fun (e : Exit) (a' : Act) (w' : World) => e = .normal ∧ ∃ (pb : Nat) (d : FrD) (u30 u31 u32 u33 u34 u35 : Value), a' = ⟨#[.bool false, .pointer (some ⟨w.heap.size, 0, none⟩), .pointer (some ⟨(w.heap.size + 1), 0, none⟩), .pointer (some ⟨n4, 0, none⟩), .int .i64 0, .pointer (some ⟨p5, 0, none⟩), .int .i64 0, .pointer (some ⟨pb, 0, none⟩), .int .i64 0, undef, undef, undef, undef, undef, undef, u15, u16, u17, u18, u19, u20, u21, u22, u23, u24, u25, u26, u27, u28, u29, u30, u31, u32, u33, u34, u35, undef, undef, undef, undef, undef, undef, undef, undef, undef, undef, undef, undef, undef, undef, undef, undef, undef, undef, undef, undef, undef, undef, undef, undef, undef, undef, undef, undef, undef, undef, undef, undef, undef, undef, undef, undef, undef, undef, undef, undef, undef, undef, undef, undef, undef, undef, undef, undef, undef, undef, undef, undef, undef, undef, undef, undef, undef, undef, undef, undef, undef, undef, undef, undef, undef, undef, undef, undef], []⟩ ∧ obj w' pb = some (.cells (frC d) 27 (0, 0)) ∧ FrAt w' d F2 ∧ Below w5.heap.size w5 w')) ?hq ?hr
    case hr =>
      have SC : ∀ W, Below w5.heap.size w5 W → (W.cell? ⟨p5, 0, none⟩ = some (.int .i64 bp) ∧ W.cell? ⟨p5, 1, none⟩ = some (.slice boa bon boc) ∧ W.cell? ⟨p5, 2, none⟩ = some (.slice bta btn btc) ∧ W.cell? ⟨p5, 3, none⟩ = some (.slice bsa bsn bsc) ∧ Below w5.heap.size w5 W) := fun W hW => ⟨(fr_cells ((obj_below hW h_b).trans O_b.out)).1, (fr_cells ((obj_below hW h_b).trans O_b.out)).2.1, (fr_cells ((obj_below hW h_b).trans O_b.out)).2.2.1, (fr_cells ((obj_below hW h_b).trans O_b.out)).2.2.2, hW⟩
      have HT := Lib.hid (fun W v (hv : SlIn W v 2 vdL V3) (hW : Below w5.heap.size w5 W) => failed_any W v V3 _ F1 2 hv (A_b.out.below hW) small1)
      rw [l_4] at HT
      clear B0 HZ hz hz2 hz3 hzA B4
      go_region_held3 (fun W => W.cell? ⟨p5, 0, none⟩ = some (.int .i64 bp) ∧ W.cell? ⟨p5, 1, none⟩ = some (.slice boa bon boc) ∧ W.cell? ⟨p5, 2, none⟩ = some (.slice bta btn btc) ∧ W.cell? ⟨p5, 3, none⟩ = some (.slice bsa bsn bsc) ∧ Below w5.heap.size w5 W)
        (exact SC _ (by first | with_reducible assumption | exact (Below.refl _ _).drew | exact ((Below.refl _ _).alloc (Nat.le_refl _) _).drew | exact (((Below.refl _ _).alloc (Nat.le_refl _) _).alloc (by simp) _).drew | exact Below.alloc (by with_reducible assumption) (Below.size (by with_reducible assumption)) _ | exact Below.alloc (Below.alloc (by with_reducible assumption) (Below.size (by with_reducible assumption)) _) (Below.alloc (by with_reducible assumption) (Below.size (by with_reducible assumption)) _).size _ | exact Below.setCell (Below.setCell (Below.setCell (Below.setCell (by with_reducible assumption) (by dsimp only; omega) _) (by dsimp only; omega) _) (by dsimp only; omega) _) (by dsimp only; omega) _))
        (first
          | (go_at_call 30; (with_reducible refine (three_any _).mono ?_); rintro _ wA ⟨vA, rfl, hvA, bA⟩; have bA2 : Below w5.heap.size w5 wA := (by first | exact (Below.refl _ _).drew.trans bA | exact ld1 bA | exact ld2 bA); have SA := SC _ bA2; have hzA2 := bA2.size; (first | (have qq := la2 (W := w5.drew) bA; have q1 : obj wA w5.heap.size = some _ := qq.1; have q2 : obj wA (w5.heap.size + 1) = some _ := qq.2) | (have q1 : obj wA w5.heap.size = some _ := la1 (W := w5.drew) bA) | skip))
          | (go_at_call 13; (with_reducible refine (HT.out _ _ (by first | exact hvA | exact hvA.below ((Below.refl _ _).alloc (Nat.le_refl _) _) | exact hvA.below (((Below.refl _ _).alloc (Nat.le_refl _) _).alloc (by simp) _)) (by first | exact bA2 | exact bA2.alloc bA2.size _ | exact (bA2.alloc bA2.size _).alloc (bA2.alloc bA2.size _).size _)).mono ?_); rintro _ wB ⟨dB, rfl, hfB, bB⟩; obtain ⟨cp, coa, con, coc, cta, ctn, ctc, csa, csn, csc⟩ := dB; have bB2 : Below w5.heap.size w5 wB := (by first | exact le0 bA2 bB | exact le1 bA2 bB | exact le2 bA2 bB); have SB := SC _ bB2; have fB := hfB.at_; have hzB := bB2.size; (first | (have r1 := lb0 bB q1) | (have r1 := lb1 bB q1) | (have r1 := lb2 bB q1) | skip); (first | (have r2 := lb0 bB q2) | (have r2 := lb1 bB q2) | (have r2 := lb2 bB q2) | skip); (first | (have rr := la2 bB; obtain ⟨r3, r4⟩ := rr) | (have r3 := la1 bB) | skip); (first | (have kB : obj wB w5.heap.size = some (.cells #[.int .i64 0, .slice none 0 0, .slice none 0 0, .slice none 0 0] 27 (0, 0)) := r1) | (have kB : obj wB (w5.heap.size + 1) = some (.cells #[.int .i64 0, .slice none 0 0, .slice none 0 0, .slice none 0 0] 27 (0, 0)) := r2) | (have kB : obj wB wA.heap.size = some (.cells #[.int .i64 0, .slice none 0 0, .slice none 0 0, .slice none 0 0] 27 (0, 0)) := r3) | (have kB : obj wB (wA.heap.size + 1) = some (.cells #[.int .i64 0, .slice none 0 0, .slice none 0 0, .slice none 0 0] 27 (0, 0)) := r4) | skip); (try have y0 := cell_at kB 0); (try have y1 := cell_at kB 1); (try have y2 := cell_at kB 2); (try have y3 := cell_at kB 3); (try have yf := frozen_at kB); (try have yl := lt_of_obj kB)))
      all_goals refine ⟨rfl, _, ⟨cp, coa, con, coc, cta, ctn, ctc, csa, csn, csc⟩, _, _, _, _, _, _, rfl, ?_⟩
      all_goals first | exact ⟨by with_reducible exact obj_alloc_at _ _ _ rfl, fB.below ((Below.refl _ _).alloc (Nat.le_refl _) _), bB2.alloc bB2.size _⟩ | exact ⟨(obj_setCell_at (.slice csa csn csc) (i := 3) (obj_setCell_at (.slice cta ctn ctc) (i := 2) (obj_setCell_at (.slice coa con coc) (i := 1) (obj_setCell_at (.int .i64 cp) (i := 0) kB)))), ((((hfB.setBox kB 0 (.int .i64 cp)).setBox (obj_setCell_at (.int .i64 cp) (i := 0) kB) 1 (.slice coa con coc)).setBox (obj_setCell_at (.slice coa con coc) (i := 1) (obj_setCell_at (.int .i64 cp) (i := 0) kB)) 2 (.slice cta ctn ctc)).setBox (obj_setCell_at (.slice cta ctn ctc) (i := 2) (obj_setCell_at (.slice coa con coc) (i := 1) (obj_setCell_at (.int .i64 cp) (i := 0) kB))) 3 (.slice csa csn csc)).at_, Below.setCell (Below.setCell (Below.setCell (Below.setCell (by with_reducible assumption) (by dsimp only; omega) _) (by dsimp only; omega) _) (by dsimp only; omega) _) (by dsimp only; omega) _⟩
    case hq =>
      rintro e a' w6 ⟨rfl, p6, ⟨cp, coa, con, coc, cta, ctn, ctc, csa, csn, csc⟩, u30, u31, u32, u33, u34, u35, rfl, o_, f_, b_⟩
      replace O_a := Lib.hid ((obj_below b_ h_a).trans O_a.out)
      replace O_b := Lib.hid ((obj_below b_ h_b).trans O_b.out)
      replace OX := Lib.hid ((obj_below b_ hx).trans OX.out)
      replace OY := Lib.hid ((obj_below b_ hy).trans OY.out)
      replace A_a := Lib.hid (A_a.out.below b_)
      replace A_b := Lib.hid (A_b.out.below b_)
      replace B4 : Hid (Below w1.heap.size w1 w6) := Lib.hid (B4.out.trans (b_.mono B4.out.size))
      have O_c := Lib.hid o_
      have A_c := Lib.hid f_
      clear o_ f_ b_ h_a h_b hx hy
      have h_a := lt_of_obj O_a.out
      have h_b := lt_of_obj O_b.out
      have h_c := lt_of_obj O_c.out
      have hx := lt_of_obj OX.out
      have hy := lt_of_obj OY.out
      go_wp2_with fail
      refine Code.wp_mono (Q := (fun (e : Exit) (a' : Act) (w' : World) => e = .normal ∧ ∃ (pb : Nat) (d : FrD) (u36 u37 u38 u39 u40 u41 u42 u43 : Value), a' = ⟨#[.bool false, .pointer (some ⟨w.heap.size, 0, none⟩), .pointer (some ⟨(w.heap.size + 1), 0, none⟩), .pointer (some ⟨n4, 0, none⟩), .int .i64 0, .pointer (some ⟨p5, 0, none⟩), .int .i64 0, .pointer (some ⟨p6, 0, none⟩), .int .i64 0, .pointer (some ⟨pb, 0, none⟩), .int .i64 0, undef, undef, undef, undef, u15, u16, u17, u18, u19, u20, u21, u22, u23, u24, u25, u26, u27, u28, u29, u30, u31, u32, u33, u34, u35, u36, u37, u38, u39, u40, u41, u42, u43, undef, undef, undef, undef, undef, undef, undef, undef, undef, undef, undef, undef, undef, undef, undef, undef, undef, undef, undef, undef, undef, undef, undef, undef, undef, undef, undef, undef, undef, undef, undef, undef, undef, undef, undef, undef, undef, undef, undef, undef, undef, undef, undef, undef, undef, undef, undef, undef, undef, undef, undef, undef, undef, undef, undef, undef, undef, undef, undef, undef], []⟩ ∧ obj w' pb = some (.cells (frC d) 27 (0, 0)) ∧ FrAt w' d F3 ∧ Below w6.heap.size w6 w')) ?hq ?hr
      case hr =>
        have SC : ∀ W, Below w6.heap.size w6 W → (W.cell? ⟨p6, 0, none⟩ = some (.int .i64 cp) ∧ W.cell? ⟨p6, 1, none⟩ = some (.slice coa con coc) ∧ W.cell? ⟨p6, 2, none⟩ = some (.slice cta ctn ctc) ∧ W.cell? ⟨p6, 3, none⟩ = some (.slice csa csn csc) ∧ W.rangeAt w.heap.size 0 (idL (bID 1)) ∧ Below w6.heap.size w6 W) := fun W hW => ⟨(fr_cells ((obj_below hW h_c).trans O_c.out)).1, (fr_cells ((obj_below hW h_c).trans O_c.out)).2.1, (fr_cells ((obj_below hW h_c).trans O_c.out)).2.2.1, (fr_cells ((obj_below hW h_c).trans O_c.out)).2.2.2, id_range ((obj_below hW hx).trans OX.out), hW⟩
        have HT := Lib.hid (fun W v vi (hv : SlIn W v 2 vdL V3) (hW : Below w6.heap.size w6 W) (hi : SlIn W vi 32 idL [bID 1]) => acc_act W v vi V3 _ F2 1 [bID 1] hv (A_c.out.below hW) small2 hi)
        rw [l_5] at HT
        clear B0 HZ hz hz2 hz3 hzA B4
        go_region_held3 (fun W => W.cell? ⟨p6, 0, none⟩ = some (.int .i64 cp) ∧ W.cell? ⟨p6, 1, none⟩ = some (.slice coa con coc) ∧ W.cell? ⟨p6, 2, none⟩ = some (.slice cta ctn ctc) ∧ W.cell? ⟨p6, 3, none⟩ = some (.slice csa csn csc) ∧ W.rangeAt w.heap.size 0 (idL (bID 1)) ∧ Below w6.heap.size w6 W)
          (exact SC _ (by first | with_reducible assumption | exact (Below.refl _ _).drew | exact ((Below.refl _ _).alloc (Nat.le_refl _) _).drew | exact (((Below.refl _ _).alloc (Nat.le_refl _) _).alloc (by simp) _).drew | exact Below.alloc (by with_reducible assumption) (Below.size (by with_reducible assumption)) _ | exact Below.alloc (Below.alloc (by with_reducible assumption) (Below.size (by with_reducible assumption)) _) (Below.alloc (by with_reducible assumption) (Below.size (by with_reducible assumption)) _).size _ | exact Below.setCell (Below.setCell (Below.setCell (Below.setCell (by with_reducible assumption) (by dsimp only; omega) _) (by dsimp only; omega) _) (by dsimp only; omega) _) (by dsimp only; omega) _))
          (first
            | (go_at_call 30; (with_reducible refine (three_any _).mono ?_); rintro _ wA ⟨vA, rfl, hvA, bA⟩; have bA2 : Below w6.heap.size w6 wA := (by first | exact (Below.refl _ _).drew.trans bA | exact ld1 bA | exact ld2 bA); have SA := SC _ bA2; have hzA2 := bA2.size; (first | (have qq := la2 (W := w6.drew) bA; have q1 : obj wA w6.heap.size = some _ := qq.1; have q2 : obj wA (w6.heap.size + 1) = some _ := qq.2) | (have q1 : obj wA w6.heap.size = some _ := la1 (W := w6.drew) bA) | skip))
            | (go_at_call 11; (with_reducible refine (HT.out _ _ _ (by first | exact hvA | exact hvA.below ((Below.refl _ _).alloc (Nat.le_refl _) _) | exact hvA.below (((Below.refl _ _).alloc (Nat.le_refl _) _).alloc (by simp) _)) (by first | exact bA2 | exact bA2.alloc bA2.size _ | exact (bA2.alloc bA2.size _).alloc (bA2.alloc bA2.size _).size _) (by first | exact SlIn.one (E := 32) (fr := (0, 0)) idL_length (bID 1) q1 | exact SlIn.one (E := 32) (fr := (0, 0)) idL_length (bID 1) q2 | exact SlIn.one (E := 32) (fr := (0, 0)) idL_length (bID 1) (lp1 q1) | exact SlIn.one (E := 32) (fr := (0, 0)) idL_length (bID 1) (lp1 q2) | exact SlIn.one (E := 32) (fr := (0, 0)) idL_length (bID 1) (lc0 _ _) | exact SlIn.one (E := 32) (fr := (0, 0)) idL_length (bID 1) (lc1 _ _ _) | exact SlIn.one (E := 32) (fr := (0, 0)) idL_length (bID 1) (lc2 _ _ _))).mono ?_); rintro _ wB ⟨dB, rfl, hfB, bB⟩; obtain ⟨dp, doa, don, doc, dta, dtn, dtc, dsa, dsn, dsc⟩ := dB; have bB2 : Below w6.heap.size w6 wB := (by first | exact le0 bA2 bB | exact le1 bA2 bB | exact le2 bA2 bB); have SB := SC _ bB2; have fB := hfB.at_; have hzB := bB2.size; (first | (have r1 := lb0 bB q1) | (have r1 := lb1 bB q1) | (have r1 := lb2 bB q1) | skip); (first | (have r2 := lb0 bB q2) | (have r2 := lb1 bB q2) | (have r2 := lb2 bB q2) | skip); (first | (have rr := la2 bB; obtain ⟨r3, r4⟩ := rr) | (have r3 := la1 bB) | skip); (first | (have kB : obj wB w6.heap.size = some (.cells #[.int .i64 0, .slice none 0 0, .slice none 0 0, .slice none 0 0] 27 (0, 0)) := r1) | (have kB : obj wB (w6.heap.size + 1) = some (.cells #[.int .i64 0, .slice none 0 0, .slice none 0 0, .slice none 0 0] 27 (0, 0)) := r2) | (have kB : obj wB wA.heap.size = some (.cells #[.int .i64 0, .slice none 0 0, .slice none 0 0, .slice none 0 0] 27 (0, 0)) := r3) | (have kB : obj wB (wA.heap.size + 1) = some (.cells #[.int .i64 0, .slice none 0 0, .slice none 0 0, .slice none 0 0] 27 (0, 0)) := r4) | skip); (try have y0 := cell_at kB 0); (try have y1 := cell_at kB 1); (try have y2 := cell_at kB 2); (try have y3 := cell_at kB 3); (try have yf := frozen_at kB); (try have yl := lt_of_obj kB)))
        all_goals refine ⟨rfl, _, ⟨dp, doa, don, doc, dta, dtn, dtc, dsa, dsn, dsc⟩, _, _, _, _, _, _, _, _, rfl, ?_⟩
        all_goals first | exact ⟨by with_reducible exact obj_alloc_at _ _ _ rfl, fB.below ((Below.refl _ _).alloc (Nat.le_refl _) _), bB2.alloc bB2.size _⟩ | exact ⟨(obj_setCell_at (.slice dsa dsn dsc) (i := 3) (obj_setCell_at (.slice dta dtn dtc) (i := 2) (obj_setCell_at (.slice doa don doc) (i := 1) (obj_setCell_at (.int .i64 dp) (i := 0) kB)))), ((((hfB.setBox kB 0 (.int .i64 dp)).setBox (obj_setCell_at (.int .i64 dp) (i := 0) kB) 1 (.slice doa don doc)).setBox (obj_setCell_at (.slice doa don doc) (i := 1) (obj_setCell_at (.int .i64 dp) (i := 0) kB)) 2 (.slice dta dtn dtc)).setBox (obj_setCell_at (.slice dta dtn dtc) (i := 2) (obj_setCell_at (.slice doa don doc) (i := 1) (obj_setCell_at (.int .i64 dp) (i := 0) kB))) 3 (.slice dsa dsn dsc)).at_, Below.setCell (Below.setCell (Below.setCell (Below.setCell (by with_reducible assumption) (by dsimp only; omega) _) (by dsimp only; omega) _) (by dsimp only; omega) _) (by dsimp only; omega) _⟩
      case hq =>
        rintro e a' w7 ⟨rfl, p7, ⟨dp, doa, don, doc, dta, dtn, dtc, dsa, dsn, dsc⟩, u36, u37, u38, u39, u40, u41, u42, u43, rfl, o_, f_, b_⟩
        replace O_a := Lib.hid ((obj_below b_ h_a).trans O_a.out)
        replace O_b := Lib.hid ((obj_below b_ h_b).trans O_b.out)
        replace O_c := Lib.hid ((obj_below b_ h_c).trans O_c.out)
        replace OX := Lib.hid ((obj_below b_ hx).trans OX.out)
        replace OY := Lib.hid ((obj_below b_ hy).trans OY.out)
        replace A_a := Lib.hid (A_a.out.below b_)
        replace A_b := Lib.hid (A_b.out.below b_)
        replace A_c := Lib.hid (A_c.out.below b_)
        replace B4 : Hid (Below w1.heap.size w1 w7) := Lib.hid (B4.out.trans (b_.mono B4.out.size))
        have O_d := Lib.hid o_
        have A_d := Lib.hid f_
        clear o_ f_ b_ h_a h_b h_c hx hy
        have h_a := lt_of_obj O_a.out
        have h_b := lt_of_obj O_b.out
        have h_c := lt_of_obj O_c.out
        have h_d := lt_of_obj O_d.out
        have hx := lt_of_obj OX.out
        have hy := lt_of_obj OY.out
        go_wp2_with fail
        refine Code.wp_mono (Q := (fun (e : Exit) (a' : Act) (w' : World) => e = .normal ∧ ∃ (pb : Nat) (d : FrD) (u44 u45 u46 u47 u48 u49 u50 u51 u52 : Value), a' = ⟨#[.bool false, .pointer (some ⟨w.heap.size, 0, none⟩), .pointer (some ⟨(w.heap.size + 1), 0, none⟩), .pointer (some ⟨n4, 0, none⟩), .int .i64 0, .pointer (some ⟨p5, 0, none⟩), .int .i64 0, .pointer (some ⟨p6, 0, none⟩), .int .i64 0, .pointer (some ⟨p7, 0, none⟩), .int .i64 0, .pointer (some ⟨pb, 0, none⟩), .int .i64 0, undef, undef, u15, u16, u17, u18, u19, u20, u21, u22, u23, u24, u25, u26, u27, u28, u29, u30, u31, u32, u33, u34, u35, u36, u37, u38, u39, u40, u41, u42, u43, u44, u45, u46, u47, u48, u49, u50, u51, u52, undef, undef, undef, undef, undef, undef, undef, undef, undef, undef, undef, undef, undef, undef, undef, undef, undef, undef, undef, undef, undef, undef, undef, undef, undef, undef, undef, undef, undef, undef, undef, undef, undef, undef, undef, undef, undef, undef, undef, undef, undef, undef, undef, undef, undef, undef, undef, undef, undef, undef, undef], []⟩ ∧ obj w' pb = some (.cells (frC d) 27 (0, 0)) ∧ FrAt w' d F4 ∧ Below w7.heap.size w7 w')) ?hq ?hr
        case hr =>
          have SC : ∀ W, Below w7.heap.size w7 W → (W.cell? ⟨p7, 0, none⟩ = some (.int .i64 dp) ∧ W.cell? ⟨p7, 1, none⟩ = some (.slice doa don doc) ∧ W.cell? ⟨p7, 2, none⟩ = some (.slice dta dtn dtc) ∧ W.cell? ⟨p7, 3, none⟩ = some (.slice dsa dsn dsc) ∧ W.rangeAt w.heap.size 0 (idL (bID 1)) ∧ W.rangeAt (w.heap.size + 1) 0 (idL (bID 2)) ∧ Below w7.heap.size w7 W) := fun W hW => ⟨(fr_cells ((obj_below hW h_d).trans O_d.out)).1, (fr_cells ((obj_below hW h_d).trans O_d.out)).2.1, (fr_cells ((obj_below hW h_d).trans O_d.out)).2.2.1, (fr_cells ((obj_below hW h_d).trans O_d.out)).2.2.2, id_range ((obj_below hW hx).trans OX.out), id_range ((obj_below hW hy).trans OY.out), hW⟩
          have HT := Lib.hid (fun W v vi (hv : SlIn W v 2 vdL V3) (hW : Below w7.heap.size w7 W) (hi : SlIn W vi 32 idL [bID 1, bID 2]) => acc_act W v vi V3 _ F3 2 [bID 1, bID 2] hv (A_d.out.below hW) small3 hi)
          rw [l_6] at HT
          clear B0 HZ hz hz2 hz3 hzA B4
          have YX : ∀ W, Below w7.heap.size w7 W → (loadAgg 32 ⟨w.heap.size, 0, none⟩).run Tryz.prog W = .ok (.agg (idL (bID 1)).toArray) W := fun W hW => by rw [run_load45, (obj_below hW hx).trans OX.out, subOf_cells (by simp), subA_all (by simp)]; rfl
          have YY : ∀ W, Below w7.heap.size w7 W → (loadAgg 32 ⟨w.heap.size + 1, 0, none⟩).run Tryz.prog W = .ok (.agg (idL (bID 2)).toArray) W := fun W hW => by rw [run_load45, (obj_below hW hy).trans OY.out, subOf_cells (by simp), subA_all (by simp)]; rfl
          refine wp_region_held_drew (S := fun W => Below w7.heap.size w7 W) (by kernel_rfl) (Below.refl _ _).drew (fun hS => ?_)
          refine wpAnyH_take (i := 1) (oi := { dst := some 46, op := Op.load 27 (Operand.tmp 9), type := 27, pos := _, after := _, guard := none }) (v := (.agg #[.int .i64 dp, .slice doa don doc, .slice dta dtn dtc, .slice dsa dsn dsc])) rfl (by kernel_rfl) (by kernel_rfl) (by kernel_rfl) (fun _ _ _ h => nomatch h.1) (.inl ⟨by kernel_rfl, fun W' hW => by have c := fr_cells ((obj_below hW h_d).trans O_d.out); obtain ⟨c0, c1, c2, c3⟩ := c; simp only at c0 c1 c2 c3; go_simp⟩) hS ?_
          try simp only [Act.put, List.setIfInBounds_toArray, List.set_cons_zero, List.set_cons_succ]
          refine wpAnyH_take (i := 2) (oi := { dst := some 47, op := Op.load 32 (Operand.tmp 1), type := 32, pos := _, after := _, guard := none }) (v := (.agg (idL (bID 1)).toArray)) rfl (by kernel_rfl) (by kernel_rfl) (by kernel_rfl) (fun _ _ _ h => nomatch h.1) (yieldsIf_agg (by kernel_rfl) 32 (.tmp 1) (by kernel_rfl) (w.heap.size) 0 (by kernel_rfl) YX) hS ?_
          try simp only [Act.put, List.setIfInBounds_toArray, List.set_cons_zero, List.set_cons_succ]
          refine wpAnyH_take (i := 3) (oi := { dst := some 48, op := Op.load 32 (Operand.tmp 2), type := 32, pos := _, after := _, guard := none }) (v := (.agg (idL (bID 2)).toArray)) rfl (by kernel_rfl) (by kernel_rfl) (by kernel_rfl) (fun _ _ _ h => nomatch h.1) (yieldsIf_agg (by kernel_rfl) 32 (.tmp 2) (by kernel_rfl) (w.heap.size + 1) 0 (by kernel_rfl) YY) hS ?_
          try simp only [Act.put, List.setIfInBounds_toArray, List.set_cons_zero, List.set_cons_succ]
          refine wpAnyH_ready (rs := [0, 4, 9]) (by kernel_rfl) (by simp) (AllReadyH.cons rfl (fun K hK => ?_) (AllReadyH.cons rfl (fun K hK => ?_) (AllReadyH.cons rfl (fun K hK => ?_) AllReadyH.nil)))
          · go_simp
            refine (three_any _).mono ?_
            rintro _ x1 ⟨v1, rfl, hv1, hb1⟩
            refine hK.out _ _ (hS.trans (hb1.mono hS.size)) (fun hS1 => ?_)
            clear hK K
            try simp only [Act.put, List.setIfInBounds_toArray, List.set_cons_zero, List.set_cons_succ]
            clear hb1
            have hz1 := hS1.size
            refine wpAnyH_ready (rs := [4, 9]) (by kernel_rfl) (by simp) (AllReadyH.cons rfl (fun K hK => ?_) (AllReadyH.cons rfl (fun K hK => ?_) AllReadyH.nil))
            · go_simp
              refine hK.out _ _ (show Below w7.heap.size w7 (x1.alloc (.cells (idL (bID 1) ++ idL (bID 2)).toArray 32)) from hS1.alloc hS1.size _) (fun hS2 => ?_)
              clear hK K
              try simp only [Act.put, List.setIfInBounds_toArray, List.set_cons_zero, List.set_cons_succ]
              have hn2 : obj (x1.alloc (.cells (idL (bID 1) ++ idL (bID 2)).toArray 32)) x1.heap.size = some (.cells (idL (bID 1) ++ idL (bID 2)).toArray 32 (0, 0)) := lc0 x1 _
              have hv2 := hv1.below (show Below x1.heap.size x1 (x1.alloc (.cells (idL (bID 1) ++ idL (bID 2)).toArray 32)) from (Below.refl x1.heap.size x1).alloc (Nat.le_refl _) _)
              generalize (x1.alloc (.cells (idL (bID 1) ++ idL (bID 2)).toArray 32)) = x2 at *
              have hz2 := hS2.size
              refine wpAnyH_ready (rs := [5, 9]) (by kernel_rfl) (by simp) (AllReadyH.cons rfl (fun K hK => ?_) (AllReadyH.cons rfl (fun K hK => ?_) AllReadyH.nil))
              · go_simp
                refine (HT.out x2 v1 (.slice (some ⟨x1.heap.size, 0, none⟩) 2 2) hv2 hS2 (SlIn.two (E := 32) (fr := (0, 0)) (bID 1) (bID 2) hn2)).mono ?_
                rintro _ x3 ⟨⟨e_p, e_oa, e_on, e_oc, e_ta, e_tn, e_tc, e_sa, e_sn, e_sc⟩, rfl, hf3, hb3⟩
                refine hK.out _ _ (hS2.trans (hb3.mono hS2.size)) (fun hS3 => ?_)
                clear hK K
                try simp only [Act.put, List.setIfInBounds_toArray, List.set_cons_zero, List.set_cons_succ]
                clear hb3
                refine wpAnyH_take (i := 6) (oi := { dst := some 44, op := Op.move (Operand.tmp 50), type := 34, pos := _, after := _, guard := none }) (v := (.tuple #[frV ⟨e_p, e_oa, e_on, e_oc, e_ta, e_tn, e_tc, e_sa, e_sn, e_sc⟩, .int .i64 0])) rfl (by kernel_rfl) (by kernel_rfl) (by kernel_rfl) (fun _ _ _ h => nomatch h.1) (yieldsIf_move' (by kernel_rfl) (.tmp 50) (by kernel_rfl) (by kernel_rfl)) hS3 ?_
                try simp only [Act.put, List.setIfInBounds_toArray, List.set_cons_zero, List.set_cons_succ]
                refine wpAnyH_take (i := 7) (oi := { dst := some 51, op := Op.extract (Operand.tmp 44) 0, type := 27, pos := _, after := _, guard := none }) (v := (frV ⟨e_p, e_oa, e_on, e_oc, e_ta, e_tn, e_tc, e_sa, e_sn, e_sc⟩)) rfl (by kernel_rfl) (by kernel_rfl) (by kernel_rfl) (fun _ _ _ h => nomatch h.1) (.inl ⟨by kernel_rfl, fun W' hW => by go_simp⟩) hS3 ?_
                try simp only [Act.put, List.setIfInBounds_toArray, List.set_cons_zero, List.set_cons_succ]
                refine wpAnyH_take (i := 8) (oi := { dst := some 52, op := Op.extract (Operand.tmp 44) 1, type := 33, pos := _, after := _, guard := none }) (v := (.int .i64 0)) rfl (by kernel_rfl) (by kernel_rfl) (by kernel_rfl) (fun _ _ _ h => nomatch h.1) (.inl ⟨by kernel_rfl, fun W' hW => by go_simp⟩) hS3 ?_
                try simp only [Act.put, List.setIfInBounds_toArray, List.set_cons_zero, List.set_cons_succ]
                replace hf3 := hf3.mono (base := 0) (Nat.zero_le _)
                have hz3 := hS3.size
                refine wpAnyH_ready (rs := [9]) (by kernel_rfl) (by simp) (AllReadyH.cons rfl (fun K hK => ?_) AllReadyH.nil)
                · go_simp
                  refine hK.out _ _ (show Below w7.heap.size w7 (x3.alloc (.cells #[.int .i64 0, .slice none 0 0, .slice none 0 0, .slice none 0 0] 27)) from hS3.alloc hS3.size _) (fun hS4 => ?_)
                  clear hK K
                  try simp only [Act.put, List.setIfInBounds_toArray, List.set_cons_zero, List.set_cons_succ]
                  have hn4 : obj (x3.alloc (.cells #[.int .i64 0, .slice none 0 0, .slice none 0 0, .slice none 0 0] 27)) x3.heap.size = some (.cells #[.int .i64 0, .slice none 0 0, .slice none 0 0, .slice none 0 0] 27 (0, 0)) := lc0 x3 _
                  have hf4 := hf3.below (show Below x3.heap.size x3 (x3.alloc (.cells #[.int .i64 0, .slice none 0 0, .slice none 0 0, .slice none 0 0] 27)) from (Below.refl x3.heap.size x3).alloc (Nat.le_refl _) _)
                  generalize (x3.alloc (.cells #[.int .i64 0, .slice none 0 0, .slice none 0 0, .slice none 0 0] 27)) = x4 at *
                  have hz4 := hS4.size
                  refine wpAnyH_ready (rs := [10]) (by kernel_rfl) (by simp) (AllReadyH.cons rfl (fun K hK => ?_) AllReadyH.nil)
                  · have y0 := cell_at hn4 0
                    have y1 := cell_at hn4 1
                    have y2 := cell_at hn4 2
                    have y3 := cell_at hn4 3
                    have yf := frozen_at hn4
                    have yl := lt_of_obj hn4
                    simp at y0 y1 y2 y3
                    have hle : w7.heap.size ≤ x3.heap.size := by omega
                    go_simp
                    refine hK.out _ _ (show Below w7.heap.size w7 ((((x4.setCell ⟨x3.heap.size, 0, none⟩ (.int .i64 e_p)).setCell ⟨x3.heap.size, 1, none⟩ (.slice e_oa e_on e_oc)).setCell ⟨x3.heap.size, 2, none⟩ (.slice e_ta e_tn e_tc)).setCell ⟨x3.heap.size, 3, none⟩ (.slice e_sa e_sn e_sc)) from Below.setCell (Below.setCell (Below.setCell (Below.setCell hS4 hle _) hle _) hle _) hle _) (fun hS5 => ?_)
                    clear hK K
                    try simp only [Act.put, List.setIfInBounds_toArray, List.set_cons_zero, List.set_cons_succ]
                    refine wpAnyH_take (i := 11) (oi := { dst := some 12, op := Op.assign (Operand.tmp 52), type := 33, pos := _, after := _, guard := none }) (v := (.int .i64 0)) rfl (by kernel_rfl) (by kernel_rfl) (by kernel_rfl) (fun _ _ _ h => nomatch h.1) (.inl ⟨by kernel_rfl, fun W' hW => by go_simp⟩) hS5 ?_
                    try simp only [Act.put, List.setIfInBounds_toArray, List.set_cons_zero, List.set_cons_succ]
                    refine wpAnyH_done (by kernel_rfl) ?_ _
                    exact ⟨rfl, x3.heap.size, ⟨e_p, e_oa, e_on, e_oc, e_ta, e_tn, e_tc, e_sa, e_sn, e_sc⟩, _, _, _, _, _, _, _, _, _, rfl, (obj_setCell_at (.slice e_sa e_sn e_sc) (i := 3) (obj_setCell_at (.slice e_ta e_tn e_tc) (i := 2) (obj_setCell_at (.slice e_oa e_on e_oc) (i := 1) (obj_setCell_at (.int .i64 e_p) (i := 0) hn4)))), (((((hf4.setBox hn4 0 (.int .i64 e_p)).setBox (obj_setCell_at (.int .i64 e_p) (i := 0) hn4) 1 (.slice e_oa e_on e_oc)).setBox (obj_setCell_at (.slice e_oa e_on e_oc) (i := 1) (obj_setCell_at (.int .i64 e_p) (i := 0) hn4)) 2 (.slice e_ta e_tn e_tc)).setBox (obj_setCell_at (.slice e_ta e_tn e_tc) (i := 2) (obj_setCell_at (.slice e_oa e_on e_oc) (i := 1) (obj_setCell_at (.int .i64 e_p) (i := 0) hn4))) 3 (.slice e_sa e_sn e_sc))).at_, hS5⟩
              · go_simp
                refine hK.out _ _ (show Below w7.heap.size w7 (x2.alloc (.cells #[.int .i64 0, .slice none 0 0, .slice none 0 0, .slice none 0 0] 27)) from hS2.alloc hS2.size _) (fun hS6 => ?_)
                clear hK K
                try simp only [Act.put, List.setIfInBounds_toArray, List.set_cons_zero, List.set_cons_succ]
                have hn6 : obj (x2.alloc (.cells #[.int .i64 0, .slice none 0 0, .slice none 0 0, .slice none 0 0] 27)) x2.heap.size = some (.cells #[.int .i64 0, .slice none 0 0, .slice none 0 0, .slice none 0 0] 27 (0, 0)) := lc0 x2 _
                have hv6 := hv2.below (show Below x2.heap.size x2 (x2.alloc (.cells #[.int .i64 0, .slice none 0 0, .slice none 0 0, .slice none 0 0] 27)) from (Below.refl x2.heap.size x2).alloc (Nat.le_refl _) _)
                have hi6 := lb0 (n := x1.heap.size) (show Below x2.heap.size x2 (x2.alloc (.cells #[.int .i64 0, .slice none 0 0, .slice none 0 0, .slice none 0 0] 27)) from (Below.refl x2.heap.size x2).alloc (Nat.le_refl _) _) hn2
                generalize (x2.alloc (.cells #[.int .i64 0, .slice none 0 0, .slice none 0 0, .slice none 0 0] 27)) = x6 at *
                have hz6 := hS6.size
                refine wpAnyH_ready (rs := [5]) (by kernel_rfl) (by simp) (AllReadyH.cons rfl (fun K hK => ?_) AllReadyH.nil)
                · go_simp
                  refine (HT.out x6 v1 (.slice (some ⟨x1.heap.size, 0, none⟩) 2 2) hv6 hS6 (SlIn.two (E := 32) (fr := (0, 0)) (bID 1) (bID 2) hi6)).mono ?_
                  rintro _ x7 ⟨⟨e_p, e_oa, e_on, e_oc, e_ta, e_tn, e_tc, e_sa, e_sn, e_sc⟩, rfl, hf7, hb7⟩
                  refine hK.out _ _ (hS6.trans (hb7.mono hS6.size)) (fun hS7 => ?_)
                  clear hK K
                  try simp only [Act.put, List.setIfInBounds_toArray, List.set_cons_zero, List.set_cons_succ]
                  have hk7 := lb0 (n := x2.heap.size) hb7 hn6
                  clear hb7
                  refine wpAnyH_take (i := 6) (oi := { dst := some 44, op := Op.move (Operand.tmp 50), type := 34, pos := _, after := _, guard := none }) (v := (.tuple #[frV ⟨e_p, e_oa, e_on, e_oc, e_ta, e_tn, e_tc, e_sa, e_sn, e_sc⟩, .int .i64 0])) rfl (by kernel_rfl) (by kernel_rfl) (by kernel_rfl) (fun _ _ _ h => nomatch h.1) (yieldsIf_move' (by kernel_rfl) (.tmp 50) (by kernel_rfl) (by kernel_rfl)) hS7 ?_
                  try simp only [Act.put, List.setIfInBounds_toArray, List.set_cons_zero, List.set_cons_succ]
                  refine wpAnyH_take (i := 7) (oi := { dst := some 51, op := Op.extract (Operand.tmp 44) 0, type := 27, pos := _, after := _, guard := none }) (v := (frV ⟨e_p, e_oa, e_on, e_oc, e_ta, e_tn, e_tc, e_sa, e_sn, e_sc⟩)) rfl (by kernel_rfl) (by kernel_rfl) (by kernel_rfl) (fun _ _ _ h => nomatch h.1) (.inl ⟨by kernel_rfl, fun W' hW => by go_simp⟩) hS7 ?_
                  try simp only [Act.put, List.setIfInBounds_toArray, List.set_cons_zero, List.set_cons_succ]
                  refine wpAnyH_take (i := 8) (oi := { dst := some 52, op := Op.extract (Operand.tmp 44) 1, type := 33, pos := _, after := _, guard := none }) (v := (.int .i64 0)) rfl (by kernel_rfl) (by kernel_rfl) (by kernel_rfl) (fun _ _ _ h => nomatch h.1) (.inl ⟨by kernel_rfl, fun W' hW => by go_simp⟩) hS7 ?_
                  try simp only [Act.put, List.setIfInBounds_toArray, List.set_cons_zero, List.set_cons_succ]
                  replace hf7 := hf7.mono (base := 0) (Nat.zero_le _)
                  have hz7 := hS7.size
                  refine wpAnyH_ready (rs := [10]) (by kernel_rfl) (by simp) (AllReadyH.cons rfl (fun K hK => ?_) AllReadyH.nil)
                  · have y0 := cell_at hk7 0
                    have y1 := cell_at hk7 1
                    have y2 := cell_at hk7 2
                    have y3 := cell_at hk7 3
                    have yf := frozen_at hk7
                    have yl := lt_of_obj hk7
                    simp at y0 y1 y2 y3
                    have hle : w7.heap.size ≤ x2.heap.size := by omega
                    go_simp
                    refine hK.out _ _ (show Below w7.heap.size w7 ((((x7.setCell ⟨x2.heap.size, 0, none⟩ (.int .i64 e_p)).setCell ⟨x2.heap.size, 1, none⟩ (.slice e_oa e_on e_oc)).setCell ⟨x2.heap.size, 2, none⟩ (.slice e_ta e_tn e_tc)).setCell ⟨x2.heap.size, 3, none⟩ (.slice e_sa e_sn e_sc)) from Below.setCell (Below.setCell (Below.setCell (Below.setCell hS7 hle _) hle _) hle _) hle _) (fun hS8 => ?_)
                    clear hK K
                    try simp only [Act.put, List.setIfInBounds_toArray, List.set_cons_zero, List.set_cons_succ]
                    refine wpAnyH_take (i := 11) (oi := { dst := some 12, op := Op.assign (Operand.tmp 52), type := 33, pos := _, after := _, guard := none }) (v := (.int .i64 0)) rfl (by kernel_rfl) (by kernel_rfl) (by kernel_rfl) (fun _ _ _ h => nomatch h.1) (.inl ⟨by kernel_rfl, fun W' hW => by go_simp⟩) hS8 ?_
                    try simp only [Act.put, List.setIfInBounds_toArray, List.set_cons_zero, List.set_cons_succ]
                    refine wpAnyH_done (by kernel_rfl) ?_ _
                    exact ⟨rfl, x2.heap.size, ⟨e_p, e_oa, e_on, e_oc, e_ta, e_tn, e_tc, e_sa, e_sn, e_sc⟩, _, _, _, _, _, _, _, _, _, rfl, (obj_setCell_at (.slice e_sa e_sn e_sc) (i := 3) (obj_setCell_at (.slice e_ta e_tn e_tc) (i := 2) (obj_setCell_at (.slice e_oa e_on e_oc) (i := 1) (obj_setCell_at (.int .i64 e_p) (i := 0) hk7)))), (((((hf7.setBox hk7 0 (.int .i64 e_p)).setBox (obj_setCell_at (.int .i64 e_p) (i := 0) hk7) 1 (.slice e_oa e_on e_oc)).setBox (obj_setCell_at (.slice e_oa e_on e_oc) (i := 1) (obj_setCell_at (.int .i64 e_p) (i := 0) hk7)) 2 (.slice e_ta e_tn e_tc)).setBox (obj_setCell_at (.slice e_ta e_tn e_tc) (i := 2) (obj_setCell_at (.slice e_oa e_on e_oc) (i := 1) (obj_setCell_at (.int .i64 e_p) (i := 0) hk7))) 3 (.slice e_sa e_sn e_sc))).at_, hS8⟩
            · go_simp
              refine hK.out _ _ (show Below w7.heap.size w7 (x1.alloc (.cells #[.int .i64 0, .slice none 0 0, .slice none 0 0, .slice none 0 0] 27)) from hS1.alloc hS1.size _) (fun hS9 => ?_)
              clear hK K
              try simp only [Act.put, List.setIfInBounds_toArray, List.set_cons_zero, List.set_cons_succ]
              have hn9 : obj (x1.alloc (.cells #[.int .i64 0, .slice none 0 0, .slice none 0 0, .slice none 0 0] 27)) x1.heap.size = some (.cells #[.int .i64 0, .slice none 0 0, .slice none 0 0, .slice none 0 0] 27 (0, 0)) := lc0 x1 _
              have hv9 := hv1.below (show Below x1.heap.size x1 (x1.alloc (.cells #[.int .i64 0, .slice none 0 0, .slice none 0 0, .slice none 0 0] 27)) from (Below.refl x1.heap.size x1).alloc (Nat.le_refl _) _)
              generalize (x1.alloc (.cells #[.int .i64 0, .slice none 0 0, .slice none 0 0, .slice none 0 0] 27)) = x9 at *
              have hz9 := hS9.size
              refine wpAnyH_ready (rs := [4]) (by kernel_rfl) (by simp) (AllReadyH.cons rfl (fun K hK => ?_) AllReadyH.nil)
              · go_simp
                refine hK.out _ _ (show Below w7.heap.size w7 (x9.alloc (.cells (idL (bID 1) ++ idL (bID 2)).toArray 32)) from hS9.alloc hS9.size _) (fun hS10 => ?_)
                clear hK K
                try simp only [Act.put, List.setIfInBounds_toArray, List.set_cons_zero, List.set_cons_succ]
                have hn10 : obj (x9.alloc (.cells (idL (bID 1) ++ idL (bID 2)).toArray 32)) x9.heap.size = some (.cells (idL (bID 1) ++ idL (bID 2)).toArray 32 (0, 0)) := lc0 x9 _
                have hv10 := hv9.below (show Below x9.heap.size x9 (x9.alloc (.cells (idL (bID 1) ++ idL (bID 2)).toArray 32)) from (Below.refl x9.heap.size x9).alloc (Nat.le_refl _) _)
                have hk10 := lb0 (n := x1.heap.size) (show Below x9.heap.size x9 (x9.alloc (.cells (idL (bID 1) ++ idL (bID 2)).toArray 32)) from (Below.refl x9.heap.size x9).alloc (Nat.le_refl _) _) hn9
                generalize (x9.alloc (.cells (idL (bID 1) ++ idL (bID 2)).toArray 32)) = x10 at *
                have hz10 := hS10.size
                refine wpAnyH_ready (rs := [5]) (by kernel_rfl) (by simp) (AllReadyH.cons rfl (fun K hK => ?_) AllReadyH.nil)
                · go_simp
                  refine (HT.out x10 v1 (.slice (some ⟨x9.heap.size, 0, none⟩) 2 2) hv10 hS10 (SlIn.two (E := 32) (fr := (0, 0)) (bID 1) (bID 2) hn10)).mono ?_
                  rintro _ x11 ⟨⟨e_p, e_oa, e_on, e_oc, e_ta, e_tn, e_tc, e_sa, e_sn, e_sc⟩, rfl, hf11, hb11⟩
                  refine hK.out _ _ (hS10.trans (hb11.mono hS10.size)) (fun hS11 => ?_)
                  clear hK K
                  try simp only [Act.put, List.setIfInBounds_toArray, List.set_cons_zero, List.set_cons_succ]
                  have hk11 := lb0 (n := x1.heap.size) hb11 hk10
                  clear hb11
                  refine wpAnyH_take (i := 6) (oi := { dst := some 44, op := Op.move (Operand.tmp 50), type := 34, pos := _, after := _, guard := none }) (v := (.tuple #[frV ⟨e_p, e_oa, e_on, e_oc, e_ta, e_tn, e_tc, e_sa, e_sn, e_sc⟩, .int .i64 0])) rfl (by kernel_rfl) (by kernel_rfl) (by kernel_rfl) (fun _ _ _ h => nomatch h.1) (yieldsIf_move' (by kernel_rfl) (.tmp 50) (by kernel_rfl) (by kernel_rfl)) hS11 ?_
                  try simp only [Act.put, List.setIfInBounds_toArray, List.set_cons_zero, List.set_cons_succ]
                  refine wpAnyH_take (i := 7) (oi := { dst := some 51, op := Op.extract (Operand.tmp 44) 0, type := 27, pos := _, after := _, guard := none }) (v := (frV ⟨e_p, e_oa, e_on, e_oc, e_ta, e_tn, e_tc, e_sa, e_sn, e_sc⟩)) rfl (by kernel_rfl) (by kernel_rfl) (by kernel_rfl) (fun _ _ _ h => nomatch h.1) (.inl ⟨by kernel_rfl, fun W' hW => by go_simp⟩) hS11 ?_
                  try simp only [Act.put, List.setIfInBounds_toArray, List.set_cons_zero, List.set_cons_succ]
                  refine wpAnyH_take (i := 8) (oi := { dst := some 52, op := Op.extract (Operand.tmp 44) 1, type := 33, pos := _, after := _, guard := none }) (v := (.int .i64 0)) rfl (by kernel_rfl) (by kernel_rfl) (by kernel_rfl) (fun _ _ _ h => nomatch h.1) (.inl ⟨by kernel_rfl, fun W' hW => by go_simp⟩) hS11 ?_
                  try simp only [Act.put, List.setIfInBounds_toArray, List.set_cons_zero, List.set_cons_succ]
                  replace hf11 := hf11.mono (base := 0) (Nat.zero_le _)
                  have hz11 := hS11.size
                  refine wpAnyH_ready (rs := [10]) (by kernel_rfl) (by simp) (AllReadyH.cons rfl (fun K hK => ?_) AllReadyH.nil)
                  · have y0 := cell_at hk11 0
                    have y1 := cell_at hk11 1
                    have y2 := cell_at hk11 2
                    have y3 := cell_at hk11 3
                    have yf := frozen_at hk11
                    have yl := lt_of_obj hk11
                    simp at y0 y1 y2 y3
                    have hle : w7.heap.size ≤ x1.heap.size := by omega
                    go_simp
                    refine hK.out _ _ (show Below w7.heap.size w7 ((((x11.setCell ⟨x1.heap.size, 0, none⟩ (.int .i64 e_p)).setCell ⟨x1.heap.size, 1, none⟩ (.slice e_oa e_on e_oc)).setCell ⟨x1.heap.size, 2, none⟩ (.slice e_ta e_tn e_tc)).setCell ⟨x1.heap.size, 3, none⟩ (.slice e_sa e_sn e_sc)) from Below.setCell (Below.setCell (Below.setCell (Below.setCell hS11 hle _) hle _) hle _) hle _) (fun hS12 => ?_)
                    clear hK K
                    try simp only [Act.put, List.setIfInBounds_toArray, List.set_cons_zero, List.set_cons_succ]
                    refine wpAnyH_take (i := 11) (oi := { dst := some 12, op := Op.assign (Operand.tmp 52), type := 33, pos := _, after := _, guard := none }) (v := (.int .i64 0)) rfl (by kernel_rfl) (by kernel_rfl) (by kernel_rfl) (fun _ _ _ h => nomatch h.1) (.inl ⟨by kernel_rfl, fun W' hW => by go_simp⟩) hS12 ?_
                    try simp only [Act.put, List.setIfInBounds_toArray, List.set_cons_zero, List.set_cons_succ]
                    refine wpAnyH_done (by kernel_rfl) ?_ _
                    exact ⟨rfl, x1.heap.size, ⟨e_p, e_oa, e_on, e_oc, e_ta, e_tn, e_tc, e_sa, e_sn, e_sc⟩, _, _, _, _, _, _, _, _, _, rfl, (obj_setCell_at (.slice e_sa e_sn e_sc) (i := 3) (obj_setCell_at (.slice e_ta e_tn e_tc) (i := 2) (obj_setCell_at (.slice e_oa e_on e_oc) (i := 1) (obj_setCell_at (.int .i64 e_p) (i := 0) hk11)))), (((((hf11.setBox hk11 0 (.int .i64 e_p)).setBox (obj_setCell_at (.int .i64 e_p) (i := 0) hk11) 1 (.slice e_oa e_on e_oc)).setBox (obj_setCell_at (.slice e_oa e_on e_oc) (i := 1) (obj_setCell_at (.int .i64 e_p) (i := 0) hk11)) 2 (.slice e_ta e_tn e_tc)).setBox (obj_setCell_at (.slice e_ta e_tn e_tc) (i := 2) (obj_setCell_at (.slice e_oa e_on e_oc) (i := 1) (obj_setCell_at (.int .i64 e_p) (i := 0) hk11))) 3 (.slice e_sa e_sn e_sc))).at_, hS12⟩
          · go_simp
            refine hK.out _ _ (show Below w7.heap.size w7 (w7.alloc (.cells (idL (bID 1) ++ idL (bID 2)).toArray 32)).drew from hS.alloc hS.size _) (fun hS13 => ?_)
            clear hK K
            try simp only [Act.put, List.setIfInBounds_toArray, List.set_cons_zero, List.set_cons_succ]
            have hn13 : obj (w7.alloc (.cells (idL (bID 1) ++ idL (bID 2)).toArray 32)).drew w7.heap.size = some (.cells (idL (bID 1) ++ idL (bID 2)).toArray 32 (0, 0)) := lc0 w7 _
            generalize (w7.alloc (.cells (idL (bID 1) ++ idL (bID 2)).toArray 32)).drew = x13 at *
            have hz13 := hS13.size
            refine wpAnyH_ready (rs := [0, 9]) (by kernel_rfl) (by simp) (AllReadyH.cons rfl (fun K hK => ?_) (AllReadyH.cons rfl (fun K hK => ?_) AllReadyH.nil))
            · go_simp
              refine (three_any _).mono ?_
              rintro _ x14 ⟨v14, rfl, hv14, hb14⟩
              refine hK.out _ _ (hS13.trans (hb14.mono hS13.size)) (fun hS14 => ?_)
              clear hK K
              try simp only [Act.put, List.setIfInBounds_toArray, List.set_cons_zero, List.set_cons_succ]
              have hi14 := lb0 (n := w7.heap.size) hb14 hn13
              clear hb14
              have hz14 := hS14.size
              refine wpAnyH_ready (rs := [5, 9]) (by kernel_rfl) (by simp) (AllReadyH.cons rfl (fun K hK => ?_) (AllReadyH.cons rfl (fun K hK => ?_) AllReadyH.nil))
              · go_simp
                refine (HT.out x14 v14 (.slice (some ⟨w7.heap.size, 0, none⟩) 2 2) hv14 hS14 (SlIn.two (E := 32) (fr := (0, 0)) (bID 1) (bID 2) hi14)).mono ?_
                rintro _ x15 ⟨⟨e_p, e_oa, e_on, e_oc, e_ta, e_tn, e_tc, e_sa, e_sn, e_sc⟩, rfl, hf15, hb15⟩
                refine hK.out _ _ (hS14.trans (hb15.mono hS14.size)) (fun hS15 => ?_)
                clear hK K
                try simp only [Act.put, List.setIfInBounds_toArray, List.set_cons_zero, List.set_cons_succ]
                clear hb15
                refine wpAnyH_take (i := 6) (oi := { dst := some 44, op := Op.move (Operand.tmp 50), type := 34, pos := _, after := _, guard := none }) (v := (.tuple #[frV ⟨e_p, e_oa, e_on, e_oc, e_ta, e_tn, e_tc, e_sa, e_sn, e_sc⟩, .int .i64 0])) rfl (by kernel_rfl) (by kernel_rfl) (by kernel_rfl) (fun _ _ _ h => nomatch h.1) (yieldsIf_move' (by kernel_rfl) (.tmp 50) (by kernel_rfl) (by kernel_rfl)) hS15 ?_
                try simp only [Act.put, List.setIfInBounds_toArray, List.set_cons_zero, List.set_cons_succ]
                refine wpAnyH_take (i := 7) (oi := { dst := some 51, op := Op.extract (Operand.tmp 44) 0, type := 27, pos := _, after := _, guard := none }) (v := (frV ⟨e_p, e_oa, e_on, e_oc, e_ta, e_tn, e_tc, e_sa, e_sn, e_sc⟩)) rfl (by kernel_rfl) (by kernel_rfl) (by kernel_rfl) (fun _ _ _ h => nomatch h.1) (.inl ⟨by kernel_rfl, fun W' hW => by go_simp⟩) hS15 ?_
                try simp only [Act.put, List.setIfInBounds_toArray, List.set_cons_zero, List.set_cons_succ]
                refine wpAnyH_take (i := 8) (oi := { dst := some 52, op := Op.extract (Operand.tmp 44) 1, type := 33, pos := _, after := _, guard := none }) (v := (.int .i64 0)) rfl (by kernel_rfl) (by kernel_rfl) (by kernel_rfl) (fun _ _ _ h => nomatch h.1) (.inl ⟨by kernel_rfl, fun W' hW => by go_simp⟩) hS15 ?_
                try simp only [Act.put, List.setIfInBounds_toArray, List.set_cons_zero, List.set_cons_succ]
                replace hf15 := hf15.mono (base := 0) (Nat.zero_le _)
                have hz15 := hS15.size
                refine wpAnyH_ready (rs := [9]) (by kernel_rfl) (by simp) (AllReadyH.cons rfl (fun K hK => ?_) AllReadyH.nil)
                · go_simp
                  refine hK.out _ _ (show Below w7.heap.size w7 (x15.alloc (.cells #[.int .i64 0, .slice none 0 0, .slice none 0 0, .slice none 0 0] 27)) from hS15.alloc hS15.size _) (fun hS16 => ?_)
                  clear hK K
                  try simp only [Act.put, List.setIfInBounds_toArray, List.set_cons_zero, List.set_cons_succ]
                  have hn16 : obj (x15.alloc (.cells #[.int .i64 0, .slice none 0 0, .slice none 0 0, .slice none 0 0] 27)) x15.heap.size = some (.cells #[.int .i64 0, .slice none 0 0, .slice none 0 0, .slice none 0 0] 27 (0, 0)) := lc0 x15 _
                  have hf16 := hf15.below (show Below x15.heap.size x15 (x15.alloc (.cells #[.int .i64 0, .slice none 0 0, .slice none 0 0, .slice none 0 0] 27)) from (Below.refl x15.heap.size x15).alloc (Nat.le_refl _) _)
                  generalize (x15.alloc (.cells #[.int .i64 0, .slice none 0 0, .slice none 0 0, .slice none 0 0] 27)) = x16 at *
                  have hz16 := hS16.size
                  refine wpAnyH_ready (rs := [10]) (by kernel_rfl) (by simp) (AllReadyH.cons rfl (fun K hK => ?_) AllReadyH.nil)
                  · have y0 := cell_at hn16 0
                    have y1 := cell_at hn16 1
                    have y2 := cell_at hn16 2
                    have y3 := cell_at hn16 3
                    have yf := frozen_at hn16
                    have yl := lt_of_obj hn16
                    simp at y0 y1 y2 y3
                    have hle : w7.heap.size ≤ x15.heap.size := by omega
                    go_simp
                    refine hK.out _ _ (show Below w7.heap.size w7 ((((x16.setCell ⟨x15.heap.size, 0, none⟩ (.int .i64 e_p)).setCell ⟨x15.heap.size, 1, none⟩ (.slice e_oa e_on e_oc)).setCell ⟨x15.heap.size, 2, none⟩ (.slice e_ta e_tn e_tc)).setCell ⟨x15.heap.size, 3, none⟩ (.slice e_sa e_sn e_sc)) from Below.setCell (Below.setCell (Below.setCell (Below.setCell hS16 hle _) hle _) hle _) hle _) (fun hS17 => ?_)
                    clear hK K
                    try simp only [Act.put, List.setIfInBounds_toArray, List.set_cons_zero, List.set_cons_succ]
                    refine wpAnyH_take (i := 11) (oi := { dst := some 12, op := Op.assign (Operand.tmp 52), type := 33, pos := _, after := _, guard := none }) (v := (.int .i64 0)) rfl (by kernel_rfl) (by kernel_rfl) (by kernel_rfl) (fun _ _ _ h => nomatch h.1) (.inl ⟨by kernel_rfl, fun W' hW => by go_simp⟩) hS17 ?_
                    try simp only [Act.put, List.setIfInBounds_toArray, List.set_cons_zero, List.set_cons_succ]
                    refine wpAnyH_done (by kernel_rfl) ?_ _
                    exact ⟨rfl, x15.heap.size, ⟨e_p, e_oa, e_on, e_oc, e_ta, e_tn, e_tc, e_sa, e_sn, e_sc⟩, _, _, _, _, _, _, _, _, _, rfl, (obj_setCell_at (.slice e_sa e_sn e_sc) (i := 3) (obj_setCell_at (.slice e_ta e_tn e_tc) (i := 2) (obj_setCell_at (.slice e_oa e_on e_oc) (i := 1) (obj_setCell_at (.int .i64 e_p) (i := 0) hn16)))), (((((hf16.setBox hn16 0 (.int .i64 e_p)).setBox (obj_setCell_at (.int .i64 e_p) (i := 0) hn16) 1 (.slice e_oa e_on e_oc)).setBox (obj_setCell_at (.slice e_oa e_on e_oc) (i := 1) (obj_setCell_at (.int .i64 e_p) (i := 0) hn16)) 2 (.slice e_ta e_tn e_tc)).setBox (obj_setCell_at (.slice e_ta e_tn e_tc) (i := 2) (obj_setCell_at (.slice e_oa e_on e_oc) (i := 1) (obj_setCell_at (.int .i64 e_p) (i := 0) hn16))) 3 (.slice e_sa e_sn e_sc))).at_, hS17⟩
              · go_simp
                refine hK.out _ _ (show Below w7.heap.size w7 (x14.alloc (.cells #[.int .i64 0, .slice none 0 0, .slice none 0 0, .slice none 0 0] 27)) from hS14.alloc hS14.size _) (fun hS18 => ?_)
                clear hK K
                try simp only [Act.put, List.setIfInBounds_toArray, List.set_cons_zero, List.set_cons_succ]
                have hn18 : obj (x14.alloc (.cells #[.int .i64 0, .slice none 0 0, .slice none 0 0, .slice none 0 0] 27)) x14.heap.size = some (.cells #[.int .i64 0, .slice none 0 0, .slice none 0 0, .slice none 0 0] 27 (0, 0)) := lc0 x14 _
                have hv18 := hv14.below (show Below x14.heap.size x14 (x14.alloc (.cells #[.int .i64 0, .slice none 0 0, .slice none 0 0, .slice none 0 0] 27)) from (Below.refl x14.heap.size x14).alloc (Nat.le_refl _) _)
                have hi18 := lb0 (n := w7.heap.size) (show Below x14.heap.size x14 (x14.alloc (.cells #[.int .i64 0, .slice none 0 0, .slice none 0 0, .slice none 0 0] 27)) from (Below.refl x14.heap.size x14).alloc (Nat.le_refl _) _) hi14
                generalize (x14.alloc (.cells #[.int .i64 0, .slice none 0 0, .slice none 0 0, .slice none 0 0] 27)) = x18 at *
                have hz18 := hS18.size
                refine wpAnyH_ready (rs := [5]) (by kernel_rfl) (by simp) (AllReadyH.cons rfl (fun K hK => ?_) AllReadyH.nil)
                · go_simp
                  refine (HT.out x18 v14 (.slice (some ⟨w7.heap.size, 0, none⟩) 2 2) hv18 hS18 (SlIn.two (E := 32) (fr := (0, 0)) (bID 1) (bID 2) hi18)).mono ?_
                  rintro _ x19 ⟨⟨e_p, e_oa, e_on, e_oc, e_ta, e_tn, e_tc, e_sa, e_sn, e_sc⟩, rfl, hf19, hb19⟩
                  refine hK.out _ _ (hS18.trans (hb19.mono hS18.size)) (fun hS19 => ?_)
                  clear hK K
                  try simp only [Act.put, List.setIfInBounds_toArray, List.set_cons_zero, List.set_cons_succ]
                  have hk19 := lb0 (n := x14.heap.size) hb19 hn18
                  clear hb19
                  refine wpAnyH_take (i := 6) (oi := { dst := some 44, op := Op.move (Operand.tmp 50), type := 34, pos := _, after := _, guard := none }) (v := (.tuple #[frV ⟨e_p, e_oa, e_on, e_oc, e_ta, e_tn, e_tc, e_sa, e_sn, e_sc⟩, .int .i64 0])) rfl (by kernel_rfl) (by kernel_rfl) (by kernel_rfl) (fun _ _ _ h => nomatch h.1) (yieldsIf_move' (by kernel_rfl) (.tmp 50) (by kernel_rfl) (by kernel_rfl)) hS19 ?_
                  try simp only [Act.put, List.setIfInBounds_toArray, List.set_cons_zero, List.set_cons_succ]
                  refine wpAnyH_take (i := 7) (oi := { dst := some 51, op := Op.extract (Operand.tmp 44) 0, type := 27, pos := _, after := _, guard := none }) (v := (frV ⟨e_p, e_oa, e_on, e_oc, e_ta, e_tn, e_tc, e_sa, e_sn, e_sc⟩)) rfl (by kernel_rfl) (by kernel_rfl) (by kernel_rfl) (fun _ _ _ h => nomatch h.1) (.inl ⟨by kernel_rfl, fun W' hW => by go_simp⟩) hS19 ?_
                  try simp only [Act.put, List.setIfInBounds_toArray, List.set_cons_zero, List.set_cons_succ]
                  refine wpAnyH_take (i := 8) (oi := { dst := some 52, op := Op.extract (Operand.tmp 44) 1, type := 33, pos := _, after := _, guard := none }) (v := (.int .i64 0)) rfl (by kernel_rfl) (by kernel_rfl) (by kernel_rfl) (fun _ _ _ h => nomatch h.1) (.inl ⟨by kernel_rfl, fun W' hW => by go_simp⟩) hS19 ?_
                  try simp only [Act.put, List.setIfInBounds_toArray, List.set_cons_zero, List.set_cons_succ]
                  replace hf19 := hf19.mono (base := 0) (Nat.zero_le _)
                  have hz19 := hS19.size
                  refine wpAnyH_ready (rs := [10]) (by kernel_rfl) (by simp) (AllReadyH.cons rfl (fun K hK => ?_) AllReadyH.nil)
                  · have y0 := cell_at hk19 0
                    have y1 := cell_at hk19 1
                    have y2 := cell_at hk19 2
                    have y3 := cell_at hk19 3
                    have yf := frozen_at hk19
                    have yl := lt_of_obj hk19
                    simp at y0 y1 y2 y3
                    have hle : w7.heap.size ≤ x14.heap.size := by omega
                    go_simp
                    refine hK.out _ _ (show Below w7.heap.size w7 ((((x19.setCell ⟨x14.heap.size, 0, none⟩ (.int .i64 e_p)).setCell ⟨x14.heap.size, 1, none⟩ (.slice e_oa e_on e_oc)).setCell ⟨x14.heap.size, 2, none⟩ (.slice e_ta e_tn e_tc)).setCell ⟨x14.heap.size, 3, none⟩ (.slice e_sa e_sn e_sc)) from Below.setCell (Below.setCell (Below.setCell (Below.setCell hS19 hle _) hle _) hle _) hle _) (fun hS20 => ?_)
                    clear hK K
                    try simp only [Act.put, List.setIfInBounds_toArray, List.set_cons_zero, List.set_cons_succ]
                    refine wpAnyH_take (i := 11) (oi := { dst := some 12, op := Op.assign (Operand.tmp 52), type := 33, pos := _, after := _, guard := none }) (v := (.int .i64 0)) rfl (by kernel_rfl) (by kernel_rfl) (by kernel_rfl) (fun _ _ _ h => nomatch h.1) (.inl ⟨by kernel_rfl, fun W' hW => by go_simp⟩) hS20 ?_
                    try simp only [Act.put, List.setIfInBounds_toArray, List.set_cons_zero, List.set_cons_succ]
                    refine wpAnyH_done (by kernel_rfl) ?_ _
                    exact ⟨rfl, x14.heap.size, ⟨e_p, e_oa, e_on, e_oc, e_ta, e_tn, e_tc, e_sa, e_sn, e_sc⟩, _, _, _, _, _, _, _, _, _, rfl, (obj_setCell_at (.slice e_sa e_sn e_sc) (i := 3) (obj_setCell_at (.slice e_ta e_tn e_tc) (i := 2) (obj_setCell_at (.slice e_oa e_on e_oc) (i := 1) (obj_setCell_at (.int .i64 e_p) (i := 0) hk19)))), (((((hf19.setBox hk19 0 (.int .i64 e_p)).setBox (obj_setCell_at (.int .i64 e_p) (i := 0) hk19) 1 (.slice e_oa e_on e_oc)).setBox (obj_setCell_at (.slice e_oa e_on e_oc) (i := 1) (obj_setCell_at (.int .i64 e_p) (i := 0) hk19)) 2 (.slice e_ta e_tn e_tc)).setBox (obj_setCell_at (.slice e_ta e_tn e_tc) (i := 2) (obj_setCell_at (.slice e_oa e_on e_oc) (i := 1) (obj_setCell_at (.int .i64 e_p) (i := 0) hk19))) 3 (.slice e_sa e_sn e_sc))).at_, hS20⟩
            · go_simp
              refine hK.out _ _ (show Below w7.heap.size w7 (x13.alloc (.cells #[.int .i64 0, .slice none 0 0, .slice none 0 0, .slice none 0 0] 27)) from hS13.alloc hS13.size _) (fun hS21 => ?_)
              clear hK K
              try simp only [Act.put, List.setIfInBounds_toArray, List.set_cons_zero, List.set_cons_succ]
              have hn21 : obj (x13.alloc (.cells #[.int .i64 0, .slice none 0 0, .slice none 0 0, .slice none 0 0] 27)) x13.heap.size = some (.cells #[.int .i64 0, .slice none 0 0, .slice none 0 0, .slice none 0 0] 27 (0, 0)) := lc0 x13 _
              have hi21 := lb0 (n := w7.heap.size) (show Below x13.heap.size x13 (x13.alloc (.cells #[.int .i64 0, .slice none 0 0, .slice none 0 0, .slice none 0 0] 27)) from (Below.refl x13.heap.size x13).alloc (Nat.le_refl _) _) hn13
              generalize (x13.alloc (.cells #[.int .i64 0, .slice none 0 0, .slice none 0 0, .slice none 0 0] 27)) = x21 at *
              have hz21 := hS21.size
              refine wpAnyH_ready (rs := [0]) (by kernel_rfl) (by simp) (AllReadyH.cons rfl (fun K hK => ?_) AllReadyH.nil)
              · go_simp
                refine (three_any _).mono ?_
                rintro _ x22 ⟨v22, rfl, hv22, hb22⟩
                refine hK.out _ _ (hS21.trans (hb22.mono hS21.size)) (fun hS22 => ?_)
                clear hK K
                try simp only [Act.put, List.setIfInBounds_toArray, List.set_cons_zero, List.set_cons_succ]
                have hi22 := lb0 (n := w7.heap.size) hb22 hi21
                have hk22 := lb0 (n := x13.heap.size) hb22 hn21
                clear hb22
                have hz22 := hS22.size
                refine wpAnyH_ready (rs := [5]) (by kernel_rfl) (by simp) (AllReadyH.cons rfl (fun K hK => ?_) AllReadyH.nil)
                · go_simp
                  refine (HT.out x22 v22 (.slice (some ⟨w7.heap.size, 0, none⟩) 2 2) hv22 hS22 (SlIn.two (E := 32) (fr := (0, 0)) (bID 1) (bID 2) hi22)).mono ?_
                  rintro _ x23 ⟨⟨e_p, e_oa, e_on, e_oc, e_ta, e_tn, e_tc, e_sa, e_sn, e_sc⟩, rfl, hf23, hb23⟩
                  refine hK.out _ _ (hS22.trans (hb23.mono hS22.size)) (fun hS23 => ?_)
                  clear hK K
                  try simp only [Act.put, List.setIfInBounds_toArray, List.set_cons_zero, List.set_cons_succ]
                  have hk23 := lb0 (n := x13.heap.size) hb23 hk22
                  clear hb23
                  refine wpAnyH_take (i := 6) (oi := { dst := some 44, op := Op.move (Operand.tmp 50), type := 34, pos := _, after := _, guard := none }) (v := (.tuple #[frV ⟨e_p, e_oa, e_on, e_oc, e_ta, e_tn, e_tc, e_sa, e_sn, e_sc⟩, .int .i64 0])) rfl (by kernel_rfl) (by kernel_rfl) (by kernel_rfl) (fun _ _ _ h => nomatch h.1) (yieldsIf_move' (by kernel_rfl) (.tmp 50) (by kernel_rfl) (by kernel_rfl)) hS23 ?_
                  try simp only [Act.put, List.setIfInBounds_toArray, List.set_cons_zero, List.set_cons_succ]
                  refine wpAnyH_take (i := 7) (oi := { dst := some 51, op := Op.extract (Operand.tmp 44) 0, type := 27, pos := _, after := _, guard := none }) (v := (frV ⟨e_p, e_oa, e_on, e_oc, e_ta, e_tn, e_tc, e_sa, e_sn, e_sc⟩)) rfl (by kernel_rfl) (by kernel_rfl) (by kernel_rfl) (fun _ _ _ h => nomatch h.1) (.inl ⟨by kernel_rfl, fun W' hW => by go_simp⟩) hS23 ?_
                  try simp only [Act.put, List.setIfInBounds_toArray, List.set_cons_zero, List.set_cons_succ]
                  refine wpAnyH_take (i := 8) (oi := { dst := some 52, op := Op.extract (Operand.tmp 44) 1, type := 33, pos := _, after := _, guard := none }) (v := (.int .i64 0)) rfl (by kernel_rfl) (by kernel_rfl) (by kernel_rfl) (fun _ _ _ h => nomatch h.1) (.inl ⟨by kernel_rfl, fun W' hW => by go_simp⟩) hS23 ?_
                  try simp only [Act.put, List.setIfInBounds_toArray, List.set_cons_zero, List.set_cons_succ]
                  replace hf23 := hf23.mono (base := 0) (Nat.zero_le _)
                  have hz23 := hS23.size
                  refine wpAnyH_ready (rs := [10]) (by kernel_rfl) (by simp) (AllReadyH.cons rfl (fun K hK => ?_) AllReadyH.nil)
                  · have y0 := cell_at hk23 0
                    have y1 := cell_at hk23 1
                    have y2 := cell_at hk23 2
                    have y3 := cell_at hk23 3
                    have yf := frozen_at hk23
                    have yl := lt_of_obj hk23
                    simp at y0 y1 y2 y3
                    have hle : w7.heap.size ≤ x13.heap.size := by omega
                    go_simp
                    refine hK.out _ _ (show Below w7.heap.size w7 ((((x23.setCell ⟨x13.heap.size, 0, none⟩ (.int .i64 e_p)).setCell ⟨x13.heap.size, 1, none⟩ (.slice e_oa e_on e_oc)).setCell ⟨x13.heap.size, 2, none⟩ (.slice e_ta e_tn e_tc)).setCell ⟨x13.heap.size, 3, none⟩ (.slice e_sa e_sn e_sc)) from Below.setCell (Below.setCell (Below.setCell (Below.setCell hS23 hle _) hle _) hle _) hle _) (fun hS24 => ?_)
                    clear hK K
                    try simp only [Act.put, List.setIfInBounds_toArray, List.set_cons_zero, List.set_cons_succ]
                    refine wpAnyH_take (i := 11) (oi := { dst := some 12, op := Op.assign (Operand.tmp 52), type := 33, pos := _, after := _, guard := none }) (v := (.int .i64 0)) rfl (by kernel_rfl) (by kernel_rfl) (by kernel_rfl) (fun _ _ _ h => nomatch h.1) (.inl ⟨by kernel_rfl, fun W' hW => by go_simp⟩) hS24 ?_
                    try simp only [Act.put, List.setIfInBounds_toArray, List.set_cons_zero, List.set_cons_succ]
                    refine wpAnyH_done (by kernel_rfl) ?_ _
                    exact ⟨rfl, x13.heap.size, ⟨e_p, e_oa, e_on, e_oc, e_ta, e_tn, e_tc, e_sa, e_sn, e_sc⟩, _, _, _, _, _, _, _, _, _, rfl, (obj_setCell_at (.slice e_sa e_sn e_sc) (i := 3) (obj_setCell_at (.slice e_ta e_tn e_tc) (i := 2) (obj_setCell_at (.slice e_oa e_on e_oc) (i := 1) (obj_setCell_at (.int .i64 e_p) (i := 0) hk23)))), (((((hf23.setBox hk23 0 (.int .i64 e_p)).setBox (obj_setCell_at (.int .i64 e_p) (i := 0) hk23) 1 (.slice e_oa e_on e_oc)).setBox (obj_setCell_at (.slice e_oa e_on e_oc) (i := 1) (obj_setCell_at (.int .i64 e_p) (i := 0) hk23)) 2 (.slice e_ta e_tn e_tc)).setBox (obj_setCell_at (.slice e_ta e_tn e_tc) (i := 2) (obj_setCell_at (.slice e_oa e_on e_oc) (i := 1) (obj_setCell_at (.int .i64 e_p) (i := 0) hk23))) 3 (.slice e_sa e_sn e_sc))).at_, hS24⟩
          · go_simp
            refine hK.out _ _ (show Below w7.heap.size w7 (w7.alloc (.cells #[.int .i64 0, .slice none 0 0, .slice none 0 0, .slice none 0 0] 27)).drew from hS.alloc hS.size _) (fun hS25 => ?_)
            clear hK K
            try simp only [Act.put, List.setIfInBounds_toArray, List.set_cons_zero, List.set_cons_succ]
            have hn25 : obj (w7.alloc (.cells #[.int .i64 0, .slice none 0 0, .slice none 0 0, .slice none 0 0] 27)).drew w7.heap.size = some (.cells #[.int .i64 0, .slice none 0 0, .slice none 0 0, .slice none 0 0] 27 (0, 0)) := lc0 w7 _
            generalize (w7.alloc (.cells #[.int .i64 0, .slice none 0 0, .slice none 0 0, .slice none 0 0] 27)).drew = x25 at *
            have hz25 := hS25.size
            refine wpAnyH_ready (rs := [0, 4]) (by kernel_rfl) (by simp) (AllReadyH.cons rfl (fun K hK => ?_) (AllReadyH.cons rfl (fun K hK => ?_) AllReadyH.nil))
            · go_simp
              refine (three_any _).mono ?_
              rintro _ x26 ⟨v26, rfl, hv26, hb26⟩
              refine hK.out _ _ (hS25.trans (hb26.mono hS25.size)) (fun hS26 => ?_)
              clear hK K
              try simp only [Act.put, List.setIfInBounds_toArray, List.set_cons_zero, List.set_cons_succ]
              have hk26 := lb0 (n := w7.heap.size) hb26 hn25
              clear hb26
              have hz26 := hS26.size
              refine wpAnyH_ready (rs := [4]) (by kernel_rfl) (by simp) (AllReadyH.cons rfl (fun K hK => ?_) AllReadyH.nil)
              · go_simp
                refine hK.out _ _ (show Below w7.heap.size w7 (x26.alloc (.cells (idL (bID 1) ++ idL (bID 2)).toArray 32)) from hS26.alloc hS26.size _) (fun hS27 => ?_)
                clear hK K
                try simp only [Act.put, List.setIfInBounds_toArray, List.set_cons_zero, List.set_cons_succ]
                have hn27 : obj (x26.alloc (.cells (idL (bID 1) ++ idL (bID 2)).toArray 32)) x26.heap.size = some (.cells (idL (bID 1) ++ idL (bID 2)).toArray 32 (0, 0)) := lc0 x26 _
                have hv27 := hv26.below (show Below x26.heap.size x26 (x26.alloc (.cells (idL (bID 1) ++ idL (bID 2)).toArray 32)) from (Below.refl x26.heap.size x26).alloc (Nat.le_refl _) _)
                have hk27 := lb0 (n := w7.heap.size) (show Below x26.heap.size x26 (x26.alloc (.cells (idL (bID 1) ++ idL (bID 2)).toArray 32)) from (Below.refl x26.heap.size x26).alloc (Nat.le_refl _) _) hk26
                generalize (x26.alloc (.cells (idL (bID 1) ++ idL (bID 2)).toArray 32)) = x27 at *
                have hz27 := hS27.size
                refine wpAnyH_ready (rs := [5]) (by kernel_rfl) (by simp) (AllReadyH.cons rfl (fun K hK => ?_) AllReadyH.nil)
                · go_simp
                  refine (HT.out x27 v26 (.slice (some ⟨x26.heap.size, 0, none⟩) 2 2) hv27 hS27 (SlIn.two (E := 32) (fr := (0, 0)) (bID 1) (bID 2) hn27)).mono ?_
                  rintro _ x28 ⟨⟨e_p, e_oa, e_on, e_oc, e_ta, e_tn, e_tc, e_sa, e_sn, e_sc⟩, rfl, hf28, hb28⟩
                  refine hK.out _ _ (hS27.trans (hb28.mono hS27.size)) (fun hS28 => ?_)
                  clear hK K
                  try simp only [Act.put, List.setIfInBounds_toArray, List.set_cons_zero, List.set_cons_succ]
                  have hk28 := lb0 (n := w7.heap.size) hb28 hk27
                  clear hb28
                  refine wpAnyH_take (i := 6) (oi := { dst := some 44, op := Op.move (Operand.tmp 50), type := 34, pos := _, after := _, guard := none }) (v := (.tuple #[frV ⟨e_p, e_oa, e_on, e_oc, e_ta, e_tn, e_tc, e_sa, e_sn, e_sc⟩, .int .i64 0])) rfl (by kernel_rfl) (by kernel_rfl) (by kernel_rfl) (fun _ _ _ h => nomatch h.1) (yieldsIf_move' (by kernel_rfl) (.tmp 50) (by kernel_rfl) (by kernel_rfl)) hS28 ?_
                  try simp only [Act.put, List.setIfInBounds_toArray, List.set_cons_zero, List.set_cons_succ]
                  refine wpAnyH_take (i := 7) (oi := { dst := some 51, op := Op.extract (Operand.tmp 44) 0, type := 27, pos := _, after := _, guard := none }) (v := (frV ⟨e_p, e_oa, e_on, e_oc, e_ta, e_tn, e_tc, e_sa, e_sn, e_sc⟩)) rfl (by kernel_rfl) (by kernel_rfl) (by kernel_rfl) (fun _ _ _ h => nomatch h.1) (.inl ⟨by kernel_rfl, fun W' hW => by go_simp⟩) hS28 ?_
                  try simp only [Act.put, List.setIfInBounds_toArray, List.set_cons_zero, List.set_cons_succ]
                  refine wpAnyH_take (i := 8) (oi := { dst := some 52, op := Op.extract (Operand.tmp 44) 1, type := 33, pos := _, after := _, guard := none }) (v := (.int .i64 0)) rfl (by kernel_rfl) (by kernel_rfl) (by kernel_rfl) (fun _ _ _ h => nomatch h.1) (.inl ⟨by kernel_rfl, fun W' hW => by go_simp⟩) hS28 ?_
                  try simp only [Act.put, List.setIfInBounds_toArray, List.set_cons_zero, List.set_cons_succ]
                  replace hf28 := hf28.mono (base := 0) (Nat.zero_le _)
                  have hz28 := hS28.size
                  refine wpAnyH_ready (rs := [10]) (by kernel_rfl) (by simp) (AllReadyH.cons rfl (fun K hK => ?_) AllReadyH.nil)
                  · have y0 := cell_at hk28 0
                    have y1 := cell_at hk28 1
                    have y2 := cell_at hk28 2
                    have y3 := cell_at hk28 3
                    have yf := frozen_at hk28
                    have yl := lt_of_obj hk28
                    simp at y0 y1 y2 y3
                    have hle : w7.heap.size ≤ w7.heap.size := by omega
                    go_simp
                    refine hK.out _ _ (show Below w7.heap.size w7 ((((x28.setCell ⟨w7.heap.size, 0, none⟩ (.int .i64 e_p)).setCell ⟨w7.heap.size, 1, none⟩ (.slice e_oa e_on e_oc)).setCell ⟨w7.heap.size, 2, none⟩ (.slice e_ta e_tn e_tc)).setCell ⟨w7.heap.size, 3, none⟩ (.slice e_sa e_sn e_sc)) from Below.setCell (Below.setCell (Below.setCell (Below.setCell hS28 hle _) hle _) hle _) hle _) (fun hS29 => ?_)
                    clear hK K
                    try simp only [Act.put, List.setIfInBounds_toArray, List.set_cons_zero, List.set_cons_succ]
                    refine wpAnyH_take (i := 11) (oi := { dst := some 12, op := Op.assign (Operand.tmp 52), type := 33, pos := _, after := _, guard := none }) (v := (.int .i64 0)) rfl (by kernel_rfl) (by kernel_rfl) (by kernel_rfl) (fun _ _ _ h => nomatch h.1) (.inl ⟨by kernel_rfl, fun W' hW => by go_simp⟩) hS29 ?_
                    try simp only [Act.put, List.setIfInBounds_toArray, List.set_cons_zero, List.set_cons_succ]
                    refine wpAnyH_done (by kernel_rfl) ?_ _
                    exact ⟨rfl, w7.heap.size, ⟨e_p, e_oa, e_on, e_oc, e_ta, e_tn, e_tc, e_sa, e_sn, e_sc⟩, _, _, _, _, _, _, _, _, _, rfl, (obj_setCell_at (.slice e_sa e_sn e_sc) (i := 3) (obj_setCell_at (.slice e_ta e_tn e_tc) (i := 2) (obj_setCell_at (.slice e_oa e_on e_oc) (i := 1) (obj_setCell_at (.int .i64 e_p) (i := 0) hk28)))), (((((hf28.setBox hk28 0 (.int .i64 e_p)).setBox (obj_setCell_at (.int .i64 e_p) (i := 0) hk28) 1 (.slice e_oa e_on e_oc)).setBox (obj_setCell_at (.slice e_oa e_on e_oc) (i := 1) (obj_setCell_at (.int .i64 e_p) (i := 0) hk28)) 2 (.slice e_ta e_tn e_tc)).setBox (obj_setCell_at (.slice e_ta e_tn e_tc) (i := 2) (obj_setCell_at (.slice e_oa e_on e_oc) (i := 1) (obj_setCell_at (.int .i64 e_p) (i := 0) hk28))) 3 (.slice e_sa e_sn e_sc))).at_, hS29⟩
            · go_simp
              refine hK.out _ _ (show Below w7.heap.size w7 (x25.alloc (.cells (idL (bID 1) ++ idL (bID 2)).toArray 32)) from hS25.alloc hS25.size _) (fun hS30 => ?_)
              clear hK K
              try simp only [Act.put, List.setIfInBounds_toArray, List.set_cons_zero, List.set_cons_succ]
              have hn30 : obj (x25.alloc (.cells (idL (bID 1) ++ idL (bID 2)).toArray 32)) x25.heap.size = some (.cells (idL (bID 1) ++ idL (bID 2)).toArray 32 (0, 0)) := lc0 x25 _
              have hk30 := lb0 (n := w7.heap.size) (show Below x25.heap.size x25 (x25.alloc (.cells (idL (bID 1) ++ idL (bID 2)).toArray 32)) from (Below.refl x25.heap.size x25).alloc (Nat.le_refl _) _) hn25
              generalize (x25.alloc (.cells (idL (bID 1) ++ idL (bID 2)).toArray 32)) = x30 at *
              have hz30 := hS30.size
              refine wpAnyH_ready (rs := [0]) (by kernel_rfl) (by simp) (AllReadyH.cons rfl (fun K hK => ?_) AllReadyH.nil)
              · go_simp
                refine (three_any _).mono ?_
                rintro _ x31 ⟨v31, rfl, hv31, hb31⟩
                refine hK.out _ _ (hS30.trans (hb31.mono hS30.size)) (fun hS31 => ?_)
                clear hK K
                try simp only [Act.put, List.setIfInBounds_toArray, List.set_cons_zero, List.set_cons_succ]
                have hi31 := lb0 (n := x25.heap.size) hb31 hn30
                have hk31 := lb0 (n := w7.heap.size) hb31 hk30
                clear hb31
                have hz31 := hS31.size
                refine wpAnyH_ready (rs := [5]) (by kernel_rfl) (by simp) (AllReadyH.cons rfl (fun K hK => ?_) AllReadyH.nil)
                · go_simp
                  refine (HT.out x31 v31 (.slice (some ⟨x25.heap.size, 0, none⟩) 2 2) hv31 hS31 (SlIn.two (E := 32) (fr := (0, 0)) (bID 1) (bID 2) hi31)).mono ?_
                  rintro _ x32 ⟨⟨e_p, e_oa, e_on, e_oc, e_ta, e_tn, e_tc, e_sa, e_sn, e_sc⟩, rfl, hf32, hb32⟩
                  refine hK.out _ _ (hS31.trans (hb32.mono hS31.size)) (fun hS32 => ?_)
                  clear hK K
                  try simp only [Act.put, List.setIfInBounds_toArray, List.set_cons_zero, List.set_cons_succ]
                  have hk32 := lb0 (n := w7.heap.size) hb32 hk31
                  clear hb32
                  refine wpAnyH_take (i := 6) (oi := { dst := some 44, op := Op.move (Operand.tmp 50), type := 34, pos := _, after := _, guard := none }) (v := (.tuple #[frV ⟨e_p, e_oa, e_on, e_oc, e_ta, e_tn, e_tc, e_sa, e_sn, e_sc⟩, .int .i64 0])) rfl (by kernel_rfl) (by kernel_rfl) (by kernel_rfl) (fun _ _ _ h => nomatch h.1) (yieldsIf_move' (by kernel_rfl) (.tmp 50) (by kernel_rfl) (by kernel_rfl)) hS32 ?_
                  try simp only [Act.put, List.setIfInBounds_toArray, List.set_cons_zero, List.set_cons_succ]
                  refine wpAnyH_take (i := 7) (oi := { dst := some 51, op := Op.extract (Operand.tmp 44) 0, type := 27, pos := _, after := _, guard := none }) (v := (frV ⟨e_p, e_oa, e_on, e_oc, e_ta, e_tn, e_tc, e_sa, e_sn, e_sc⟩)) rfl (by kernel_rfl) (by kernel_rfl) (by kernel_rfl) (fun _ _ _ h => nomatch h.1) (.inl ⟨by kernel_rfl, fun W' hW => by go_simp⟩) hS32 ?_
                  try simp only [Act.put, List.setIfInBounds_toArray, List.set_cons_zero, List.set_cons_succ]
                  refine wpAnyH_take (i := 8) (oi := { dst := some 52, op := Op.extract (Operand.tmp 44) 1, type := 33, pos := _, after := _, guard := none }) (v := (.int .i64 0)) rfl (by kernel_rfl) (by kernel_rfl) (by kernel_rfl) (fun _ _ _ h => nomatch h.1) (.inl ⟨by kernel_rfl, fun W' hW => by go_simp⟩) hS32 ?_
                  try simp only [Act.put, List.setIfInBounds_toArray, List.set_cons_zero, List.set_cons_succ]
                  replace hf32 := hf32.mono (base := 0) (Nat.zero_le _)
                  have hz32 := hS32.size
                  refine wpAnyH_ready (rs := [10]) (by kernel_rfl) (by simp) (AllReadyH.cons rfl (fun K hK => ?_) AllReadyH.nil)
                  · have y0 := cell_at hk32 0
                    have y1 := cell_at hk32 1
                    have y2 := cell_at hk32 2
                    have y3 := cell_at hk32 3
                    have yf := frozen_at hk32
                    have yl := lt_of_obj hk32
                    simp at y0 y1 y2 y3
                    have hle : w7.heap.size ≤ w7.heap.size := by omega
                    go_simp
                    refine hK.out _ _ (show Below w7.heap.size w7 ((((x32.setCell ⟨w7.heap.size, 0, none⟩ (.int .i64 e_p)).setCell ⟨w7.heap.size, 1, none⟩ (.slice e_oa e_on e_oc)).setCell ⟨w7.heap.size, 2, none⟩ (.slice e_ta e_tn e_tc)).setCell ⟨w7.heap.size, 3, none⟩ (.slice e_sa e_sn e_sc)) from Below.setCell (Below.setCell (Below.setCell (Below.setCell hS32 hle _) hle _) hle _) hle _) (fun hS33 => ?_)
                    clear hK K
                    try simp only [Act.put, List.setIfInBounds_toArray, List.set_cons_zero, List.set_cons_succ]
                    refine wpAnyH_take (i := 11) (oi := { dst := some 12, op := Op.assign (Operand.tmp 52), type := 33, pos := _, after := _, guard := none }) (v := (.int .i64 0)) rfl (by kernel_rfl) (by kernel_rfl) (by kernel_rfl) (fun _ _ _ h => nomatch h.1) (.inl ⟨by kernel_rfl, fun W' hW => by go_simp⟩) hS33 ?_
                    try simp only [Act.put, List.setIfInBounds_toArray, List.set_cons_zero, List.set_cons_succ]
                    refine wpAnyH_done (by kernel_rfl) ?_ _
                    exact ⟨rfl, w7.heap.size, ⟨e_p, e_oa, e_on, e_oc, e_ta, e_tn, e_tc, e_sa, e_sn, e_sc⟩, _, _, _, _, _, _, _, _, _, rfl, (obj_setCell_at (.slice e_sa e_sn e_sc) (i := 3) (obj_setCell_at (.slice e_ta e_tn e_tc) (i := 2) (obj_setCell_at (.slice e_oa e_on e_oc) (i := 1) (obj_setCell_at (.int .i64 e_p) (i := 0) hk32)))), (((((hf32.setBox hk32 0 (.int .i64 e_p)).setBox (obj_setCell_at (.int .i64 e_p) (i := 0) hk32) 1 (.slice e_oa e_on e_oc)).setBox (obj_setCell_at (.slice e_oa e_on e_oc) (i := 1) (obj_setCell_at (.int .i64 e_p) (i := 0) hk32)) 2 (.slice e_ta e_tn e_tc)).setBox (obj_setCell_at (.slice e_ta e_tn e_tc) (i := 2) (obj_setCell_at (.slice e_oa e_on e_oc) (i := 1) (obj_setCell_at (.int .i64 e_p) (i := 0) hk32))) 3 (.slice e_sa e_sn e_sc))).at_, hS33⟩
        case hq =>
          rintro e a' w8 ⟨rfl, p8, ⟨e_p, e_oa, e_on, e_oc, e_ta, e_tn, e_tc, e_sa, e_sn, e_sc⟩, u44, u45, u46, u47, u48, u49, u50, u51, u52, rfl, o_, f_, b_⟩
          replace O_a := Lib.hid ((obj_below b_ h_a).trans O_a.out)
          replace O_b := Lib.hid ((obj_below b_ h_b).trans O_b.out)
          replace O_c := Lib.hid ((obj_below b_ h_c).trans O_c.out)
          replace O_d := Lib.hid ((obj_below b_ h_d).trans O_d.out)
          replace OX := Lib.hid ((obj_below b_ hx).trans OX.out)
          replace OY := Lib.hid ((obj_below b_ hy).trans OY.out)
          replace A_a := Lib.hid (A_a.out.below b_)
          replace A_b := Lib.hid (A_b.out.below b_)
          replace A_c := Lib.hid (A_c.out.below b_)
          replace A_d := Lib.hid (A_d.out.below b_)
          replace B4 : Hid (Below w1.heap.size w1 w8) := Lib.hid (B4.out.trans (b_.mono B4.out.size))
          have O_e_ := Lib.hid o_
          have A_e_ := Lib.hid f_
          clear o_ f_ b_ h_a h_b h_c h_d hx hy
          have h_a := lt_of_obj O_a.out
          have h_b := lt_of_obj O_b.out
          have h_c := lt_of_obj O_c.out
          have h_d := lt_of_obj O_d.out
          have h_e_ := lt_of_obj O_e_.out
          have hx := lt_of_obj OX.out
          have hy := lt_of_obj OY.out
          go_wp2_with fail
          refine Code.wp_mono (Q := (fun (e : Exit) (a' : Act) (w' : World) => e = .normal ∧ ∃ (pb : Nat) (d : FrD) (u53 u54 u55 u56 u57 u58 : Value), a' = ⟨#[.bool false, .pointer (some ⟨w.heap.size, 0, none⟩), .pointer (some ⟨(w.heap.size + 1), 0, none⟩), .pointer (some ⟨n4, 0, none⟩), .int .i64 0, .pointer (some ⟨p5, 0, none⟩), .int .i64 0, .pointer (some ⟨p6, 0, none⟩), .int .i64 0, .pointer (some ⟨p7, 0, none⟩), .int .i64 0, .pointer (some ⟨p8, 0, none⟩), .int .i64 0, .pointer (some ⟨pb, 0, none⟩), .int .i64 0, u15, u16, u17, u18, u19, u20, u21, u22, u23, u24, u25, u26, u27, u28, u29, u30, u31, u32, u33, u34, u35, u36, u37, u38, u39, u40, u41, u42, u43, u44, u45, u46, u47, u48, u49, u50, u51, u52, u53, u54, u55, u56, u57, u58, undef, undef, undef, undef, undef, undef, undef, undef, undef, undef, undef, undef, undef, undef, undef, undef, undef, undef, undef, undef, undef, undef, undef, undef, undef, undef, undef, undef, undef, undef, undef, undef, undef, undef, undef, undef, undef, undef, undef, undef, undef, undef, undef, undef, undef], []⟩ ∧ obj w' pb = some (.cells (frC d) 27 (0, 0)) ∧ FrAt w' d F5 ∧ Below w8.heap.size w8 w')) ?hq ?hr
          case hr =>
            have SC : ∀ W, Below w8.heap.size w8 W → (W.cell? ⟨p8, 0, none⟩ = some (.int .i64 e_p) ∧ W.cell? ⟨p8, 1, none⟩ = some (.slice e_oa e_on e_oc) ∧ W.cell? ⟨p8, 2, none⟩ = some (.slice e_ta e_tn e_tc) ∧ W.cell? ⟨p8, 3, none⟩ = some (.slice e_sa e_sn e_sc) ∧ Below w8.heap.size w8 W) := fun W hW => ⟨(fr_cells ((obj_below hW h_e_).trans O_e_.out)).1, (fr_cells ((obj_below hW h_e_).trans O_e_.out)).2.1, (fr_cells ((obj_below hW h_e_).trans O_e_.out)).2.2.1, (fr_cells ((obj_below hW h_e_).trans O_e_.out)).2.2.2, hW⟩
            have HT := Lib.hid (fun W v (hv : SlIn W v 2 vdL V3) (hW : Below w8.heap.size w8 W) => failed_any W v V3 _ F4 0 hv (A_e_.out.below hW) small4)
            rw [l_7] at HT
            clear B0 HZ hz hz2 hz3 hzA B4
            go_region_held3 (fun W => W.cell? ⟨p8, 0, none⟩ = some (.int .i64 e_p) ∧ W.cell? ⟨p8, 1, none⟩ = some (.slice e_oa e_on e_oc) ∧ W.cell? ⟨p8, 2, none⟩ = some (.slice e_ta e_tn e_tc) ∧ W.cell? ⟨p8, 3, none⟩ = some (.slice e_sa e_sn e_sc) ∧ Below w8.heap.size w8 W)
              (exact SC _ (by first | with_reducible assumption | exact (Below.refl _ _).drew | exact ((Below.refl _ _).alloc (Nat.le_refl _) _).drew | exact (((Below.refl _ _).alloc (Nat.le_refl _) _).alloc (by simp) _).drew | exact Below.alloc (by with_reducible assumption) (Below.size (by with_reducible assumption)) _ | exact Below.alloc (Below.alloc (by with_reducible assumption) (Below.size (by with_reducible assumption)) _) (Below.alloc (by with_reducible assumption) (Below.size (by with_reducible assumption)) _).size _ | exact Below.setCell (Below.setCell (Below.setCell (Below.setCell (by with_reducible assumption) (by dsimp only; omega) _) (by dsimp only; omega) _) (by dsimp only; omega) _) (by dsimp only; omega) _))
              (first
                | (go_at_call 30; (with_reducible refine (three_any _).mono ?_); rintro _ wA ⟨vA, rfl, hvA, bA⟩; have bA2 : Below w8.heap.size w8 wA := (by first | exact (Below.refl _ _).drew.trans bA | exact ld1 bA | exact ld2 bA); have SA := SC _ bA2; have hzA2 := bA2.size; (first | (have qq := la2 (W := w8.drew) bA; have q1 : obj wA w8.heap.size = some _ := qq.1; have q2 : obj wA (w8.heap.size + 1) = some _ := qq.2) | (have q1 : obj wA w8.heap.size = some _ := la1 (W := w8.drew) bA) | skip))
                | (go_at_call 13; (with_reducible refine (HT.out _ _ (by first | exact hvA | exact hvA.below ((Below.refl _ _).alloc (Nat.le_refl _) _) | exact hvA.below (((Below.refl _ _).alloc (Nat.le_refl _) _).alloc (by simp) _)) (by first | exact bA2 | exact bA2.alloc bA2.size _ | exact (bA2.alloc bA2.size _).alloc (bA2.alloc bA2.size _).size _)).mono ?_); rintro _ wB ⟨dB, rfl, hfB, bB⟩; obtain ⟨fp, foa, fon, foc, fta, ftn, ftc, fsa, fsn, fsc⟩ := dB; have bB2 : Below w8.heap.size w8 wB := (by first | exact le0 bA2 bB | exact le1 bA2 bB | exact le2 bA2 bB); have SB := SC _ bB2; have fB := hfB.at_; have hzB := bB2.size; (first | (have r1 := lb0 bB q1) | (have r1 := lb1 bB q1) | (have r1 := lb2 bB q1) | skip); (first | (have r2 := lb0 bB q2) | (have r2 := lb1 bB q2) | (have r2 := lb2 bB q2) | skip); (first | (have rr := la2 bB; obtain ⟨r3, r4⟩ := rr) | (have r3 := la1 bB) | skip); (first | (have kB : obj wB w8.heap.size = some (.cells #[.int .i64 0, .slice none 0 0, .slice none 0 0, .slice none 0 0] 27 (0, 0)) := r1) | (have kB : obj wB (w8.heap.size + 1) = some (.cells #[.int .i64 0, .slice none 0 0, .slice none 0 0, .slice none 0 0] 27 (0, 0)) := r2) | (have kB : obj wB wA.heap.size = some (.cells #[.int .i64 0, .slice none 0 0, .slice none 0 0, .slice none 0 0] 27 (0, 0)) := r3) | (have kB : obj wB (wA.heap.size + 1) = some (.cells #[.int .i64 0, .slice none 0 0, .slice none 0 0, .slice none 0 0] 27 (0, 0)) := r4) | skip); (try have y0 := cell_at kB 0); (try have y1 := cell_at kB 1); (try have y2 := cell_at kB 2); (try have y3 := cell_at kB 3); (try have yf := frozen_at kB); (try have yl := lt_of_obj kB)))
            all_goals refine ⟨rfl, _, ⟨fp, foa, fon, foc, fta, ftn, ftc, fsa, fsn, fsc⟩, _, _, _, _, _, _, rfl, ?_⟩
            all_goals first | exact ⟨by with_reducible exact obj_alloc_at _ _ _ rfl, fB.below ((Below.refl _ _).alloc (Nat.le_refl _) _), bB2.alloc bB2.size _⟩ | exact ⟨(obj_setCell_at (.slice fsa fsn fsc) (i := 3) (obj_setCell_at (.slice fta ftn ftc) (i := 2) (obj_setCell_at (.slice foa fon foc) (i := 1) (obj_setCell_at (.int .i64 fp) (i := 0) kB)))), ((((hfB.setBox kB 0 (.int .i64 fp)).setBox (obj_setCell_at (.int .i64 fp) (i := 0) kB) 1 (.slice foa fon foc)).setBox (obj_setCell_at (.slice foa fon foc) (i := 1) (obj_setCell_at (.int .i64 fp) (i := 0) kB)) 2 (.slice fta ftn ftc)).setBox (obj_setCell_at (.slice fta ftn ftc) (i := 2) (obj_setCell_at (.slice foa fon foc) (i := 1) (obj_setCell_at (.int .i64 fp) (i := 0) kB))) 3 (.slice fsa fsn fsc)).at_, Below.setCell (Below.setCell (Below.setCell (Below.setCell (by with_reducible assumption) (by dsimp only; omega) _) (by dsimp only; omega) _) (by dsimp only; omega) _) (by dsimp only; omega) _⟩
          case hq =>
            rintro e a' w9 ⟨rfl, p9, ⟨fp, foa, fon, foc, fta, ftn, ftc, fsa, fsn, fsc⟩, u53, u54, u55, u56, u57, u58, rfl, o_, f_, b_⟩
            replace O_a := Lib.hid ((obj_below b_ h_a).trans O_a.out)
            replace O_b := Lib.hid ((obj_below b_ h_b).trans O_b.out)
            replace O_c := Lib.hid ((obj_below b_ h_c).trans O_c.out)
            replace O_d := Lib.hid ((obj_below b_ h_d).trans O_d.out)
            replace O_e_ := Lib.hid ((obj_below b_ h_e_).trans O_e_.out)
            replace OX := Lib.hid ((obj_below b_ hx).trans OX.out)
            replace OY := Lib.hid ((obj_below b_ hy).trans OY.out)
            replace A_a := Lib.hid (A_a.out.below b_)
            replace A_b := Lib.hid (A_b.out.below b_)
            replace A_c := Lib.hid (A_c.out.below b_)
            replace A_d := Lib.hid (A_d.out.below b_)
            replace A_e_ := Lib.hid (A_e_.out.below b_)
            replace B4 : Hid (Below w1.heap.size w1 w9) := Lib.hid (B4.out.trans (b_.mono B4.out.size))
            have O_f := Lib.hid o_
            have A_f := Lib.hid f_
            clear o_ f_ b_ h_a h_b h_c h_d h_e_ hx hy
            have h_a := lt_of_obj O_a.out
            have h_b := lt_of_obj O_b.out
            have h_c := lt_of_obj O_c.out
            have h_d := lt_of_obj O_d.out
            have h_e_ := lt_of_obj O_e_.out
            have h_f := lt_of_obj O_f.out
            have hx := lt_of_obj OX.out
            have hy := lt_of_obj OY.out
            go_wp2_with fail
            obtain rfl : cp = 2 := A_c.out.phase
            obtain rfl : fp = 3 := A_f.out.phase
            have SC : ∀ W, Below w9.heap.size w9 W → (W.cell? ⟨n4, 1, none⟩ = some (.slice aoa aon aoc) ∧ W.cell? ⟨p6, 0, none⟩ = some (.int .i64 2) ∧ W.cell? ⟨p9, 0, none⟩ = some (.int .i64 3) ∧ W.cell? ⟨p9, 1, none⟩ = some (.slice foa fon foc) ∧ W.cell? ⟨p9, 2, none⟩ = some (.slice fta ftn ftc) ∧ W.cell? ⟨p9, 3, none⟩ = some (.slice fsa fsn fsc) ∧ W.rangeAt w.heap.size 0 (idL (bID 1)) ∧ Below w9.heap.size w9 W) := fun W hW => ⟨(fr_cells ((obj_below hW h_a).trans O_a.out)).2.1, (fr_cells ((obj_below hW h_c).trans O_c.out)).1, (fr_cells ((obj_below hW h_f).trans O_f.out)).1, (fr_cells ((obj_below hW h_f).trans O_f.out)).2.1, (fr_cells ((obj_below hW h_f).trans O_f.out)).2.2.1, (fr_cells ((obj_below hW h_f).trans O_f.out)).2.2.2, id_range ((obj_below hW hx).trans OX.out), hW⟩
            have HEQ := Lib.hid (fun W v (hW : Below w9.heap.size w9 W) (hv : SlIn W v 1 intL [0, 2]) => (show Calls Tryz.prog 31 #[.slice aoa aon aoc, v] W fun e w' => e = .returned (.bool true) ∧ Below W.heap.size W w' from equal_ints W _ v [0, 2] [0, 2] (A_a.out.op.below hW) hv))
            have HST := Lib.hid (fun W v (hv : SlIn W v 2 vdL V3) (hW : Below w9.heap.size w9 W) => stake_any W v V3 _ F5 (bID 1) hv (A_f.out.below hW) small5)
            rw [l_stake] at HST
            have BW : Hid (Below w.heap.size w w9) := Lib.hid (B0.out.trans (B4.out.mono B0.out.size))
            clear B0 HZ hz hz2 hz3 hzA B4 A_a A_b A_c A_d A_e_ A_f O_b O_d O_e_ h_b h_d h_e_ OY hy
            have HBA : Below w9.heap.size w9 (w9.alloc (.cells #[.int .i64 0, .int .i64 2] 3)).drew := ((Below.refl _ _).alloc (Nat.le_refl _) _).drew
            have HSA : SlIn (w9.alloc (.cells #[.int .i64 0, .int .i64 2] 3)).drew (.slice (some ⟨w9.heap.size, 0, none⟩) 2 2) 1 intL [0, 2] := SlIn.of_cells (E := 3) (fr := (0, 0)) intL_length [0, 2] (lc0 w9 (.cells #[.int .i64 0, .int .i64 2] 3)) (by decide)
            go_region_held3 (fun W => W.cell? ⟨n4, 1, none⟩ = some (.slice aoa aon aoc) ∧ W.cell? ⟨p6, 0, none⟩ = some (.int .i64 2) ∧ W.cell? ⟨p9, 0, none⟩ = some (.int .i64 3) ∧ W.cell? ⟨p9, 1, none⟩ = some (.slice foa fon foc) ∧ W.cell? ⟨p9, 2, none⟩ = some (.slice fta ftn ftc) ∧ W.cell? ⟨p9, 3, none⟩ = some (.slice fsa fsn fsc) ∧ W.rangeAt w.heap.size 0 (idL (bID 1)) ∧ Below w9.heap.size w9 W)
              (exact SC _ (by first | with_reducible assumption | exact (Below.refl _ _).drew | exact ((Below.refl _ _).alloc (Nat.le_refl _) _).drew | exact Below.alloc (by with_reducible assumption) (Below.size (by with_reducible assumption)) _))
              (first
                | (go_at_call 31; (with_reducible refine (HEQ.out (w9.alloc (.cells #[.int .i64 0, .int .i64 2] 3)).drew (.slice (some ⟨w9.heap.size, 0, none⟩) 2 2) HBA HSA).mono ?_); rintro _ wE ⟨rfl, bE⟩; have bE2 : Below w9.heap.size w9 wE := HBA.trans (bE.mono HBA.size); have SE := SC _ bE2; clear bE)
                | (go_at_call 30; (with_reducible refine (three_any _).mono ?_); rintro _ wT ⟨vT, rfl, hvT, bT⟩; have bT2 : Below w9.heap.size w9 wT := le0 bE2 bT; have ST := SC _ bT2; clear bT)
                | (go_at_call 26; (with_reducible refine (HST.out _ _ hvT bT2).mono ?_); rintro _ wS ⟨rfl, bS⟩; have bS2 : Below w9.heap.size w9 wS := le0 bT2 bS; have SS := SC _ bS2; clear bS))
            go_wp2_with fail
            go_ret
            exact ⟨rfl, BW.out.trans (bS2.mono BW.out.size)⟩
end Go.Proofs.YtmgpfmgmpmkkaaaGreat
