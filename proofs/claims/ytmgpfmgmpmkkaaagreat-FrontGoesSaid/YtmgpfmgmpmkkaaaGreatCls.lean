import Derived.Test.YtmgpfmgmpmkkaaaGreatFrP
namespace Go.Proofs.YtmgpfmgmpmkkaaaGreat
open Go.RowKit Go.Shelf Go.Sort

/-- append of one element onto a slice of the call's own, nil or not -/
theorem wpList_pushC {α : Type} {P : Program} {ops : Array Oper} {rest : List Oper} {o : Oper} {a : Act} {w : World} {Q : Exit → Act → World → Prop} {t E : TypeId} {i : TypeInfo} {z : Value} {k bytes : Nat}
    (ht : P.underlying t = some (.slice E)) (hi : P.info? E = some i) (hz : i.zero = some z) (hsize : i.size = k) (hby : i.bytes = bytes) (hzs : z.cells.size = k) (hk0 : 0 < k)
    (enc : α → List Value) (hk : ∀ x, (enc x).length = k) (hone : ∀ x, allOne (enc x).toArray = true)
    (hgd : o.guard = none) (s x : Operand) (ho : o.op = .call { callee := .builtin .append, args := #[s, x], argTypes := #[t, t] })
    (base : Nat) (v : Value) (xs : List α) (y : α) (hs : a.eval s = v) (hown : OwnC w base E k enc v xs) (g : Nat) (hx : a.eval x = .slice (some ⟨g, 0, none⟩) 1 1) (hg : obj w g = some (.cells (enc y).toArray E (0, 0)))
    (hlen : xs.length ≤ 1048576) (hbt : bytes ≤ 4096) (hbase : base ≤ w.heap.size)
    (h : ∀ v' w', OwnC w' base E k enc v' (xs ++ [y]) → Below base w w' → (∀ k, k < w.heap.size → v.ownBlock ≠ some k → obj w' k = obj w k) → wpList P ops Q rest (a.put o.dst v') w') : wpList P ops Q (o :: rest) a w := by
  refine wpList_append_own (P := P) w hgd s x t ho base E i z k bytes ht hi hz hsize hby hzs hk0 v xs.length (xs.flatMap enc) hs hown ⟨g, 0, none⟩ 1 1 (enc y) hx (by rw [hk, Nat.one_mul]) (fun j u hu => ?_) (fun u hu => ?_) (by unfold maxLen; omega) ?_ hbase ?_
  · rw [Addr.add_lit, cell_at hg]; simpa using hu
  · have := hone y; simp only [allOne, List.all_eq_true] at this; exact this u hu
  · have : (xs.length + 1) * bytes ≤ 1048577 * 4096 := Nat.mul_le_mul (by omega) hbt
    omega
  · intro v' w' h1 h2 h3
    refine h v' w' (by simpa [OwnC] using h1) ⟨h2.os, h2.tape, h2.output, h2.size, fun j hj => h2.block j (by omega) (fun e => ?_)⟩ (fun j hj hne => h2.block j hj (fun e => hne e.symm))
    have := (hown.lt e.symm).1; omega
theorem pushI {ops : Array Oper} {rest : List Oper} {o : Oper} {a : Act} {w : World} {Q : Exit → Act → World → Prop} (hgd : o.guard = none) (s x : Operand) (ho : o.op = .call { callee := .builtin .append, args := #[s, x], argTypes := #[23, 23] })
    (base : Nat) (v : Value) (xs : List Int) (y : Int) (hs : a.eval s = v) (hown : OwnC w base 3 1 intL v xs) (g : Nat) (hx : a.eval x = .slice (some ⟨g, 0, none⟩) 1 1) (hg : obj w g = some (.cells (intL y).toArray 3 (0, 0)))
    (hlen : xs.length ≤ 1048576) (hbase : base ≤ w.heap.size)
    (h : ∀ v' w', OwnC w' base 3 1 intL v' (xs ++ [y]) → Below base w w' → (∀ k, k < w.heap.size → v.ownBlock ≠ some k → obj w' k = obj w k) → wpList Tryz.prog ops Q rest (a.put o.dst v') w') : wpList Tryz.prog ops Q (o :: rest) a w := by
  obtain ⟨i0, hi, hz0, hz1, hz2⟩ := info_parts info3
  exact wpList_pushC Tryz.underlying23 hi hz0 hz1 hz2 (by simp [Value.cells]) (by decide) intL intL_length intL_one hgd s x ho base v xs y hs hown g hx hg hlen (by decide) hbase h
/-! ### fronts of the call's own, behind a store -/
theorem OwnC.setBox {α : Type} {w : World} {base E k : Nat} {enc : α → List Value} {v : Value} {xs : List α} (h : OwnC w base E k enc v xs) {b : Nat} {cs : Array Value} {T : TypeId} (hb : obj w b = some (.cells cs T (0, 0))) (hT : T ≠ E) (i : Nat) (x : Value) : OwnC (w.setCell ⟨b, i, none⟩ x) base E k enc v xs :=
  h.keeps fun g hg => obj_setCell_ne _ ⟨b, i, none⟩ _ _ (fun e => h.ne hb (fun cur h => by injection h with h1 h2; exact hT h2) (by rw [hg, e]))
theorem FrOwn.setBox {w : World} {base : Nat} {d : FrD} {m : FrM} (h : FrOwn w base d m) {b : Nat} {cs : Array Value} (hb : obj w b = some (.cells cs 27 (0, 0))) (i : Nat) (x : Value) : FrOwn (w.setCell ⟨b, i, none⟩ x) base d m := by
  obtain ⟨rows, h1, h2⟩ := h.said
  exact ⟨h.phase, h.op.setBox hb (by decide) i x, h.tips.setBox hb (by decide) i x, rows, h1.setBox hb (by decide) i x, h2.1, fun j r s g1 g2 => ⟨(h2.2 j r s g1 g2).1, (h2.2 j r s g1 g2).2.setBox hb (by decide) i x⟩⟩
theorem OwnC.apart {α β : Type} {w : World} {base base' E E' k k' : Nat} {enc : α → List Value} {enc' : β → List Value} {v v' : Value} {xs : List α} {ys : List β} (h : OwnC w base E k enc v xs) (h' : OwnC w base' E' k' enc' v' ys) (hE : E ≠ E') {g : Nat} (hg : v.ownBlock = some g) : v'.ownBlock ≠ some g := by
  rcases h.2 with ⟨rfl, _⟩ | ⟨g', cap, cur, rfl, _, ho, _⟩
  · simp [Value.ownBlock] at hg
  · simp [Value.ownBlock] at hg
    subst hg
    exact h'.ne ho (fun cur h => by injection h with h1 h2; exact hE h2)
/-- only the block of what is open has changed -/
theorem FrOwn.setOp {w W : World} {base : Nat} {d : FrD} {m : FrM} (h : FrOwn w base d m) (hk : ∀ g, g < w.heap.size → (Value.slice d.oa d.on d.oc).ownBlock ≠ some g → obj W g = obj w g) {a : Option Addr} {n c : Nat} {op : List Int} (ho : OwnC W base 3 1 intL (.slice a n c) op) (ph : Int) :
    FrOwn W base ⟨ph, a, n, c, d.ta, d.tn, d.tc, d.sa, d.sn, d.sc⟩ ⟨ph, op, m.tips, m.said⟩ := by
  obtain ⟨rows, h1, h2⟩ := h.said
  exact ⟨rfl, ho, h.tips.keeps fun g hg => hk g (h.tips.lt hg).2 (h.tips.apart h.op (by decide) hg), rows, h1.keeps fun g hg => hk g (h1.lt hg).2 (h1.apart h.op (by decide) hg), h2.1, fun j r s g1 g2 => ⟨(h2.2 j r s g1 g2).1, (h2.2 j r s g1 g2).2.keeps fun g hg => hk g ((h2.2 j r s g1 g2).2.lt hg).2 ((h2.2 j r s g1 g2).2.apart h.op (by decide) hg)⟩⟩
theorem wrapS64 (k : Nat) (h : k < 9223372036854775807) : wrap64 ((k : Int) + 1) = ((k + 1 : Nat) : Int) := by unfold wrap64; omega
theorem meas_step' {n k : Nat} (h : k < n) : n - (intOf (.int .i64 ((k : Int) + 1))).toNat < n - (intOf (.int .i64 (k : Int))).toNat := by
  show n - (k + 1) < n - k
  omega
theorem rangeI_succ (k : Nat) : rangeI (k + 1) = rangeI k ++ [(k : Int)] := by
  unfold rangeI; rw [List.range_succ, List.map_append]; rfl
set_option maxRecDepth 100000 in
set_option maxHeartbeats 4000000 in
/-- closed -/
theorem closed_any (w : World) (base : Nat) (v : Value) (l : List Vd) (d : FrD) (m : FrM) (node : Int) (hl : SlIn w v 2 vdL l) (h : FrOwn w base d m) (hb : base ≤ w.heap.size) (h0 : m.op ≠ []) (hlen : m.op.length ≤ 4096) (hn : l.length ≤ 4096) :
    Calls Tryz.prog 37 #[v, frV d, .int .i64 node] w fun e w' => ∃ d', e = .returned (frV d') ∧ FrOwn w' base d' (closedM l.length m node) ∧ Below base w w' := by
  obtain ⟨la, lc, rfl, -, -, -⟩ := hl
  have hb0 : Below w.heap.size w (((w.alloc (.cells (frC d) 27)).alloc (.cells #[.int .i64 node] 3)).alloc (.cells #[.int .i64 0, .slice none 0 0, .slice none 0 0, .slice none 0 0] 27)) := (((Below.refl _ w).alloc (Nat.le_refl _) _).alloc (by simp) _).alloc (by simp; omega) _
  have ob : obj (((w.alloc (.cells (frC d) 27)).alloc (.cells #[.int .i64 node] 3)).alloc (.cells #[.int .i64 0, .slice none 0 0, .slice none 0 0, .slice none 0 0] 27)) w.heap.size = some (.cells (frC d) 27 (0, 0)) := (obj_alloc_past _ _ _ (by simp; omega)).trans ((obj_alloc_past _ _ _ (by simp)).trans (fr_box w d))
  have on : obj (((w.alloc (.cells (frC d) 27)).alloc (.cells #[.int .i64 node] 3)).alloc (.cells #[.int .i64 0, .slice none 0 0, .slice none 0 0, .slice none 0 0] 27)) (w.heap.size + 1) = some (.cells #[.int .i64 node] 3 (0, 0)) := (obj_alloc_past _ _ _ (by simp)).trans (obj_alloc_at _ _ _ (by simp))
  have orr : obj (((w.alloc (.cells (frC d) 27)).alloc (.cells #[.int .i64 node] 3)).alloc (.cells #[.int .i64 0, .slice none 0 0, .slice none 0 0, .slice none 0 0] 27)) (w.heap.size + 2) = some (.cells #[.int .i64 0, .slice none 0 0, .slice none 0 0, .slice none 0 0] 27 (0, 0)) := obj_alloc_at _ _ _ (by simp)
  have hz : (((w.alloc (.cells (frC d) 27)).alloc (.cells #[.int .i64 node] 3)).alloc (.cells #[.int .i64 0, .slice none 0 0, .slice none 0 0, .slice none 0 0] 27)).heap.size = w.heap.size + 3 := by simp
  have hown := fun g => h.op.lt (g := g)
  have HF := Lib.hid (h.below hb0)
  obtain ⟨dp, doa, don, doc, dta, dtn, dtc, dsa, dsn, dsc⟩ := d
  simp only at hown
  have hneN : (Value.slice doa don doc).ownBlock ≠ some (w.heap.size + 1) := fun e => by have := (hown _ e).2; omega
  have hneB : (Value.slice doa don doc).ownBlock ≠ some w.heap.size := fun e => by have := (hown _ e).2; omega
  have hneR : (Value.slice doa don doc).ownBlock ≠ some (w.heap.size + 2) := fun e => by have := (hown _ e).2; omega
  have B0 := Lib.hid hb0
  have OB := Lib.hid ob
  have OR := Lib.hid orr
  have HZ := Lib.hid hz
  have HD := Lib.hid (delete_ints _ base (w.heap.size + 1) (.slice doa don doc) m.op node HF.out.op h0 on hneN (by omega))
  have HN := Lib.hid hneB
  have HR := Lib.hid hneR
  have HPH := Lib.hid h.phase
  have HDN : Hid (closedM l.length m node = if delI m.op node ≠ [] then { m with op := delI m.op node } else if m.phase = 1 ∧ m.tips ≠ [] then { m with phase := 2, op := rangeI l.length } else { m with phase := 3, op := [] }) := Lib.hid rfl
  generalize closedM l.length m node = M at *
  clear hb0 ob on orr hz h hown hneN hneB hneR
  have x1 := cell_at OB.out 1
  simp at x1
  go_enter Tryz.func37, Tryz.ntmps37
  go_wp2_with fail
  generalize ((w.alloc (.cells (frC ⟨dp, doa, don, doc, dta, dtn, dtc, dsa, dsn, dsc⟩) 27)).alloc (.cells #[.int .i64 node] 3)).alloc (.cells #[.int .i64 0, .slice none 0 0, .slice none 0 0, .slice none 0 0] 27) = w1 at *
  clear x1
  refine HD.out.mono ?_
  rintro e w2 ⟨v2, rfl, o2, k2⟩
  obtain ⟨a2, c2, e2⟩ := o2.slice
  generalize hln : List.length _ = n2 at e2
  subst e2
  have hz := HZ.out
  have hz2 := k2.size
  have HO : Hid (OwnC w2 base 3 1 intL (.slice a2 n2 c2) (delI m.op node)) := Lib.hid o2
  have HLN : Hid ((delI m.op node).length = n2) := Lib.hid hln
  have HK : Hid (∀ g, g < w1.heap.size → (Value.slice doa don doc).ownBlock ≠ some g → obj w2 g = obj w1 g) := Lib.hid k2.block
  have OB2 := Lib.hid ((HK.out _ (by omega) HN.out).trans OB.out)
  have OR2 := Lib.hid ((HK.out _ (by omega) HR.out).trans OR.out)
  have HF2 := Lib.hid (HF.out.setOp HK.out HO.out dp)
  have B2 : Hid (Below base w w2) := Lib.hid ((B0.out.mono hb).trans (k2.below (fun g hg => (HF.out.op.lt hg).1) (by omega)))
  clear hln o2 k2 HO HK HD OB OR HF B0
  have x1 := cell_at OB2.out 1
  have f1 := frozen_at OB2.out 1
  have hb2 := lt_of_obj OB2.out
  simp at x1
  have OB3 : Hid (obj (w2.setCell ⟨w.heap.size, 1, none⟩ (.slice a2 n2 c2)) w.heap.size = some (.cells #[.int .i64 dp, .slice a2 n2 c2, .slice dta dtn dtc, .slice dsa dsn dsc] 27 (0, 0))) := Lib.hid (by rw [obj_setCell_at _ OB2.out]; rfl)
  have OR3 : Hid (obj (w2.setCell ⟨w.heap.size, 1, none⟩ (.slice a2 n2 c2)) (w.heap.size + 2) = _) := Lib.hid ((obj_setCell_ne _ ⟨w.heap.size, 1, none⟩ _ _ (by dsimp only; omega)).trans OR2.out)
  have B3 : Hid (Below base w (w2.setCell ⟨w.heap.size, 1, none⟩ (.slice a2 n2 c2))) := Lib.hid (B2.out.setCell hb _)
  have HF3 := Lib.hid (HF2.out.setBox OB2.out 1 (.slice a2 n2 c2))
  have hz3 : (w2.setCell ⟨w.heap.size, 1, none⟩ (.slice a2 n2 c2)).heap.size = w2.heap.size := by simp
  have y1 := cell_at OB3.out 1
  simp at y1
  by_cases hp : 0 < n2
  case pos =>
    have HM : Hid (M = { m with op := delI m.op node }) := Lib.hid (by rw [HDN.out, if_pos (by intro e; have := HLN.out; rw [e] at this; simp at this; omega)])
    have x0 := cell_at OB3.out 0
    have x1 := cell_at OB3.out 1
    have x2 := cell_at OB3.out 2
    have x3 := cell_at OB3.out 3
    have y0 := cell_at OR3.out 0
    have y1 := cell_at OR3.out 1
    have y2 := cell_at OR3.out 2
    have y3 := cell_at OR3.out 3
    have yf := frozen_at OR3.out
    simp at x0 x1 x2 x3 y0 y1 y2 y3 yf
    go_wp2_with fail
    have q := obj_setCell_at (.slice dsa dsn dsc) (i := 3) (obj_setCell_at (.slice dta dtn dtc) (i := 2) (obj_setCell_at (.slice a2 n2 c2) (i := 1) (obj_setCell_at (.int .i64 dp) (i := 0) OR3.out)))
    have z0 := cell_at q 0
    have z1 := cell_at q 1
    have z2 := cell_at q 2
    have z3 := cell_at q 3
    have HQ := Lib.hid q
    clear q
    simp at z0 z1 z2 z3
    have HFE := Lib.hid ((((HF3.out.setBox OR3.out 0 (.int .i64 dp)).setBox (obj_setCell_at (.int .i64 dp) (i := 0) OR3.out) 1 (.slice a2 n2 c2)).setBox (obj_setCell_at (.slice a2 n2 c2) (i := 1) (obj_setCell_at (.int .i64 dp) (i := 0) OR3.out)) 2 (.slice dta dtn dtc)).setBox (obj_setCell_at (.slice dta dtn dtc) (i := 2) (obj_setCell_at (.slice a2 n2 c2) (i := 1) (obj_setCell_at (.int .i64 dp) (i := 0) OR3.out))) 3 (.slice dsa dsn dsc))
    have BE : Hid (Below base w (((((w2.setCell ⟨w.heap.size, 1, none⟩ (.slice a2 n2 c2)).setCell ⟨w.heap.size + 2, 0, none⟩ (.int .i64 dp)).setCell ⟨w.heap.size + 2, 1, none⟩ (.slice a2 n2 c2)).setCell ⟨w.heap.size + 2, 2, none⟩ (.slice dta dtn dtc)).setCell ⟨w.heap.size + 2, 3, none⟩ (.slice dsa dsn dsc))) := Lib.hid ((((B3.out.setCell (by dsimp only; omega) _).setCell (by dsimp only; omega) _).setCell (by dsimp only; omega) _).setCell (by dsimp only; omega) _)
    generalize ((((w2.setCell ⟨w.heap.size, 1, none⟩ (.slice a2 n2 c2)).setCell ⟨w.heap.size + 2, 0, none⟩ (.int .i64 dp)).setCell ⟨w.heap.size + 2, 1, none⟩ (.slice a2 n2 c2)).setCell ⟨w.heap.size + 2, 2, none⟩ (.slice dta dtn dtc)).setCell ⟨w.heap.size + 2, 3, none⟩ (.slice dsa dsn dsc) = wE at *
    refine bodyPost_ret (v := frV ⟨dp, a2, n2, c2, dta, dtn, dtc, dsa, dsn, dsc⟩) (by simp [results, Tryz.results37, go_sem, z0, z1, z2, z3]) rfl ⟨_, rfl, by rw [HM.out]; exact ⟨HPH.out, HFE.out.op, HFE.out.tips, HFE.out.said⟩, BE.out⟩
  case neg =>
    obtain rfl : n2 = 0 := by omega
    have HOP : Hid (delI m.op node = []) := Lib.hid (List.length_eq_zero_iff.1 HLN.out)
    have HTL : Hid (m.tips.length = dtn) := Lib.hid (HF3.out.tips.slIn idL_length).n.symm
    by_cases hph : dp = 1 ∧ 0 < dtn
    case neg =>
      have HM : Hid (M = { m with phase := 3, op := [] }) := Lib.hid (by rw [HDN.out, HOP.out, if_neg (by simp), if_neg (by rintro ⟨e1, e2⟩; refine hph ⟨HPH.out.trans e1, ?_⟩; rw [← HTL.out]; exact List.length_pos_iff.2 e2)])
      have OB4 : Hid (obj ((w2.setCell ⟨w.heap.size, 1, none⟩ (.slice a2 0 c2)).setCell ⟨w.heap.size, 0, none⟩ (.int .i64 3)) w.heap.size = some (.cells #[.int .i64 3, .slice a2 0 c2, .slice dta dtn dtc, .slice dsa dsn dsc] 27 (0, 0))) := Lib.hid (by rw [obj_setCell_at _ OB3.out]; rfl)
      have OR4 : Hid (obj ((w2.setCell ⟨w.heap.size, 1, none⟩ (.slice a2 0 c2)).setCell ⟨w.heap.size, 0, none⟩ (.int .i64 3)) (w.heap.size + 2) = _) := Lib.hid ((obj_setCell_ne _ ⟨w.heap.size, 0, none⟩ _ _ (by dsimp only; omega)).trans OR3.out)
      have B4 : Hid (Below base w ((w2.setCell ⟨w.heap.size, 1, none⟩ (.slice a2 0 c2)).setCell ⟨w.heap.size, 0, none⟩ (.int .i64 3))) := Lib.hid (B3.out.setCell hb _)
      have HF4 := Lib.hid (HF3.out.setBox OB3.out 0 (.int .i64 3))
      have v0 := cell_at OB3.out 0
      have v2 := cell_at OB3.out 2
      have vf := frozen_at OB3.out 0
      simp at v0 v2 vf
      by_cases h1 : dp = 1
      · have htp : ¬ 0 < dtn := fun e => hph ⟨h1, e⟩
        subst h1
        have x0 := cell_at OB4.out 0
        have x1 := cell_at OB4.out 1
        have x2 := cell_at OB4.out 2
        have x3 := cell_at OB4.out 3
        have y0 := cell_at OR4.out 0
        have y1 := cell_at OR4.out 1
        have y2 := cell_at OR4.out 2
        have y3 := cell_at OR4.out 3
        have yf := frozen_at OR4.out
        simp at x0 x1 x2 x3 y0 y1 y2 y3 yf
        go_wp2_with fail
        have q := obj_setCell_at (.slice dsa dsn dsc) (i := 3) (obj_setCell_at (.slice dta dtn dtc) (i := 2) (obj_setCell_at (.slice a2 0 c2) (i := 1) (obj_setCell_at (.int .i64 3) (i := 0) OR4.out)))
        have z0 := cell_at q 0
        have z1 := cell_at q 1
        have z2 := cell_at q 2
        have z3 := cell_at q 3
        have HQ := Lib.hid q
        clear q
        simp at z0 z1 z2 z3
        have HFE := Lib.hid ((((HF4.out.setBox OR4.out 0 (.int .i64 3)).setBox (obj_setCell_at (.int .i64 3) (i := 0) OR4.out) 1 (.slice a2 0 c2)).setBox (obj_setCell_at (.slice a2 0 c2) (i := 1) (obj_setCell_at (.int .i64 3) (i := 0) OR4.out)) 2 (.slice dta dtn dtc)).setBox (obj_setCell_at (.slice dta dtn dtc) (i := 2) (obj_setCell_at (.slice a2 0 c2) (i := 1) (obj_setCell_at (.int .i64 3) (i := 0) OR4.out))) 3 (.slice dsa dsn dsc))
        have BE : Hid (Below base w ((((((w2.setCell ⟨w.heap.size, 1, none⟩ (.slice a2 0 c2)).setCell ⟨w.heap.size, 0, none⟩ (.int .i64 3)).setCell ⟨w.heap.size + 2, 0, none⟩ (.int .i64 3)).setCell ⟨w.heap.size + 2, 1, none⟩ (.slice a2 0 c2)).setCell ⟨w.heap.size + 2, 2, none⟩ (.slice dta dtn dtc)).setCell ⟨w.heap.size + 2, 3, none⟩ (.slice dsa dsn dsc))) := Lib.hid ((((B4.out.setCell (by dsimp only; omega) _).setCell (by dsimp only; omega) _).setCell (by dsimp only; omega) _).setCell (by dsimp only; omega) _)
        generalize (((((w2.setCell ⟨w.heap.size, 1, none⟩ (.slice a2 0 c2)).setCell ⟨w.heap.size, 0, none⟩ (.int .i64 3)).setCell ⟨w.heap.size + 2, 0, none⟩ (.int .i64 3)).setCell ⟨w.heap.size + 2, 1, none⟩ (.slice a2 0 c2)).setCell ⟨w.heap.size + 2, 2, none⟩ (.slice dta dtn dtc)).setCell ⟨w.heap.size + 2, 3, none⟩ (.slice dsa dsn dsc) = wE at *
        refine bodyPost_ret (v := frV ⟨3, a2, 0, c2, dta, dtn, dtc, dsa, dsn, dsc⟩) (by simp [results, Tryz.results37, go_sem, z0, z1, z2, z3]) rfl ⟨_, rfl, by rw [HM.out]; exact ⟨rfl, by have := HFE.out.op; rw [HOP.out] at this; exact this, HFE.out.tips, HFE.out.said⟩, BE.out⟩
      · clear hph
        have x0 := cell_at OB4.out 0
        have x1 := cell_at OB4.out 1
        have x2 := cell_at OB4.out 2
        have x3 := cell_at OB4.out 3
        have y0 := cell_at OR4.out 0
        have y1 := cell_at OR4.out 1
        have y2 := cell_at OR4.out 2
        have y3 := cell_at OR4.out 3
        have yf := frozen_at OR4.out
        simp at x0 x1 x2 x3 y0 y1 y2 y3 yf
        go_wp2_with fail
        have q := obj_setCell_at (.slice dsa dsn dsc) (i := 3) (obj_setCell_at (.slice dta dtn dtc) (i := 2) (obj_setCell_at (.slice a2 0 c2) (i := 1) (obj_setCell_at (.int .i64 3) (i := 0) OR4.out)))
        have z0 := cell_at q 0
        have z1 := cell_at q 1
        have z2 := cell_at q 2
        have z3 := cell_at q 3
        have HQ := Lib.hid q
        clear q
        simp at z0 z1 z2 z3
        have HFE := Lib.hid ((((HF4.out.setBox OR4.out 0 (.int .i64 3)).setBox (obj_setCell_at (.int .i64 3) (i := 0) OR4.out) 1 (.slice a2 0 c2)).setBox (obj_setCell_at (.slice a2 0 c2) (i := 1) (obj_setCell_at (.int .i64 3) (i := 0) OR4.out)) 2 (.slice dta dtn dtc)).setBox (obj_setCell_at (.slice dta dtn dtc) (i := 2) (obj_setCell_at (.slice a2 0 c2) (i := 1) (obj_setCell_at (.int .i64 3) (i := 0) OR4.out))) 3 (.slice dsa dsn dsc))
        have BE : Hid (Below base w ((((((w2.setCell ⟨w.heap.size, 1, none⟩ (.slice a2 0 c2)).setCell ⟨w.heap.size, 0, none⟩ (.int .i64 3)).setCell ⟨w.heap.size + 2, 0, none⟩ (.int .i64 3)).setCell ⟨w.heap.size + 2, 1, none⟩ (.slice a2 0 c2)).setCell ⟨w.heap.size + 2, 2, none⟩ (.slice dta dtn dtc)).setCell ⟨w.heap.size + 2, 3, none⟩ (.slice dsa dsn dsc))) := Lib.hid ((((B4.out.setCell (by dsimp only; omega) _).setCell (by dsimp only; omega) _).setCell (by dsimp only; omega) _).setCell (by dsimp only; omega) _)
        generalize (((((w2.setCell ⟨w.heap.size, 1, none⟩ (.slice a2 0 c2)).setCell ⟨w.heap.size, 0, none⟩ (.int .i64 3)).setCell ⟨w.heap.size + 2, 0, none⟩ (.int .i64 3)).setCell ⟨w.heap.size + 2, 1, none⟩ (.slice a2 0 c2)).setCell ⟨w.heap.size + 2, 2, none⟩ (.slice dta dtn dtc)).setCell ⟨w.heap.size + 2, 3, none⟩ (.slice dsa dsn dsc) = wE at *
        refine bodyPost_ret (v := frV ⟨3, a2, 0, c2, dta, dtn, dtc, dsa, dsn, dsc⟩) (by simp [results, Tryz.results37, go_sem, z0, z1, z2, z3]) rfl ⟨_, rfl, by rw [HM.out]; exact ⟨rfl, by have := HFE.out.op; rw [HOP.out] at this; exact this, HFE.out.tips, HFE.out.said⟩, BE.out⟩
    obtain ⟨rfl, htp⟩ := hph
    have HM : Hid (M = { m with phase := 2, op := rangeI l.length }) := Lib.hid (by rw [HDN.out, HOP.out, if_neg (by simp), if_pos ⟨HPH.out.symm, by intro e; have := HTL.out; rw [e] at this; simp at this; omega⟩])
    have OB4 : Hid (obj ((w2.setCell ⟨w.heap.size, 1, none⟩ (.slice a2 0 c2)).setCell ⟨w.heap.size, 0, none⟩ (.int .i64 2)) w.heap.size = some (.cells #[.int .i64 2, .slice a2 0 c2, .slice dta dtn dtc, .slice dsa dsn dsc] 27 (0, 0))) := Lib.hid (by rw [obj_setCell_at _ OB3.out]; rfl)
    have OR4 : Hid (obj ((w2.setCell ⟨w.heap.size, 1, none⟩ (.slice a2 0 c2)).setCell ⟨w.heap.size, 0, none⟩ (.int .i64 2)) (w.heap.size + 2) = _) := Lib.hid ((obj_setCell_ne _ ⟨w.heap.size, 0, none⟩ _ _ (by dsimp only; omega)).trans OR3.out)
    have B4 : Hid (Below base w ((w2.setCell ⟨w.heap.size, 1, none⟩ (.slice a2 0 c2)).setCell ⟨w.heap.size, 0, none⟩ (.int .i64 2))) := Lib.hid (B3.out.setCell hb _)
    have HF4 := Lib.hid (HF3.out.setBox OB3.out 0 (.int .i64 2))
    have v0 := cell_at OB3.out 0
    have v2 := cell_at OB3.out 2
    have vf := frozen_at OB3.out 0
    simp at v0 v2 vf
    have HF5 : Hid (FrOwn ((w2.setCell ⟨w.heap.size, 1, none⟩ (.slice a2 0 c2)).setCell ⟨w.heap.size, 0, none⟩ (.int .i64 2)) base ⟨2, a2, 0, c2, dta, dtn, dtc, dsa, dsn, dsc⟩ ⟨2, rangeI 0, m.tips, m.said⟩) := Lib.hid ⟨rfl, by have := HF4.out.op; rw [HOP.out] at this; exact this, HF4.out.tips, HF4.out.said⟩
    have HNL : Hid (∀ k : Nat, k = l.length → M = ⟨2, rangeI k, m.tips, m.said⟩) := Lib.hid (fun k e => by subst e; exact HM.out)
    have hz5 : ((w2.setCell ⟨w.heap.size, 1, none⟩ (.slice a2 0 c2)).setCell ⟨w.heap.size, 0, none⟩ (.int .i64 2)).heap.size = w2.heap.size := by simp
    have hzb : w.heap.size + 3 ≤ w2.heap.size := by omega
    clear HM HDN HF4
    have HLL : Hid (l.length = l.length) := Lib.hid rfl
    generalize l.length = n at *
    go_wp2_with fail
    generalize (w2.setCell ⟨w.heap.size, 1, none⟩ (.slice a2 0 c2)).setCell ⟨w.heap.size, 0, none⟩ (.int .i64 2) = w5 at *
    have HSZ5 : Hid (w.heap.size + 3 ≤ w5.heap.size) := Lib.hid (by omega)
    clear hz5
    go_loopw [7, 30] (fun _ v30 wr => ∃ (k : Nat) (a : Option Addr) (c : Nat), k ≤ n ∧ v30 = .int .i64 k ∧ Hid (FrOwn wr base ⟨2, a, k, c, dta, dtn, dtc, dsa, dsn, dsc⟩ ⟨2, rangeI k, m.tips, m.said⟩) ∧ Hid (obj wr w.heap.size = some (.cells #[.int .i64 2, .slice a k c, .slice dta dtn dtc, .slice dsa dsn dsc] 27 (0, 0))) ∧ Hid (obj wr (w.heap.size + 2) = some (.cells #[.int .i64 0, .slice none 0 0, .slice none 0 0, .slice none 0 0] 27 (0, 0))) ∧ Hid (Below base w wr) ∧ Hid (w.heap.size + 3 ≤ wr.heap.size)) (fun _ i _ => n - (intOf i).toNat)
    case atStart => exact ⟨0, a2, c2, Nat.zero_le _, rfl, HF5, OB4, OR4, B4, HSZ5⟩
    case round =>
      clear HF5 OB4 OR4 B4 HSZ5
      obtain ⟨k, a, c, hk, rfl, HF, OB, OR, HB, HSZ⟩ := hrel
      have hzr := HSZ.out
      by_cases hlt : k < n
      case neg =>
        obtain rfl : k = n := by omega
        have HM := Lib.hid (HNL.out k)
        have x0 := cell_at OB.out 0
        have x1 := cell_at OB.out 1
        have x2 := cell_at OB.out 2
        have x3 := cell_at OB.out 3
        have y0 := cell_at OR.out 0
        have y1 := cell_at OR.out 1
        have y2 := cell_at OR.out 2
        have y3 := cell_at OR.out 3
        have yf := frozen_at OR.out
        simp at x0 x1 x2 x3 y0 y1 y2 y3 yf
        go_wp2_with fail
        have q := obj_setCell_at (.slice dsa dsn dsc) (i := 3) (obj_setCell_at (.slice dta dtn dtc) (i := 2) (obj_setCell_at (.slice a k c) (i := 1) (obj_setCell_at (.int .i64 2) (i := 0) OR.out)))
        have z0 := cell_at q 0
        have z1 := cell_at q 1
        have z2 := cell_at q 2
        have z3 := cell_at q 3
        have HQ := Lib.hid q
        clear q
        simp at z0 z1 z2 z3
        have HFE := Lib.hid ((((HF.out.setBox OR.out 0 (.int .i64 2)).setBox (obj_setCell_at (.int .i64 2) (i := 0) OR.out) 1 (.slice a k c)).setBox (obj_setCell_at (.slice a k c) (i := 1) (obj_setCell_at (.int .i64 2) (i := 0) OR.out)) 2 (.slice dta dtn dtc)).setBox (obj_setCell_at (.slice dta dtn dtc) (i := 2) (obj_setCell_at (.slice a k c) (i := 1) (obj_setCell_at (.int .i64 2) (i := 0) OR.out))) 3 (.slice dsa dsn dsc))
        have BE : Hid (Below base w ((((wr.setCell ⟨w.heap.size + 2, 0, none⟩ (.int .i64 2)).setCell ⟨w.heap.size + 2, 1, none⟩ (.slice a k c)).setCell ⟨w.heap.size + 2, 2, none⟩ (.slice dta dtn dtc)).setCell ⟨w.heap.size + 2, 3, none⟩ (.slice dsa dsn dsc))) := Lib.hid ((((HB.out.setCell (by dsimp only; omega) _).setCell (by dsimp only; omega) _).setCell (by dsimp only; omega) _).setCell (by dsimp only; omega) _)
        generalize (((wr.setCell ⟨w.heap.size + 2, 0, none⟩ (.int .i64 2)).setCell ⟨w.heap.size + 2, 1, none⟩ (.slice a k c)).setCell ⟨w.heap.size + 2, 2, none⟩ (.slice dta dtn dtc)).setCell ⟨w.heap.size + 2, 3, none⟩ (.slice dsa dsn dsc) = wE at *
        refine bodyPost_ret (v := frV ⟨2, a, k, c, dta, dtn, dtc, dsa, dsn, dsc⟩) (by simp [results, Tryz.results37, go_sem, z0, z1, z2, z3]) rfl ⟨_, rfl, by rw [HM.out HLL.out]; exact HFE.out, BE.out⟩
      have BA : Hid (Below wr.heap.size wr (wr.alloc (.cells #[.int .i64 k] 3))) := Lib.hid ((Below.refl _ _).alloc (Nat.le_refl _) _)
      have OA : Hid (obj (wr.alloc (.cells #[.int .i64 k] 3)) wr.heap.size = some (.cells (intL k).toArray 3 (0, 0))) := Lib.hid (obj_alloc_at _ _ _ rfl)
      have HFA := Lib.hid (HF.out.below BA.out)
      have OBA := Lib.hid ((obj_below BA.out (lt_of_obj OB.out)).trans OB.out)
      have ORA := Lib.hid ((obj_below BA.out (lt_of_obj OR.out)).trans OR.out)
      have HBA : Hid (Below base w (wr.alloc (.cells #[.int .i64 k] 3))) := Lib.hid (HB.out.trans (BA.out.mono (by omega)))
      have hza : (wr.alloc (.cells #[.int .i64 k] 3)).heap.size = wr.heap.size + 1 := by simp
      have HNB : Hid ((Value.slice a k c).ownBlock ≠ some w.heap.size) := Lib.hid (HF.out.op.ne OB.out (fun cur h => by injection h with h1 h2; cases h2))
      have HNR : Hid ((Value.slice a k c).ownBlock ≠ some (w.heap.size + 2)) := Lib.hid (HF.out.op.ne OR.out (fun cur h => by injection h with h1 h2; cases h2))
      have x1 := cell_at OB.out 1
      simp at x1
      have hkn : (k : Int) < n := by omega
      have hww := wrapN (k + 1) (by omega)
      have HLQ : Hid (∀ (a : Option Addr) (c : Nat), Value.slice a (rangeI k ++ [(k : Int)]).length c = .slice a (k + 1) c) := Lib.hid (fun a c => by rw [← rangeI_succ, len_rangeI])
      have hll : (rangeI k).length ≤ 1048576 := by rw [len_rangeI]; omega
      go_wp2_with (at_builtin; refine pushI rfl _ _ rfl base (.slice a k c) (rangeI k) (k : Int) rfl HFA.out.op wr.heap.size rfl OA.out hll (by rw [hza]; omega) ?_; intro v6 w6 r6 b6 g6; obtain ⟨a6, c6, e6⟩ := r6.slice; have HO6 : Hid (OwnC w6 base 3 1 intL v6 (rangeI (k + 1))) := Lib.hid (by rw [rangeI_succ]; exact r6); have e7 := e6.trans (HLQ.out a6 c6); subst e7; have OB6 : Hid (obj w6 w.heap.size = some (.cells #[.int .i64 2, .slice a k c, .slice dta dtn dtc, .slice dsa dsn dsc] 27 (0, 0))) := Lib.hid ((g6 _ (by rw [hza]; omega) HNB.out).trans OBA.out); have OR6 : Hid (obj w6 (w.heap.size + 2) = some (.cells #[.int .i64 0, .slice none 0 0, .slice none 0 0, .slice none 0 0] 27 (0, 0))) := Lib.hid ((g6 _ (by rw [hza]; omega) HNR.out).trans ORA.out); have HF6 : Hid (FrOwn w6 base ⟨2, a6, k + 1, c6, dta, dtn, dtc, dsa, dsn, dsc⟩ ⟨2, rangeI (k + 1), m.tips, m.said⟩) := Lib.hid (HFA.out.setOp g6 HO6.out 2); have HB6 : Hid (Below base w w6) := Lib.hid (HBA.out.trans (b6.mono (Nat.le_refl _))); have hz6 : w.heap.size + 3 ≤ w6.heap.size := (by have := b6.size; omega); have u1 := cell_at OB6.out 1; have uf := frozen_at OB6.out 1; clear r6 b6 g6 e6; simp at u1)
      have HF7 := Lib.hid (HF6.out.setBox OB6.out 1 (.slice a6 (k + 1) c6))
      have OB7 : Hid (obj (w6.setCell ⟨w.heap.size, 1, none⟩ (.slice a6 (k + 1) c6)) w.heap.size = some (.cells #[.int .i64 2, .slice a6 (k + 1) c6, .slice dta dtn dtc, .slice dsa dsn dsc] 27 (0, 0))) := Lib.hid (by rw [obj_setCell_at _ OB6.out]; rfl)
      have OR7 : Hid (obj (w6.setCell ⟨w.heap.size, 1, none⟩ (.slice a6 (k + 1) c6)) (w.heap.size + 2) = _) := Lib.hid ((obj_setCell_ne _ ⟨w.heap.size, 1, none⟩ _ _ (by dsimp only; omega)).trans OR6.out)
      have HB7 : Hid (Below base w (w6.setCell ⟨w.heap.size, 1, none⟩ (.slice a6 (k + 1) c6))) := Lib.hid (HB6.out.setCell hb _)
      have HZ7 : Hid (w.heap.size + 3 ≤ (w6.setCell ⟨w.heap.size, 1, none⟩ (.slice a6 (k + 1) c6)).heap.size) := Lib.hid (by simpa using hz6)
      go_roundw
      case rel => exact ⟨k + 1, a6, c6, by omega, by go_num, HF7, OB7, OR7, HB7, HZ7⟩
      case measure => exact meas_step' hlt
end Go.Proofs.YtmgpfmgmpmkkaaaGreat
