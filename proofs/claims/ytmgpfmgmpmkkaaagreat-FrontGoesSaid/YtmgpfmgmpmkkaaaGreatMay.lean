import Derived.Test.YtmgpfmgmpmkkaaaGreatPlc
import Derived.Test.YtmgpfmgmpmkkaaaGreatRange
namespace Go.Proofs.YtmgpfmgmpmkkaaaGreat
open Go.RowKit

set_option maxRecDepth 100000 in
set_option maxHeartbeats 1000000 in
/-- slices.Index, of integers -/
theorem index_int (w : World) (v : Value) (xs : List Int) (a : Int) (h : SlIn w v 1 intL xs) : Calls Tryz.prog 58 #[v, .int .i64 a] w fun e w' => (∃ r : Int, e = .returned (.int .i64 r) ∧ decide (0 ≤ r) = decide (a ∈ xs)) ∧ w' = w := by
  obtain ⟨oa, cap, rfl, h1, h2, h3⟩ := h
  unfold maxLen at h2
  have H3 := Lib.hid h3
  clear h3
  go_enter Tryz.func58, Tryz.ntmps58
  go_wp2
  go_loopw [5, 8] (fun _ v8 wr => ∃ k : Nat, k ≤ xs.length ∧ v8 = .int .i64 k ∧ Hid (∀ j (h1 : j < xs.length), j < k → xs[j] ≠ a) ∧ wr = w) (fun _ i _ => xs.length - (intOf i).toNat)
  case atStart => exact ⟨0, Nat.zero_le _, rfl, Lib.hid (by omega), rfl⟩
  case round =>
    obtain ⟨k, hk, rfl, HK, rfl⟩ := hrel
    by_cases hlt : k < xs.length
    · obtain ⟨b, off, hoa, hbb, hrow⟩ := H3.out (by omega)
      subst hoa
      have hs1 := hrow k hlt
      have cx : wr.cell? ⟨b, off + k * 1, none⟩ = some (.int .i64 xs[k]) := by
        have := subOf_cell hs1 (j := 0) (by decide)
        simpa [intL] using this
      rw [Nat.mul_one] at cx
      have NX : Hid (xs[k] ≠ a → ∀ j (h1 : j < xs.length), j < k + 1 → xs[j] ≠ a) := Lib.hid (fun h j h1 hlt' => by
          by_cases e : j = k
          · subst e; exact h
          · exact HK.out j h1 (by omega))
      have NO : Hid (xs[k] = a → a ∈ xs) := Lib.hid (fun h => h ▸ List.getElem_mem hlt)
      generalize xs[k] = x at *
      clear hrow hs1
      by_cases hxy : a = x
      · have HN : Hid (a ∈ xs) := Lib.hid (NO.out hxy.symm)
        subst hxy
        go_wp2
        go_ret
        exact ⟨⟨_, rfl, ⟨fun _ => HN.out, fun _ => by omega⟩⟩, rfl⟩
      · have HN := Lib.hid (NX.out fun e => hxy e.symm)
        go_wp2
        go_roundw
        case rel => exact ⟨k + 1, by omega, by go_num, HN, trivial⟩
        case measure => simp [intOf]; omega
    · have HN : Hid (a ∉ xs) := Lib.hid (fun hm => by
        obtain ⟨j, hj, e⟩ := List.getElem_of_mem hm
        exact HK.out j hj (by omega) e)
      go_wp2
      go_ret
      exact ⟨⟨_, rfl, (decide_eq_false (by omega)).trans (decide_eq_false HN.out).symm⟩, rfl⟩
set_option maxRecDepth 100000 in
theorem has_int (w : World) (v : Value) (xs : List Int) (a : Int) (h : SlIn w v 1 intL xs) : Calls Tryz.prog 24 #[v, .int .i64 a] w fun e w' => e = .returned (.bool (decide (a ∈ xs))) ∧ w' = w := by
  have HI := Lib.hid (index_int w v xs a h)
  clear h
  go_enter Tryz.func24, Tryz.ntmps24
  go_wp2_with fail
  refine HI.out.mono ?_
  rintro e w1 ⟨⟨r, rfl, hr⟩, hw⟩
  cases hw
  have HR := Lib.hid hr
  clear hr
  go_wp2
  go_ret
  exact ⟨ret_bool HR.out, rfl⟩
/-- a front in a box -/
theorem fr_box (w : World) (d : FrD) : obj (w.alloc (.cells (frC d) 27)) w.heap.size = some (.cells (frC d) 27 (0, 0)) := obj_alloc_at _ _ _ rfl
set_option maxRecDepth 100000 in
set_option maxHeartbeats 1000000 in
/-- tip -/
theorem tip_any (w : World) (d : FrD) (m : FrM) (id : ID) (h : FrAt w d m) : Calls Tryz.prog 34 #[frV d, .agg (idL id).toArray] w fun e w' => e = .returned (.bool (decide (id ∈ m.tips))) ∧ Below w.heap.size w w' := by
  have hb : Below w.heap.size w ((w.alloc (.cells (frC d) 27)).alloc (.cells (idL id).toArray 32)) := ((Below.refl _ w).alloc (Nat.le_refl _) _).alloc (by simp) _
  have HC := Lib.hid (contains_any ((w.alloc (.cells (frC d) 27)).alloc (.cells (idL id).toArray 32)) _ m.tips id (h.tips.below hb))
  have HB := Lib.hid hb
  have o2 : obj ((w.alloc (.cells (frC d) 27)).alloc (.cells (idL id).toArray 32)) (w.heap.size + 1) = some (.cells (idL id).toArray 32 (0, 0)) := obj_alloc_at _ _ _ (by simp)
  have p2 : subOf (obj ((w.alloc (.cells (frC d) 27)).alloc (.cells (idL id).toArray 32)) (w.heap.size + 1)) 0 32 = some (idL id).toArray := by rw [o2, subOf_cells (by simp), subA_all (by simp)]
  generalize m.tips = ts at *
  clear hb h o2
  go_enter Tryz.func34, Tryz.ntmps34
  go_wp2_with fail
  refine HC.out.mono ?_
  rintro e w1 ⟨rfl, b1⟩
  go_wp2
  go_ret
  exact ⟨rfl, HB.out.trans (b1.mono (by simp; omega))⟩
theorem info3 : (Tryz.prog.info? 3).map (fun i => (i.zero, i.size, i.bytes)) = some (some (.int .i64 0), 1, 8) := by kernel_rfl
theorem push23 {ops : Array Oper} {rest : List Oper} {o : Oper} {a : Act} {w : World} {Q : Exit → Act → World → Prop} (hgd : o.guard = none) (s x : Operand) (ho : o.op = .call { callee := .builtin .append, args := #[s, x], argTypes := #[23, 23] })
    (base : Nat) (v : Value) (xs : List Int) (y : Int) (hs : a.eval s = v) (hown : OwnS w base 3 1 intL v xs) (g : Nat) (hx : a.eval x = .slice (some ⟨g, 0, none⟩) 1 1) (hg : obj w g = some (.cells (intL y).toArray 3 (0, 0)))
    (hlen : xs.length ≤ 1048576) (hbase : base ≤ w.heap.size)
    (h : ∀ v' w', OwnS w' base 3 1 intL v' (xs ++ [y]) → Below base w w' → (∀ k, k < w.heap.size → v.ownBlock ≠ some k → obj w' k = obj w k) → wpList Tryz.prog ops Q rest (a.put o.dst v') w') : wpList Tryz.prog ops Q (o :: rest) a w := by
  obtain ⟨i0, hi, hz0, hz1, hz2⟩ := info_parts info3
  exact wpList_push Tryz.underlying23 hi hz0 hz1 hz2 (by simp [Value.cells]) (by decide) intL intL_length intL_one hgd s x ho base v xs y hs hown g hx hg hlen (by decide) hbase h
def sOne (m : FrM) (s : SaidM) : Bool := !decide (s.node ∈ m.op) && risB s.ids && s.ids.all fun id => decide (id ∈ m.tips)
theorem saidB_no {n : Int} {m : FrM} {k : Nat} (hk : k < m.said.length) (h : sOne m m.said[k] = false) : saidB n m = false := by
  unfold saidB
  have : (m.said.all fun s => !decide (s.node ∈ m.op) && risB s.ids && s.ids.all fun id => decide (id ∈ m.tips)) = false := by
    rw [List.all_eq_false]
    exact ⟨_, List.getElem_mem hk, by have h' := h; unfold sOne at h'; simp only [h']; decide⟩
  rw [this]; rfl
theorem saidB_yes {n : Int} {m : FrM} (h : ∀ k (hk : k < m.said.length), sOne m m.said[k] = true) : saidB n m = placesB n (m.said.map (·.node)) := by
  unfold saidB
  have : (m.said.all fun s => !decide (s.node ∈ m.op) && risB s.ids && s.ids.all fun id => decide (id ∈ m.tips)) = true := by
    rw [List.all_eq_true]
    intro x hx
    obtain ⟨k, hk, rfl⟩ := List.getElem_of_mem hx
    exact h k hk
  rw [this]; rfl
set_option maxRecDepth 100000 in
set_option maxHeartbeats 4000000 in
/-- said -/
theorem said_any (w : World) (la : Option Addr) (ln lc : Nat) (d : FrD) (m : FrM) (h : FrAt w d m) (hlen : m.said.length ≤ 4096) (hids : ∀ s ∈ m.said, s.ids.length ≤ 1048576) : Calls Tryz.prog 52 #[.slice la ln lc, frV d] w fun e w' => e = .returned (.bool (saidB ln m)) ∧ Below w.heap.size w w' := by
  have HF := Lib.hid h
  have HNO : Hid (∀ k (hk : k < m.said.length), sOne m m.said[k] = false → saidB ln m = false) := Lib.hid (fun k hk h => saidB_no hk h)
  have HYS : Hid ((∀ k (hk : k < m.said.length), sOne m m.said[k] = true) → saidB ln m = placesB ln (m.said.map (·.node))) := Lib.hid saidB_yes
  generalize saidB ln m = T at *
  obtain ⟨rows, hr, hat⟩ := h.said
  have hrn := hr.n
  obtain ⟨sa', sc', e', g1, g2, g3⟩ := hr
  have G3 := Lib.hid g3
  have HAT := Lib.hid hat
  have HIDS := Lib.hid hids
  have hrl : rows.length = m.said.length := hat.1
  have B0 : Hid (Below w.heap.size w (w.alloc (.cells (frC d) 27))) := Lib.hid ((Below.refl _ w).alloc (Nat.le_refl _) _)
  have OB : Hid (obj (w.alloc (.cells (frC d) 27)) w.heap.size = some (.cells (frC d) 27 (0, 0))) := Lib.hid (fr_box w d)
  obtain ⟨dp, doa, don, doc, dta, dtn, dtc, dsa, dsn, dsc⟩ := d
  simp only at hrn e'
  injection e' with e1 e2 e3
  subst e1 e2 e3
  unfold maxLen at g2
  have HRL := Lib.hid hrl
  clear g3 hat h hids hrn hrl
  go_enter Tryz.func52, Tryz.ntmps52
  go_wp2_with fail
  generalize w.alloc (.cells (frC ⟨dp, doa, don, doc, dta, dtn, dtc, dsa, rows.length, dsc⟩) 27) = w0 at *
  go_loopw [5, 7, 9, 13] (fun v5 _ _ v13 wr => ∃ k : Nat, k ≤ rows.length ∧ v13 = .int .i64 k ∧ Hid (OwnS wr (w.heap.size + 1) 3 1 intL v5 ((m.said.take k).map (·.node))) ∧ Hid (∀ j (hj : j < m.said.length), j < k → sOne m m.said[j] = true) ∧ Hid (obj wr w.heap.size = some (.cells #[.int .i64 dp, .slice doa don doc, .slice dta dtn dtc, .slice dsa rows.length dsc] 27 (0, 0))) ∧ Hid (Below w.heap.size w wr)) (fun _ _ _ i _ => rows.length - (intOf i).toNat)
  case atStart => exact ⟨0, Nat.zero_le _, rfl, Lib.hid (OwnS.nil _ _ _ _ _), Lib.hid (fun j hj h => by omega), OB, B0⟩
  case round =>
    obtain ⟨k, hk, rfl, HO, HM, HBX, HB⟩ := hrel
    have hz := HB.out.size
    have hbx := lt_of_obj HBX.out
    obtain ⟨oa5, cap5, e5⟩ := HO.out.slice
    generalize hl5 : List.length _ = n5 at e5
    subst e5
    have HL5 := Lib.hid hl5
    clear hl5
    by_cases hlt : k < rows.length
    case neg =>
      have hk' : k = rows.length := by omega
      have HYY : Hid (T = placesB ln (m.said.map (·.node))) := Lib.hid (HYS.out fun j hj => HM.out j hj (by have := HRL.out; omega))
      have hsl := HO.out.slIn intL_length
      rw [List.take_of_length_le (by rw [← HRL.out]; omega)] at hsl
      have HP := Lib.hid (places_any wr la ln lc _ _ hsl (by simp; omega))
      rw [← HYY.out] at HP
      clear hsl
      go_wp2_with fail
      refine HP.out.mono ?_
      rintro e w9 ⟨rfl, hw9⟩
      cases hw9
      go_wp2_with fail
      go_ret
      exact ⟨rfl, HB.out⟩
    have hks : k < m.said.length := by have := HRL.out; omega
    obtain ⟨b, off, rfl, hbb, hrow⟩ := G3.out (by omega)
    have hs1 := hrow k hlt
    rw [← obj_below HB.out hbb] at hs1
    have hbl : b < wr.heap.size := by omega
    have hra := HAT.out.2 k rows[k] m.said[k] (List.getElem?_eq_getElem hlt) (List.getElem?_eq_getElem hks)
    have hil := HIDS.out m.said[k] (List.getElem_mem hks)
    have HNX : Hid (sOne m m.said[k] = true → ∀ j (hj : j < m.said.length), j < k + 1 → sOne m m.said[j] = true) := Lib.hid (fun h j hj hjk => by
      by_cases e : j = k
      · subst e; exact h
      · exact HM.out j hj (by omega))
    have HNN := Lib.hid (HNO.out k hks)
    have HTK : Hid ((m.said.take (k + 1)).map (·.node) = (m.said.take k).map (·.node) ++ [m.said[k].node]) := Lib.hid (by
      rw [List.take_succ_eq_append_getElem hks, List.map_append]; rfl)
    have htl : ((m.said.take k).map (·.node)).length ≤ 1048576 := by simp; omega
    generalize rows[k] = r at *
    generalize m.said[k] = s at *
    obtain ⟨rn, roa, rln, rcap⟩ := r
    obtain ⟨sn, sids⟩ := s
    obtain ⟨hr1, hr2⟩ := hra
    simp only at hr1 hr2 hil HTK
    subst hr1
    have c0 : wr.cell? ⟨b, off + k * 2, none⟩ = some (.int .i64 rn) := by have := subOf_cell hs1 (j := 0) (by decide); simpa [sdL] using this
    have c1 : wr.cell? ⟨b, off + k * 2 + 1, none⟩ = some (.slice roa rln rcap) := by have := subOf_cell hs1 (j := 1) (by decide); simpa [sdL] using this
    have HSI := Lib.hid (hr2.below HB.out)
    clear hrow hs1 hr2
    have BA : Hid (Below wr.heap.size wr (wr.alloc (.cells #[.int .i64 rn, .slice roa rln rcap] 42))) := Lib.hid ((Below.refl _ _).alloc (Nat.le_refl _) _)
    have OA : Hid (obj (wr.alloc (.cells #[.int .i64 rn, .slice roa rln rcap] 42)) wr.heap.size = some (.cells #[.int .i64 rn, .slice roa rln rcap] 42 (0, 0))) := Lib.hid (obj_alloc_at _ _ _ rfl)
    have OX : Hid (obj (wr.alloc (.cells #[.int .i64 rn, .slice roa rln rcap] 42)) w.heap.size = _) := Lib.hid ((obj_alloc_past _ _ _ hbx).trans HBX.out)
    have HO2 := Lib.hid (HO.out.alloc (.cells #[.int .i64 rn, .slice roa rln rcap] 42))
    have BW : Hid (Below w.heap.size w (wr.alloc (.cells #[.int .i64 rn, .slice roa rln rcap] 42))) := Lib.hid (HB.out.alloc hz _)
    have bx1 : (wr.alloc (.cells #[.int .i64 rn, .slice roa rln rcap] 42)).cell? ⟨w.heap.size, 1, none⟩ = some (.slice doa don doc) := cell_at OX.out 1
    have bx2 : wr.cell? ⟨w.heap.size, 1, none⟩ = some (.slice doa don doc) := cell_at HBX.out 1
    obtain ⟨wo, rfl⟩ : ∃ wo : World, wo = wr := ⟨_, rfl⟩
    have hzw : (wo.alloc (.cells #[.int .i64 rn, .slice roa rln rcap] 42)).heap.size = wo.heap.size + 1 := by simp
    go_wp2_with fail
    have aa0 := cell_at OA.out 0
    have aa1 := cell_at OA.out 1
    have hwz : wo.heap.size < (wo.alloc (.cells #[.int .i64 rn, .slice roa rln rcap] 42)).heap.size := by omega
    have hwx : w.heap.size < (wo.alloc (.cells #[.int .i64 rn, .slice roa rln rcap] 42)).heap.size := by omega
    clear hzw
    generalize wo.alloc (.cells #[.int .i64 rn, .slice roa rln rcap] 42) = wa at *
    simp at aa0 aa1
    refine (has_int wa (.slice doa don doc) m.op rn (HF.out.op.below BW.out)).mono ?_
    rintro e w9 ⟨rfl, hw9⟩
    cases hw9
    by_cases hno : rn ∈ m.op
    · have HT : Hid (T = false) := Lib.hid (HNN.out (by unfold sOne; simp [hno]))
      have hd : decide (rn ∈ m.op) = true := decide_eq_true hno
      clear hno
      go_wp2_with fail
      go_ret
      exact ⟨by rw [HT.out]; rfl, BW.out⟩
    have hd : decide (rn ∈ m.op) = false := decide_eq_false hno
    have HR := Lib.hid (rising_any wa (.slice roa rln rcap) sids (HSI.out.below BA.out) hil)
    have HSO : Hid (sOne m ⟨rn, sids⟩ = (risB sids && sids.all fun id => decide (id ∈ m.tips))) := Lib.hid (by unfold sOne; simp [hno])
    clear hno
    go_wp2_with fail
    refine HR.out.mono ?_
    rintro e wb ⟨rfl, bb⟩
    have BB : Hid (Below w.heap.size w wb) := Lib.hid (BW.out.trans (bb.mono (by omega)))
    have SB := Lib.hid ((HSI.out.below BA.out).below bb)
    have OXB := Lib.hid ((obj_below bb hwx).trans OX.out)
    have OAB := Lib.hid ((obj_below bb hwz).trans OA.out)
    have HOB := Lib.hid (HO2.out.keeps (W := wb) fun g hg => obj_below bb (HO2.out.1.lt g hg).2)
    have hzb := bb.size
    clear bb HR HO2 BA OA OX
    cases hrs : risB sids with
    | false =>
      have HT : Hid (T = false) := Lib.hid (HNN.out (by rw [HSO.out, hrs]; rfl))
      go_wp2_with fail
      go_ret
      exact ⟨by rw [HT.out]; rfl, BB.out⟩
    | true =>
      have HRS := Lib.hid hrs
      clear hrs
      have ab1 := cell_at OAB.out 1
      have hwb : wo.heap.size < wb.heap.size := by omega
      simp at ab1
      obtain ⟨sa2, sc2, e2, q1, q2, q3⟩ := SB.out
      injection e2 with e2 e3 e4
      subst e2 e3 e4
      have Q3 := Lib.hid q3
      unfold maxLen at q2
      clear q3
      go_wp2_with fail
      go_loopw [9, 31] (fun _ v31 wr => ∃ j : Nat, j ≤ sids.length ∧ v31 = .int .i64 j ∧ Hid (∀ i (hi : i < sids.length), i < j → sids[i] ∈ m.tips) ∧ Hid (Below wb.heap.size wb wr)) (fun _ i _ => sids.length - (intOf i).toNat)
      case atStart => exact ⟨0, Nat.zero_le _, rfl, Lib.hid (fun i hi h => by omega), Lib.hid (Below.refl _ _)⟩
      case round =>
        obtain ⟨j, hj, rfl, HMJ, HBJ⟩ := hrel
        have hzj := HBJ.out.size
        have OXJ := Lib.hid ((obj_below HBJ.out (by omega)).trans OXB.out)
        have OAJ := Lib.hid ((obj_below HBJ.out hwb).trans OAB.out)
        by_cases hjl : j < sids.length
        case neg =>
          have HALL : Hid (sOne m ⟨rn, sids⟩ = true) := Lib.hid (by
            rw [HSO.out, HRS.out, Bool.true_and, List.all_eq_true]
            intro x hx
            obtain ⟨i, hi, rfl⟩ := List.getElem_of_mem hx
            exact decide_eq_true (HMJ.out i hi (by omega)))
          have HM2 := Lib.hid (HNX.out HALL.out)
          have aj0 := cell_at OAJ.out 0
          simp at aj0
          have haw : wo.heap.size < wr.heap.size := by omega
          have HOJ := Lib.hid (HOB.out.keeps (W := wr) fun g hg => obj_below HBJ.out (HOB.out.1.lt g hg).2)
          have hOL := HOJ.out.alloc (.cells #[.int .i64 rn] 3)
          have hwj : w.heap.size + 1 ≤ wr.heap.size := by omega
          go_wp2_with (at_builtin; have oo : obj (wr.alloc (.cells #[.int .i64 rn] 3)) wr.heap.size = some (.cells (intL rn).toArray 3 (0, 0)) := obj_alloc_at _ _ _ rfl; refine push23 rfl _ _ rfl (w.heap.size + 1) (.slice oa5 n5 cap5) ((m.said.take k).map (·.node)) rn rfl hOL wr.heap.size rfl oo htl (by simp; omega) ?_; intro v6 w6 r6 b6 g6; have R6 : Hid (OwnS w6 (w.heap.size + 1) 3 1 intL v6 ((m.said.take (k + 1)).map (·.node))) := Lib.hid (by rw [HTK.out]; exact r6); have B6 := Lib.hid (BB.out.trans ((HBJ.out.trans (((Below.refl _ _).alloc (Nat.le_refl _) (.cells #[.int .i64 rn] 3)).mono hzj)).mono (by omega)) |>.trans (b6.mono (by omega))); have X6 := Lib.hid ((g6 w.heap.size (by simp; omega) (fun e => by have := (HOJ.out.1.lt _ e).1; omega)).trans ((obj_alloc_past _ _ _ (by omega)).trans OXJ.out)); clear r6 b6 g6 oo)
          go_roundw
          case rel => exact ⟨k + 1, by omega, by go_num, R6, HM2, X6, B6⟩
          case measure => simp [intOf]; omega
        obtain ⟨bi, oi, rfl, hbi, hri⟩ := Q3.out (by omega)
        have hsi := hri j hjl
        rw [← obj_below HBJ.out hbi] at hsi
        have hbil : bi < wr.heap.size := by omega
        have HNJ : Hid (sids[j] ∈ m.tips → ∀ i (hi : i < sids.length), i < j + 1 → sids[i] ∈ m.tips) := Lib.hid (fun h i hi hij => by
          by_cases e : i = j
          · subst e; exact h
          · exact HMJ.out i hi (by omega))
        have HNF : Hid (sids[j] ∉ m.tips → sOne m ⟨rn, sids⟩ = false) := Lib.hid (fun h => by
          rw [HSO.out]
          have : (sids.all fun id => decide (id ∈ m.tips)) = false := List.all_eq_false.2 ⟨_, List.getElem_mem hjl, by simp [h]⟩
          rw [this, Bool.and_false])
        generalize sids[j] = x at *
        clear hri
        have o9 : obj (wr.alloc (.cells (idL x).toArray 32)) wr.heap.size = some (.cells (idL x).toArray 32 (0, 0)) := obj_alloc_at _ _ _ rfl
        have p9 : subOf (obj (wr.alloc (.cells (idL x).toArray 32)) wr.heap.size) 0 32 = some (idL x).toArray := by rw [o9, subOf_cells (by simp), subA_all (by simp)]
        have oxj := (obj_alloc_past wr (.cells (idL x).toArray 32) _ (by omega)).trans OXJ.out
        have x0 := cell_at oxj 0
        have x1 := cell_at oxj 1
        have x2 := cell_at oxj 2
        have x3 := cell_at oxj 3
        have BX : Hid (Below w.heap.size w (wr.alloc (.cells (idL x).toArray 32))) := Lib.hid ((BB.out.trans (HBJ.out.mono (by omega))).alloc (by omega) _)
        have BJ2 : Hid (Below wb.heap.size wb (wr.alloc (.cells (idL x).toArray 32))) := Lib.hid (HBJ.out.alloc hzj _)
        have HTP := Lib.hid (tip_any _ _ m x (HF.out.below BX.out))
        have hzz : w.heap.size < wr.heap.size := by omega
        simp at x0 x1 x2 x3
        clear o9 oxj
        go_wp2_with fail
        refine HTP.out.mono ?_
        rintro e wc ⟨rfl, bc⟩
        have BC : Hid (Below wb.heap.size wb wc) := Lib.hid (BJ2.out.trans (bc.mono (by simp; omega)))
        have BCW : Hid (Below w.heap.size w wc) := Lib.hid (BX.out.trans (bc.mono (by simp; omega)))
        clear bc HTP
        by_cases hin : x ∈ m.tips
        · have hd2 : decide (x ∈ m.tips) = true := decide_eq_true hin
          have HNY := Lib.hid (HNJ.out hin)
          clear hin
          go_wp2_with fail
          go_roundw
          case rel => exact ⟨j + 1, by omega, by go_num, HNY, BC⟩
          case measure => simp [intOf]; omega
        · have hd2 : decide (x ∈ m.tips) = false := decide_eq_false hin
          have HT : Hid (T = false) := Lib.hid (HNN.out (HNF.out hin))
          clear hin
          go_wp2_with fail
          go_ret
          exact ⟨by rw [HT.out]; rfl, BCW.out⟩
end Go.Proofs.YtmgpfmgmpmkkaaaGreat
