import Derived.Test.YtmgpfmgmpmkkaaaGreatSm
import Derived.Test.YtmgpfmgmpmkkaaaGreatMapE
namespace Go.Proofs.YtmgpfmgmpmkkaaaGreat
open Go.RowKit Go.Shelf Go.Sort

/-! ### stakes, in plain words -/
def nV (n : Int) : Value := .int .i64 n
def wtAt (l : List Vd) (node : Int) : Int := if node < 0 then 0 else ((l[node.toNat]?).map (·.wt)).getD 0
def sumW : List Vd → Int
  | [] => 0
  | x :: r => x.wt + sumW r
def stk (l : List Vd) (id : ID) : List SaidM → Int
  | [] => 0
  | s :: r => (if id ∈ s.ids then wtAt l s.node else 0) + stk l id r
def stIds (wt : Int) : List (ID × Int) → List ID → List (ID × Int)
  | L, [] => L
  | L, x :: r => stIds wt (kPut x (getN L x + wt) L) r
def stAll (l : List Vd) : List (ID × Int) → List SaidM → List (ID × Int)
  | L, [] => L
  | L, s :: r => stAll l (stIds (wtAt l s.node) L s.ids) r
theorem stIds_snoc (wt : Int) (x : ID) : ∀ (r : List ID) (L : List (ID × Int)), stIds wt L (r ++ [x]) = kPut x (getN (stIds wt L r) x + wt) (stIds wt L r)
  | [], _ => rfl
  | y :: r, L => stIds_snoc wt x r _
theorem stAll_snoc (l : List Vd) (s : SaidM) : ∀ (r : List SaidM) (L : List (ID × Int)), stAll l L (r ++ [s]) = stIds (wtAt l s.node) (stAll l L r) s.ids
  | [], _ => rfl
  | y :: r, L => stAll_snoc l s r _
theorem getN_stIds (wt : Int) (id : ID) : ∀ (r : List ID) (L : List (ID × Int)), r.Nodup → getN (stIds wt L r) id = getN L id + if id ∈ r then wt else 0
  | [], L, _ => by simp [stIds]
  | x :: r, L, h => by
    rw [List.nodup_cons] at h
    unfold stIds
    rw [getN_stIds wt id r _ h.2, getN_put]
    by_cases e : id = x
    · subst e
      rw [if_pos rfl, if_neg h.1, if_pos (by simp)]
      omega
    · rw [if_neg e]
      by_cases hm : id ∈ r
      · rw [if_pos hm, if_pos (by simp [hm])]
      · rw [if_neg hm, if_neg (by simp [hm, e])]
theorem getN_stAll (l : List Vd) (id : ID) : ∀ (r : List SaidM) (L : List (ID × Int)), (∀ s ∈ r, s.ids.Nodup) → getN (stAll l L r) id = getN L id + stk l id r
  | [], L, _ => by simp [stAll, stk]
  | s :: r, L, h => by
    unfold stAll stk
    rw [getN_stAll l id r _ (fun t ht => h t (by simp [ht])), getN_stIds _ _ _ _ (h s (by simp))]
    omega
def PosW (l : List Vd) : Prop := ∀ x ∈ l, 1 ≤ x.wt
theorem sumW_nonneg : ∀ {l : List Vd}, PosW l → 0 ≤ sumW l
  | [], _ => by simp [sumW]
  | x :: l, h => by
    have h1 := h x (by simp)
    have h2 := sumW_nonneg (l := l) fun y hy => h y (by simp [hy])
    unfold sumW
    omega
theorem sumW_app : ∀ (a b : List Vd), sumW (a ++ b) = sumW a + sumW b
  | [], b => by simp [sumW]
  | x :: a, b => by simp only [List.cons_append, sumW, sumW_app a b]; omega
theorem wtsF_iff : ∀ {l : List Vd} {left : Int}, wtsF left l = true → PosW l ∧ (l = [] ∨ sumW l ≤ left)
  | [], _, _ => ⟨fun x hx => (by cases hx), .inl rfl⟩
  | x :: l, left, h => by
    rw [wtsF_cons] at h
    split at h
    · cases h
    · rename_i hn
      simp only [not_or] at hn
      obtain ⟨h1, h2⟩ := wtsF_iff h
      refine ⟨fun y hy => ?_, .inr ?_⟩
      · rcases List.mem_cons.1 hy with rfl | hy
        · omega
        · exact h1 y hy
      · unfold sumW
        rcases h2 with rfl | h2
        · simp only [sumW]; omega
        · omega
theorem sumW_max {l : List Vd} (h : chk l = 0) : PosW l ∧ sumW l ≤ 4611686018427387903 := by
  obtain ⟨_, _, _, h4⟩ := chk_32 h
  obtain ⟨h1, h2⟩ := wtsF_iff h4
  refine ⟨h1, ?_⟩
  rcases h2 with rfl | h2
  · simp [sumW]
  · exact h2
theorem wtAt_nonneg {l : List Vd} (h : PosW l) (node : Int) : 0 ≤ wtAt l node := by
  unfold wtAt
  split
  · omega
  · cases e : l[node.toNat]? with
    | none => simp
    | some x => have := h x (List.mem_of_getElem? e); simp; omega
theorem sumW_drop {l : List Vd} (h : PosW l) {i j : Nat} (hij : i ≤ j) : sumW (l.drop j) ≤ sumW (l.drop i) := by
  have e : l.drop i = (l.drop i).take (j - i) ++ l.drop j := by
    have := (List.take_append_drop (j - i) (l.drop i)).symm
    rwa [List.drop_drop, show i + (j - i) = j by omega] at this
  rw [e, sumW_app]
  have := sumW_nonneg (l := (l.drop i).take (j - i)) fun x hx => h x (List.mem_of_mem_drop (List.mem_of_mem_take hx))
  omega
theorem wtAt_drop {l : List Vd} {i : Nat} (h : i < l.length) : wtAt l i + sumW (l.drop (i + 1)) = sumW (l.drop i) := by
  rw [List.drop_eq_getElem_cons h]
  unfold wtAt
  rw [if_neg (by omega)]
  simp only [Int.toNat_natCast, List.getElem?_eq_getElem h, Option.map_some, Option.getD_some, sumW]
theorem stk_nonneg {l : List Vd} (h : PosW l) (id : ID) : ∀ (r : List SaidM), 0 ≤ stk l id r
  | [] => by simp [stk]
  | s :: r => by
    unfold stk
    have := stk_nonneg h id r
    have := wtAt_nonneg h s.node
    split <;> omega
/-- nodes that rise have no more stake than all -/
theorem stk_le {l : List Vd} (h : PosW l) (id : ID) : ∀ (r : List SaidM) (j : Nat), AscS r → (∀ s ∈ r, (j : Int) ≤ s.node ∧ s.node < l.length) → stk l id r ≤ sumW (l.drop j)
  | [], j, _, _ => by
    have := sumW_nonneg (l := l.drop j) fun x hx => h x (List.mem_of_mem_drop hx)
    simpa [stk] using this
  | s :: r, j, ha, hb => by
    unfold AscS at ha
    rw [List.pairwise_cons] at ha
    obtain ⟨h1, h2⟩ := hb s (by simp)
    obtain ⟨i, hi⟩ : ∃ i : Nat, s.node = i := ⟨s.node.toNat, by omega⟩
    have ih := stk_le h id r (i + 1) ha.2 fun t ht => by
      have := ha.1 t ht
      have := hb t (by simp [ht])
      omega
    have hd := wtAt_drop (l := l) (i := i) (by omega)
    have hdj := sumW_drop h (i := j) (j := i) (by omega)
    have h0 := wtAt_nonneg h s.node
    unfold stk
    rw [hi] at h0 ⊢
    split <;> omega
theorem stk_app (l : List Vd) (id : ID) : ∀ (a b : List SaidM), stk l id (a ++ b) = stk l id a + stk l id b
  | [], b => by simp [stk]
  | s :: a, b => by simp only [List.cons_append, stk, stk_app l id a b]; omega
def stkL (l : List Vd) (m : FrM) : List (ID × Int) := if mayB l m = true then stAll l [] m.said else []
def stake (l : List Vd) (m : FrM) (id : ID) : Int := if mayB l m = true then stk l id m.said else 0
theorem mayB_said {l : List Vd} {m : FrM} (h : mayB l m = true) : chk l = 0 ∧ AscS m.said ∧ (∀ s ∈ m.said, 0 ≤ s.node ∧ s.node < l.length) ∧ (∀ s ∈ m.said, s.ids.Nodup) := by
  unfold mayB saidB at h
  simp only [Bool.and_eq_true, decide_eq_true_eq, placesB_iff, List.all_eq_true] at h
  obtain ⟨⟨⟨⟨⟨hc, -⟩, -⟩, -⟩, hsd⟩, -⟩ := h
  refine ⟨hc, ?_, fun s hs => hsd.2.1 s.node (List.mem_map.2 ⟨s, hs, rfl⟩), fun s hs => ris_nodup (hsd.1 s hs).1.2⟩
  have := hsd.2.2
  rw [List.pairwise_map] at this
  exact this
theorem getN_nil (id : ID) : getN [] id = 0 := rfl
theorem getN_stkL (l : List Vd) (m : FrM) (id : ID) : getN (stkL l m) id = stake l m id := by
  unfold stkL stake
  split
  · rename_i h
    rw [getN_stAll l id _ _ (mayB_said h).2.2.2, getN_nil]
    omega
  · rfl
/-- the sum at a step of the walk does not leave the range -/
theorem step_fits {l : List Vd} {m : FrM} (h : mayB l m = true) {k : Nat} (hk : k < m.said.length) {j : Nat} (hj : j < m.said[k].ids.length) :
    0 ≤ getN (stIds (wtAt l m.said[k].node) (stAll l [] (m.said.take k)) (m.said[k].ids.take j)) m.said[k].ids[j] + wtAt l m.said[k].node ∧
    getN (stIds (wtAt l m.said[k].node) (stAll l [] (m.said.take k)) (m.said[k].ids.take j)) m.said[k].ids[j] + wtAt l m.said[k].node ≤ 4611686018427387903 := by
  obtain ⟨hc, ha, hb, hn⟩ := mayB_said h
  obtain ⟨hp, hs⟩ := sumW_max hc
  have hnd := hn m.said[k] (List.getElem_mem hk)
  have e1 := getN_stIds (wtAt l m.said[k].node) m.said[k].ids[j] (m.said[k].ids.take j) (stAll l [] (m.said.take k)) ((List.take_sublist _ _).nodup hnd)
  have hni : m.said[k].ids[j] ∉ m.said[k].ids.take j := fun hm => by
    obtain ⟨i, hi, e⟩ := List.getElem_of_mem hm
    have hij : i < j := by simp at hi; omega
    rw [List.getElem_take] at e
    have := (List.getElem_inj hnd).1 e
    omega
  rw [if_neg hni] at e1
  have e2 := getN_stAll l m.said[k].ids[j] (m.said.take k) [] fun s hs => hn s (List.mem_of_mem_take hs)
  rw [getN_nil] at e2
  have e3 : stk l m.said[k].ids[j] (m.said.take (k + 1)) = stk l m.said[k].ids[j] (m.said.take k) + wtAt l m.said[k].node := by
    rw [List.take_succ_eq_append_getElem hk, stk_app]
    simp only [stk]
    rw [if_pos (List.getElem_mem hj)]
    omega
  have e4 := stk_le hp m.said[k].ids[j] (m.said.take (k + 1)) 0 (List.Pairwise.sublist (List.take_sublist _ _) ha) fun s hs => by
    have := hb s (List.mem_of_mem_take hs); omega
  rw [List.drop_zero] at e4
  have e5 := stk_nonneg hp m.said[k].ids[j] (m.said.take k)
  have e6 := wtAt_nonneg hp m.said[k].node
  omega
/-- what a map's entry is, and what it becomes: the facts that the walk reads -/
theorem entry76 (wr : World) (m : Nat) (L : List (ID × Int)) (k : ID) (n : Int) (h : MapB wr m idV nV L) : ∃ (es : Array MapEntry) (clk st : Nat) (es1 : Array MapEntry) (clk1 : Nat) (es' : Array MapEntry) (clk' : Nat),
    obj wr m = some (.map es clk) ∧
    (∀ w : World, obj w m = some (.map es clk) → (Instr.mapEntry 85 (.map (some m)) (.agg (idL k).toArray)).run Tryz.prog w = .ok (.tuple #[.int .i64 (getN L k), .int .i64 st]) (putObj w m (.map es1 clk1))) ∧
    (∀ w : World, obj w m = some (.map es clk) → (Instr.lookup 85 (.map (some m)) (.agg (idL k).toArray) false).run Tryz.prog w = .ok (.int .i64 (getN L k)) w) ∧
    (∀ w : World, obj w m = some (.map es1 clk1) → (Instr.lookup 85 (.map (some m)) (.agg (idL k).toArray) false).run Tryz.prog w = .ok (.int .i64 (getN L k)) w) ∧
    (∀ w : World, obj w m = some (.map es1 clk1) → (Instr.entryStore 85 (.map (some m)) (.int .i64 st) (.int .i64 n)).run Tryz.prog w = .ok () (putObj w m (.map es' clk'))) ∧
    (∀ w : World, obj w m = some (.map es' clk') → MapB w m idV nV (kPut k n L)) := by
  obtain ⟨es, clk, h1, h2, h3⟩ := h
  obtain ⟨st, es1, clk1, es', clk', g1, g2, g3, g4, g5, g6⟩ := run_entry_b (P := Tryz.prog) (t := 85) (kt := 32) (et := 2) keyOK32 Tryz.underlying85 (enc := nV) (vz := 0) (fun u => by kernel_rfl) h2 h3 m k n
  exact ⟨es, clk, st, es1, clk1, es', clk', h1, g1, g2, g3, g4, fun w hw => ⟨es', clk', hw, g5, g6⟩⟩
theorem putObj_put (w : World) (m : Nat) (a b : Obj) : putObj (putObj w m a) m b = putObj w m b := by
  unfold putObj
  simp
/-- stakes: what it hands back -/
def RetStk (w : World) (L : List (ID × Int)) (e : Ending) (w' : World) : Prop := ∃ mp, e = .returned (.map (some mp)) ∧ MapB w' mp idV nV L ∧ Below w.heap.size w w'
set_option maxRecDepth 100000 in
set_option maxHeartbeats 4000000 in
/-- stakes -/
theorem stakes_any (w : World) (v : Value) (l : List Vd) (d : FrD) (m : FrM) (hl : SlIn w v 2 vdL l) (h : FrAt w d m) (hs : FrSm m) :
    Calls Tryz.prog 57 #[v, frV d] w (RetStk w (stkL l m)) := by
  have hb0 : Below w.heap.size w ((w.alloc (.cells (frC d) 27)).alloc (.map #[] 0)) := ((Below.refl _ w).alloc (Nat.le_refl _) _).alloc (by simp) _
  have ob : obj ((w.alloc (.cells (frC d) 27)).alloc (.map #[] 0)) w.heap.size = some (.cells (frC d) 27 (0, 0)) := (obj_alloc_past _ _ _ (by simp)).trans (fr_box w d)
  have om : MapB ((w.alloc (.cells (frC d) 27)).alloc (.map #[] 0)) (w.heap.size + 1) idV nV [] := MapB.made_at _ (by simp) _ _
  have hz : ((w.alloc (.cells (frC d) 27)).alloc (.map #[] 0)).heap.size = w.heap.size + 2 := by simp
  have HM0 := Lib.hid (may_any _ v l d m (hl.below hb0) (h.below hb0) (by have := hs.op; omega) (by have := hs.tips; omega) hs.said (fun s hx => by have := hs.ids s hx; omega))
  have HL := Lib.hid hl
  obtain ⟨la, lc, rfl, -, hlm, hl3⟩ := hl
  have HL3 := Lib.hid hl3
  clear hl3
  have HF := Lib.hid h
  have HS := Lib.hid hs
  have HME : Hid (mayE l m = if mayB l m = true then 0 else 210) := Lib.hid rfl
  have HSK : Hid (stkL l m = if mayB l m = true then stAll l [] m.said else []) := Lib.hid rfl
  generalize mayE l m = E at *
  generalize stkL l m = T at *
  obtain ⟨dp, doa, don, doc, dta, dtn, dtc, dsa, dsn, dsc⟩ := d
  have B0 := Lib.hid hb0
  have OB := Lib.hid ob
  have OM := Lib.hid om
  have HZ := Lib.hid hz
  clear hb0 ob om hz h hs
  unfold maxLen at hlm
  have x0 := cell_at OB.out 0
  have x1 := cell_at OB.out 1
  have x2 := cell_at OB.out 2
  have x3 := cell_at OB.out 3
  simp at x0 x1 x2 x3
  have hmk : ∀ w : World, (Instr.makeMap 85 none).run Tryz.prog w = .ok (.map (some w.heap.size)) (w.alloc (.map #[] 0)) := fun w => by kernel_rfl
  go_enter Tryz.func57, Tryz.ntmps57
  go_wp2_with fail
  generalize (w.alloc (.cells (frC ⟨dp, doa, don, doc, dta, dtn, dtc, dsa, dsn, dsc⟩) 27)).alloc (.map #[] 0) = w1 at *
  clear x0 x1 x2 x3
  have hz := HZ.out
  refine HM0.out.mono ?_
  rintro e w2 ⟨rfl, b2⟩
  have hz2 := b2.size
  have OB2 := Lib.hid ((obj_below b2 (lt_of_obj OB.out)).trans OB.out)
  have OM2 := Lib.hid (OM.out.of_obj (obj_below b2 OM.out.lt))
  have B2 : Hid (Below w.heap.size w w2) := Lib.hid (B0.out.trans (b2.mono (by omega)))
  clear HM0 b2 OB OM B0
  cases hmb : mayB l m with
  | false =>
    obtain rfl : T = [] := by rw [HSK.out, hmb]; rfl
    obtain rfl : E = 210 := by rw [HME.out, hmb]; rfl
    go_wp2_with fail
    go_ret
    exact ⟨_, rfl, OM2.out, B2.out⟩
  | true =>
    obtain rfl : T = stAll l [] m.said := by rw [HSK.out, hmb]; rfl
    obtain rfl : E = 0 := by rw [HME.out, hmb]; rfl
    have HMB := Lib.hid hmb
    clear HSK HME hmb
    obtain ⟨rows, hrow, hat⟩ := HF.out.said
    have hrn := hrow.n
    obtain ⟨sa', sc', e', g1, g2, g3⟩ := hrow
    simp only at hrn e'
    injection e' with e1 e2 e3
    subst e1 e2 e3
    unfold maxLen at g2
    have G3 := Lib.hid g3
    have HAT := Lib.hid hat
    clear g3 hat hrn
    have x3 := cell_at OB2.out 3
    simp at x3
    have hbx2 := lt_of_obj OB2.out
    have hml2 := OM2.out.lt
    go_wp2_with fail
    go_loopw [7, 9, 19, 24, 25, 26] (fun _ _ v19 _ _ _ wr => ∃ k : Nat, k ≤ rows.length ∧ v19 = .int .i64 k ∧ Hid (MapB wr (w.heap.size + 1) idV nV (stAll l [] (m.said.take k))) ∧ Hid (Below w.heap.size w wr) ∧ Hid (w.heap.size + 2 ≤ wr.heap.size)) (fun _ _ i _ _ _ _ => rows.length - (intOf i).toNat)
    case atStart => exact ⟨0, Nat.zero_le _, rfl, OM2, B2, Lib.hid (by omega)⟩
    case round =>
      clear OM2 B2
      obtain ⟨k, hk, rfl, HM, HB, HSZ⟩ := hrel
      have hzr := HSZ.out
      by_cases hlt : k < rows.length
      case neg =>
        have hk' : k = rows.length := by omega
        have HME := Lib.hid HM.out
        rw [List.take_of_length_le (by rw [← HAT.out.1]; omega)] at HME
        go_wp2_with fail
        go_ret
        exact ⟨_, rfl, HME.out, HB.out⟩
      have hks : k < m.said.length := by have := HAT.out.1; omega
      obtain ⟨b, off, rfl, hbb, hrow⟩ := G3.out (by omega)
      have hs1 := hrow k hlt
      rw [← obj_below HB.out hbb] at hs1
      have hbl : b < wr.heap.size := by omega
      have hra := HAT.out.2 k rows[k] m.said[k] (List.getElem?_eq_getElem hlt) (List.getElem?_eq_getElem hks)
      have HFIT := Lib.hid (fun j hj => step_fits HMB.out hks (j := j) hj)
      have HSN := Lib.hid ((mayB_said HMB.out).2.2.1 m.said[k] (List.getElem_mem hks))
      have HTK : Hid (stAll l [] (m.said.take (k + 1)) = stIds (wtAt l m.said[k].node) (stAll l [] (m.said.take k)) m.said[k].ids) := Lib.hid (by
        rw [List.take_succ_eq_append_getElem hks, stAll_snoc])
      generalize rows[k] = r at *
      generalize m.said[k] = s at *
      generalize stAll l [] (m.said.take k) = Lk at *
      obtain ⟨rn, roa, rln, rcap⟩ := r
      obtain ⟨sn, sids⟩ := s
      obtain ⟨hr1, hr2⟩ := hra
      simp only at hr1 hr2 HTK HFIT HSN
      subst hr1
      have c0 : wr.cell? ⟨b, off + k * 2, none⟩ = some (.int .i64 rn) := by have := subOf_cell hs1 (j := 0) (by decide); simpa [sdL] using this
      have c1 : wr.cell? ⟨b, off + k * 2 + 1, none⟩ = some (.slice roa rln rcap) := by have := subOf_cell hs1 (j := 1) (by decide); simpa [sdL] using this
      have HSI := Lib.hid hr2
      clear hrow hs1 hr2
      have BA : Hid (Below wr.heap.size wr (wr.alloc (.cells #[.int .i64 rn, .slice roa rln rcap] 42))) := Lib.hid ((Below.refl _ _).alloc (Nat.le_refl _) _)
      have OA : Hid (obj (wr.alloc (.cells #[.int .i64 rn, .slice roa rln rcap] 42)) wr.heap.size = some (.cells #[.int .i64 rn, .slice roa rln rcap] 42 (0, 0))) := Lib.hid (obj_alloc_at _ _ _ rfl)
      have HMA := Lib.hid (HM.out.of_obj (obj_below BA.out HM.out.lt))
      have BW : Hid (Below w.heap.size w (wr.alloc (.cells #[.int .i64 rn, .slice roa rln rcap] 42))) := Lib.hid (HB.out.alloc (by omega) _)
      have hzw : (wr.alloc (.cells #[.int .i64 rn, .slice roa rln rcap] 42)).heap.size = wr.heap.size + 1 := by simp
      obtain ⟨sa2, sc2, e2, q1, q2, q3⟩ := HSI.out
      injection e2 with e2 e3 e4
      subst e2 e3 e4
      have Q3 := Lib.hid q3
      unfold maxLen at q2
      clear q3
      have hki : (k : Int) < rows.length := by omega
      go_wp2_with fail
      have OSA : Hid (obj (wr.alloc (.cells #[.int .i64 rn, .slice roa sids.length rcap] 42)) wr.heap.size = some (.cells #[.int .i64 rn, .slice roa sids.length rcap] 42 (0, 0))) := OA
      have HZA : Hid (w.heap.size + 3 ≤ (wr.alloc (.cells #[.int .i64 rn, .slice roa sids.length rcap] 42)).heap.size ∧ wr.heap.size < (wr.alloc (.cells #[.int .i64 rn, .slice roa sids.length rcap] 42)).heap.size) := Lib.hid (by omega)
      generalize wr.alloc (.cells #[.int .i64 rn, .slice roa sids.length rcap] 42) = wa at *
      generalize hbs : wr.heap.size = bs at *
      have hbs2 : w.heap.size + 2 ≤ bs := by omega
      obtain ⟨q, rfl⟩ : ∃ q : Nat, rn = q := ⟨rn.toNat, by have := HSN.out.1; omega⟩
      have hql : q < l.length := by have := HSN.out.2; omega
      obtain ⟨bl, ol, rfl, hbll, hlrow⟩ := HL3.out (by omega)
      have hls := hlrow q hql
      have HWT : Hid (wtAt l q = l[q].wt) := Lib.hid (by unfold wtAt; rw [if_neg (by omega)]; simp [List.getElem?_eq_getElem hql])
      have HLC : Hid (w.cell? ⟨bl, ol + q * 2 + 1, none⟩ = some (.int .i64 l[q].wt)) := Lib.hid (by have := subOf_cell hls (j := 1) (by decide); simpa [vdL] using this)
      rw [HWT.out] at HTK HFIT
      generalize l[q].wt = wt at *
      clear hlrow hls HWT
      have hqi : (q : Int) < l.length := by omega
      go_loopw [9, 26] (fun _ v26 wi => ∃ j : Nat, j ≤ sids.length ∧ v26 = .int .i64 j ∧ Hid (MapB wi (w.heap.size + 1) idV nV (stIds wt Lk (sids.take j))) ∧ Hid (obj wi bs = some (.cells #[.int .i64 q, .slice roa sids.length rcap] 42 (0, 0))) ∧ Hid (Below w.heap.size w wi) ∧ Hid (bs < wi.heap.size)) (fun _ i _ => sids.length - (intOf i).toNat)
      case atStart => exact ⟨0, Nat.zero_le _, rfl, HMA, OSA, BW, Lib.hid HZA.out.2⟩
      case round =>
        obtain ⟨j, hj, rfl, HMI, OSI, HBI, HZI⟩ := hrel
        have hzi := HZI.out
        have hmli := HMI.out.lt
        by_cases hjl : j < sids.length
        case neg =>
          have HMN : Hid (MapB wr (w.heap.size + 1) idV nV (stAll l [] (m.said.take (k + 1)))) := Lib.hid (by
            have := HMI.out
            rw [List.take_of_length_le (by omega)] at this
            rw [HTK.out]; exact this)
          go_wp2_with fail
          go_roundw
          case rel => exact ⟨k + 1, by omega, by go_num, HMN, HBI, Lib.hid (by omega)⟩
          case measure => exact meas_step' hlt
        obtain ⟨bi, oi, rfl, hbi, hri⟩ := Q3.out (by omega)
        have hsi := hri j hjl
        rw [← obj_below HBI.out hbi] at hsi
        have hbil : bi < wr.heap.size := by omega
        have hkk : Hid (stIds wt Lk (sids.take (j + 1)) = kPut sids[j] (getN (stIds wt Lk (sids.take j)) sids[j] + wt) (stIds wt Lk (sids.take j))) := Lib.hid (by rw [List.take_succ_eq_append_getElem hjl, stIds_snoc])
        have hfit := HFIT.out j hjl
        generalize sids[j] = x at *
        generalize stIds wt Lk (sids.take j) = Lj at *
        have hwr : IntKind.i64.wrap (getN Lj x + wt) = getN Lj x + wt := by simp [IntKind.wrap, IntKind.signed, IntKind.bits]; omega
        have o9 : obj (wr.alloc (.cells (idL x).toArray 32)) wr.heap.size = some (.cells (idL x).toArray 32 (0, 0)) := obj_alloc_at _ _ _ rfl
        have p9 : subOf (obj (wr.alloc (.cells (idL x).toArray 32)) wr.heap.size) 0 32 = some (idL x).toArray := by rw [o9, subOf_cells (by simp), subA_all (by simp)]
        have BI : Hid (Below wr.heap.size wr (wr.alloc (.cells (idL x).toArray 32))) := Lib.hid ((Below.refl _ _).alloc (Nat.le_refl _) _)
        have HMB2 := Lib.hid (HMI.out.of_obj (obj_below BI.out hmli))
        have OS2 := Lib.hid ((obj_below BI.out hzi).trans OSI.out)
        have HBW : Hid (Below w.heap.size w (wr.alloc (.cells (idL x).toArray 32))) := Lib.hid (HBI.out.alloc (by omega) _)
        have n0 := cell_at OS2.out 0
        have n1 : (wr.alloc (.cells (idL x).toArray 32)).cell? ⟨bl, ol + q * 2 + 1, none⟩ = some (.int .i64 wt) := (HBW.out.cell (p := ⟨bl, ol + q * 2 + 1, none⟩) hbll).trans HLC.out
        have hml2 : w.heap.size + 1 < (wr.alloc (.cells (idL x).toArray 32)).heap.size := by simp; omega
        have hzz : (wr.alloc (.cells (idL x).toArray 32)).heap.size = wr.heap.size + 1 := by simp
        have HZ2 : Hid (bs < (wr.alloc (.cells (idL x).toArray 32)).heap.size) := Lib.hid (by omega)
        obtain ⟨es, clk, st, es1, clk1, es', clk', f0, f1, f2, f3, f4, f5⟩ := entry76 _ (w.heap.size + 1) Lj x (getN Lj x + wt) HMB2.out
        have hji : (j : Int) < sids.length := by omega
        simp at n0
        clear hfit hri
        go_wp2_with fail
        generalize hbx : wr.heap.size = bx at *
        generalize wr.alloc (.cells (idL x).toArray 32) = wr2 at *
        have hne : w.heap.size + 1 ≠ bx := by omega
        have hne2 : w.heap.size + 1 ≠ bs := by omega
        have hne3 : w.heap.size + 1 ≠ bl := by omega
        have f0' : obj (putObj wr2 (w.heap.size + 1) (.map es1 clk1)) (w.heap.size + 1) = some (.map es1 clk1) := obj_putObj_eq _ _ _ hml2
        have e0 : obj (putObj wr2 (w.heap.size + 1) (.map es1 clk1)) bx = obj wr2 bx := obj_putObj_ne _ _ _ _ (Ne.symm hne)
        have p9' := p9
        rw [← e0] at p9'
        have n0' : (putObj wr2 (w.heap.size + 1) (.map es1 clk1)).cell? ⟨bs, 0, none⟩ = some (.int .i64 q) := by rw [cell_putObj_ne (h := Ne.symm hne2)]; exact n0
        have n1' : (putObj wr2 (w.heap.size + 1) (.map es1 clk1)).cell? ⟨bl, ol + q * 2 + 1, none⟩ = some (.int .i64 wt) := by rw [cell_putObj_ne (h := Ne.symm hne3)]; exact n1
        have HF := Lib.hid (f5 (putObj wr2 (w.heap.size + 1) (.map es' clk')) (obj_putObj_eq _ _ _ hml2))
        have HPP := putObj_put wr2 (w.heap.size + 1) (.map es1 clk1) (.map es' clk')
        have OSN : Hid (obj (putObj wr2 (w.heap.size + 1) (.map es' clk')) bs = some (.cells #[.int .i64 q, .slice (some ⟨bi, oi, none⟩) sids.length rcap] 42 (0, 0))) := Lib.hid ((obj_putObj_ne _ _ _ _ (Ne.symm hne2)).trans OS2.out)
        clear o9 e0 f5
        go_region
        go_wp2
        go_roundw
        case rel => exact ⟨j + 1, by omega, by go_num, by rw [hkk.out]; exact HF, OSN, Lib.hid (below_putObj HBW.out (by omega) _).drew, by have := HZ2.out; exact Lib.hid (by simpa using this)⟩
        case measure => first | exact meas_step' hjl | (simp [intOf]; omega)
end Go.Proofs.YtmgpfmgmpmkkaaaGreat
