import Derived.Test.YtmgpfmgmpmkkaaaGreatWide
import Derived.Deep.RegionHeld3
import Derived.Test.YtmgpfmgmpmkkaaaGreatAcc
import Derived.Test.YtmgpfmgmpmkkaaaGreatApp
import Derived.Test.YtmgpfmgmpmkkaaaGreatRefF
import Derived.Test.YtmgpfmgmpmkkaaaGreatLivP
import Derived.Test.YtmgpfmgmpmkkaaaGreatRefM
import Derived.Test.YtmgpfmgmpmkkaaaGreatRefN
import Derived.Test.YtmgpfmgmpmkkaaaGreatFewF
import Derived.Test.YtmgpfmgmpmkkaaaGreatLiv
namespace Go.Proofs.YtmgpfmgmpmkkaaaGreat

/-! ### a region that draws and ends in a store: what is asked of the world is asked ahead of that store alone -/
section
variable {P : Program} {ops : Array Oper} {Q : Exit → Act → World → Prop} {md : Region.Mode} {S : World → Prop} {t : Nat}
def wpAnyT (P : Program) (md : Region.Mode) (ops : Array Oper) (Q : Exit → Act → World → Prop) (S : World → Prop) (t : Nat) : Nat → Array Bool → Act → World → Prop
  | 0, listed, a, w => Region.ready md ops listed = [] ∧ Q .normal a w
  | fuel + 1, listed, a, w =>
    (Region.ready md ops listed = [] → Q .normal a w) ∧
    ∀ i ∈ Region.ready md ops listed, wpOp P ops Q i (fun a' w' => (i = t ∨ S w') ∧ wpAnyT P md ops Q S t fuel (listed.setIfInBounds i true) a' w') a w
theorem wpAny_of_T : ∀ (fuel : Nat) (listed : Array Bool) (a : Act) (w : World), wpAnyT P md ops Q S t fuel listed a w → wpAny P md ops Q fuel listed a w
  | 0, _, _, _, h => h
  | fuel + 1, _, _, _, h => ⟨h.1, fun i hi => wpOp_mono (fun a' w' h' => wpAny_of_T fuel _ a' w' h'.2) (h.2 i hi)⟩
/-- number t waits for number i -/
def waitsB (md : Region.Mode) (ops : Array Oper) (t i : Nat) : Bool :=
  match ops[t]? with
  | some o => o.after.any fun e => Region.binds md e && decide (e.on = i)
  | none => false
theorem waits_not {i : Nat} {o : Oper} (h : waitsB md ops t i = true) (ho : ops[t]? = some o) (hn : ∀ e ∈ o.after, Region.binds md e = true → e.on ≠ i) : False := by
  unfold waitsB at h
  rw [ho] at h
  simp only [Array.any_eq_true] at h
  obtain ⟨k, hk, h⟩ := h
  simp only [Bool.and_eq_true, decide_eq_true_eq] at h
  exact hn _ (Array.getElem_mem hk) h.1 h.2
theorem wpAnyT_first {i : Nat} {oi : Oper} {v : Value} (hi : ops[i]? = some oi) (hsel : ∀ (j : Nat) (o : Oper) cs b, ops[j]? = some o → o.op ≠ .select cs b)
    (hwt : waitsB md ops t i = true) (hQ : ∀ c a w, Q (.panic c) (a.put oi.dst v) w → Q (.panic c) a w) :
    ∀ (fuel : Nat) (listed : Array Bool) (a : Act) (w : World),
      (∀ j oj, ops[j]? = some oj → j ≠ i → listed.getD j true = false → (∀ e ∈ oj.after, Region.binds md e = true → e.on ≠ i) → oi.apart ops oj = true) →
      i ∈ Region.ready md ops listed → YieldsIf P ops S oi v a → S w →
      wpAnyT P md ops Q S t fuel (listed.setIfInBounds i true) (a.put oi.dst v) w → wpAnyT P md ops Q S t (fuel + 1) listed a w := by
  intro fuel
  induction fuel with
  | zero =>
    intro listed a w _ hr hy hS H
    refine ⟨fun h => (by rw [h] at hr; cases hr), fun j hj => ?_⟩
    by_cases hji : j = i
    · subst hji; exact hy.wpOp hi hS ⟨.inr hS, H⟩
    · have := ready_mono hj hji
      rw [H.1] at this
      cases this
  | succ fuel ih =>
    intro listed a w hfree hr hy hS H
    refine ⟨fun h => (by rw [h] at hr; cases hr), fun j hj => ?_⟩
    by_cases hji : j = i
    · subst hji; exact hy.wpOp hi hS ⟨.inr hS, H⟩
    · have h1 := H.2 j (ready_mono hj hji)
      obtain ⟨hjun, oj, hoj, hall⟩ := mem_ready.1 hj
      have hnot : ∀ e ∈ oj.after, Region.binds md e = true → e.on ≠ i := fun e he hb heq => by
        have h1 := hall e he hb
        have h0 := (mem_ready.1 hr).1
        rw [heq] at h1
        rcases Nat.lt_or_ge i listed.size with h' | h'
        · simp [h'] at h0 h1; rw [h0] at h1; cases h1
        · simp [Array.getElem?_eq_none h'] at h1
      have hjt : j ≠ t := fun e => by subst e; exact waits_not hwt hoj hnot
      have h2 := wpOp_putIf hoj (hfree j oj hoj hji hjun hnot) (fun cs b => hsel i oi cs b hi) (fun cs b => hsel j oj cs b hoj) hQ hy h1
      have hfree' : ∀ k ok, ops[k]? = some ok → k ≠ i → (listed.setIfInBounds j true).getD k true = false →
          (∀ e ∈ ok.after, Region.binds md e = true → e.on ≠ i) → oi.apart ops ok = true := fun k ok hk hki hun hno => by
        refine hfree k ok hk hki ?_ hno
        by_cases hjk : j = k
        · subst hjk; exact hjun
        · rw [getD_set_ne true hjk] at hun; exact hun
      refine wpOp_mono (fun a' w' h3 => ?_) h2
      have hS' : S w' := h3.2.1.resolve_left hjt
      refine ⟨.inr hS', ih (listed.setIfInBounds j true) a' w' hfree' (ready_mono hr (Ne.symm hji)) h3.1 hS' ?_⟩
      rw [Array.setIfInBounds_comm _ _ hji]
      exact h3.2.2
theorem wpAnyT_take {i : Nat} {oi : Oper} {v : Value} {fuel : Nat} {listed : Array Bool} {a : Act} {w : World} (hi : ops[i]? = some oi)
    (hs : Region.noSelect ops = true) (hf : Region.free md ops listed i = true) (hr : (Region.ready md ops listed).contains i = true) (hwt : waitsB md ops t i = true)
    (hQ : ∀ c a w, Q (.panic c) (a.put oi.dst v) w → Q (.panic c) a w) (hy : YieldsIf P ops S oi v a) (hS : S w)
    (h : wpAnyT P md ops Q S t fuel (listed.setIfInBounds i true) (a.put oi.dst v) w) : wpAnyT P md ops Q S t (fuel + 1) listed a w :=
  wpAnyT_first hi (Region.noSelect_spec hs) hwt hQ fuel listed a w (Region.free_spec hi hf) (by simpa using hr) hy hS h
def AllReadyT (P : Program) (md : Region.Mode) (ops : Array Oper) (Q : Exit → Act → World → Prop) (S : World → Prop) (t fuel : Nat) (listed : Array Bool) (a : Act) (w : World) (rs : List Nat) : Prop :=
  ∀ i ∈ rs, wpOp P ops Q i (fun a' w' => (i = t ∨ S w') ∧ wpAnyT P md ops Q S t fuel (listed.setIfInBounds i true) a' w') a w
theorem AllReadyT.nil {fuel : Nat} {listed : Array Bool} {a : Act} {w : World} : AllReadyT P md ops Q S t fuel listed a w [] := fun _ h => by cases h
theorem AllReadyT.cons {fuel : Nat} {listed : Array Bool} {a : Act} {w : World} {i : Nat} {o : Oper} {rs : List Nat} (ho : ops[i]? = some o)
    (h : ∀ K' : Act → World → Prop, Shut (∀ a w, (i = t ∨ S w) → wpAnyT P md ops Q S t fuel (listed.setIfInBounds i true) a w → K' a w) → if Region.wanted o (yielded ops a.tmps) = true then Oper.wp P o a w K' Q else K' (a.put o.dst undef) w)
    (hs : AllReadyT P md ops Q S t fuel listed a w rs) : AllReadyT P md ops Q S t fuel listed a w (i :: rs) := fun j hj => by
  rcases List.mem_cons.1 hj with rfl | hj
  · exact wpOp_step ho (fun K' hK => h K' (fun a w hS hW => hK a w ⟨hS, hW⟩))
  · exact hs j hj
theorem wpAnyT_ready {rs : List Nat} {fuel : Nat} {listed : Array Bool} {a : Act} {w : World} (hr : Region.ready md ops listed = rs) (hne : rs ≠ [])
    (h : AllReadyT P md ops Q S t fuel listed a w rs) : wpAnyT P md ops Q S t (fuel + 1) listed a w :=
  ⟨fun h0 => absurd (hr ▸ h0) hne, hr ▸ h⟩
theorem wpAnyT_done {listed : Array Bool} {a : Act} {w : World} (hr : Region.ready md ops listed = []) (h : Q .normal a w) :
    ∀ fuel, wpAnyT P md ops Q S t fuel listed a w
  | 0 => ⟨hr, h⟩
  | _ + 1 => ⟨fun _ => h, by rw [hr]; simp⟩
/-- the beginning: t is the store that ends it -/
theorem wp_region_heldT {id : Nat} {a : Act} {w : World} (t : Nat) (S : World → Prop) (hm : P.follows .mixedOrders = true)
    (h : wpAnyT P .any ops Q S t ops.size (Array.replicate ops.size false) a w.drew) : (Code.region id ops true).wp P Q a w :=
  wp_region_any hm (wpAny_of_T _ _ _ _ h)
theorem yieldsIf_mv {op : Oper} {a : Act} {v : Value} (hw : Region.wanted op (yielded ops a.tmps) = true) (x : Operand) (ho : op.op = .move x) (hv : a.eval x = v) : YieldsIf P ops S op v a :=
  hv ▸ yieldsIf_move hw x ho
end
end Go.Proofs.YtmgpfmgmpmkkaaaGreat
namespace Go.Proofs.YtmgpfmgmpmkkaaaGreat
open Go.RowKit Go.Shelf Go.Sort

section
variable {ops : Array Oper} {o : Oper} {a : Act} {w : World} {Q : Exit → Act → World → Prop}
theorem pushAll23 {rest : List Oper} (hgd : o.guard = none) (s x : Operand) (ho : o.op = .call { callee := .builtin .append, args := #[s, x], argTypes := #[23, 23] })
    (base : Nat) (v : Value) (xs ys : List Int) (hs : a.eval s = v) (hown : OwnS w base 3 1 intL v xs) (sv : Value) (hx : a.eval x = sv) (hsl : SlIn w sv 1 intL ys) (hlen : xs.length + ys.length ≤ 1048577) (hbase : base ≤ w.heap.size)
    (h : ∀ v' w', OwnS w' base 3 1 intL v' (xs ++ ys) → Below base w w' → (∀ k, k < w.heap.size → v.ownBlock ≠ some k → obj w' k = obj w k) → wpList Tryz.prog ops Q rest (a.put o.dst v') w') : wpList Tryz.prog ops Q (o :: rest) a w := by
  obtain ⟨i0, hi, hz0, hz1, hz2⟩ := info_parts info3
  exact wpList_pushAll (z := .int .i64 0) (bytes := 8) Tryz.underlying23 hi hz0 hz1 hz2 (by simp [Value.cells]) (by decide) intL_length intL_one hgd s x ho base v xs ys hs hown sv hx hsl hlen (by decide) hbase h
theorem pushAll24 {rest : List Oper} (hgd : o.guard = none) (s x : Operand) (ho : o.op = .call { callee := .builtin .append, args := #[s, x], argTypes := #[24, 24] })
    (base : Nat) (v : Value) (xs ys : List ID) (hs : a.eval s = v) (hown : OwnS w base 32 32 idL v xs) (sv : Value) (hx : a.eval x = sv) (hsl : SlIn w sv 32 idL ys) (hlen : xs.length + ys.length ≤ 1048577) (hbase : base ≤ w.heap.size)
    (h : ∀ v' w', OwnS w' base 32 32 idL v' (xs ++ ys) → Below base w w' → (∀ k, k < w.heap.size → v.ownBlock ≠ some k → obj w' k = obj w k) → wpList Tryz.prog ops Q rest (a.put o.dst v') w') : wpList Tryz.prog ops Q (o :: rest) a w := by
  obtain ⟨i0, hi, hz0, hz1, hz2⟩ := info_parts info45
  exact wpList_pushAll (bytes := 32) Tryz.underlying24 hi hz0 hz1 hz2 (by simp [Value.cells]) (by decide) idL_length idL_one hgd s x ho base v xs ys hs hown sv hx hsl hlen (by decide) hbase h
theorem step24 {K : Act → World → Prop} {Z : Prop} (hgd : o.guard = none) (s x : Operand) (ho : o.op = .call { callee := .builtin .append, args := #[s, x], argTypes := #[24, 24] })
    (base : Nat) (v : Value) (xs ys : List ID) (hs : a.eval s = v) (hown : OwnS w base 32 32 idL v xs) (sv : Value) (hx : a.eval x = sv) (hsl : SlIn w sv 32 idL ys) (hlen : xs.length + ys.length ≤ 1048577) (hbase : base ≤ w.heap.size)
    (h : ∀ v' w', OwnS w' base 32 32 idL v' (xs ++ ys) → Below base w w' → (∀ k, k < w.heap.size → v.ownBlock ≠ some k → obj w' k = obj w k) → K (a.put o.dst v') w') : if Region.wanted o (yielded ops a.tmps) = true then Oper.wp Tryz.prog o a w K Q else Z := by
  obtain ⟨i0, hi, hz0, hz1, hz2⟩ := info_parts info45
  exact step_pushAll (bytes := 32) Tryz.underlying24 hi hz0 hz1 hz2 (by simp [Value.cells]) (by decide) idL_length idL_one hgd s x ho base v xs ys hs hown sv hx hsl hlen (by decide) hbase h
theorem step25 {K : Act → World → Prop} {Z : Prop} (hgd : o.guard = none) (s x : Operand) (ho : o.op = .call { callee := .builtin .append, args := #[s, x], argTypes := #[25, 25] })
    (base : Nat) (v : Value) (xs ys : List SdD) (hs : a.eval s = v) (hown : OwnS w base 42 2 sdL v xs) (sv : Value) (hx : a.eval x = sv) (hsl : SlIn w sv 2 sdL ys) (hlen : xs.length + ys.length ≤ 1048577) (hbase : base ≤ w.heap.size)
    (h : ∀ v' w', OwnS w' base 42 2 sdL v' (xs ++ ys) → Below base w w' → (∀ k, k < w.heap.size → v.ownBlock ≠ some k → obj w' k = obj w k) → K (a.put o.dst v') w') : if Region.wanted o (yielded ops a.tmps) = true then Oper.wp Tryz.prog o a w K Q else Z := by
  obtain ⟨i0, hi, hz0, hz1, hz2⟩ := info_parts info56
  exact step_pushAll (bytes := 32) Tryz.underlying25 hi hz0 hz1 hz2 (by simp [Value.cells]) (by decide) sdL_length sdL_one hgd s x ho base v xs ys hs hown sv hx hsl hlen (by decide) hbase h
end
theorem below_of_nil {w w' : World} (q2 : Below w.heap.size w w') : Below w.heap.size w w' := q2
set_option maxRecDepth 100000 in
set_option maxHeartbeats 8000000 in
/-- the reference's Clone -/
theorem cloneR_any (w : World) (d : FrD) (m : FrM) (h : FrAt w d m) (hs : FrSm m) :
    Calls Tryz.prog 8 #[frV d] w fun e w' => ∃ d', e = .returned (frV d') ∧ FrOwn w' w.heap.size d' m ∧ Below w.heap.size w w' := by
  have hb0 : Below w.heap.size w ((w.alloc (.cells (frC d) 27)).alloc (.cells #[.int .i64 0, .slice none 0 0, .slice none 0 0, .slice none 0 0] 27)) := ((Below.refl _ w).alloc (Nat.le_refl _) _).alloc (by simp) _
  have ob : obj ((w.alloc (.cells (frC d) 27)).alloc (.cells #[.int .i64 0, .slice none 0 0, .slice none 0 0, .slice none 0 0] 27)) w.heap.size = some (.cells (frC d) 27 (0, 0)) := (obj_alloc_past _ _ _ (by simp)).trans (fr_box w d)
  have orr : obj ((w.alloc (.cells (frC d) 27)).alloc (.cells #[.int .i64 0, .slice none 0 0, .slice none 0 0, .slice none 0 0] 27)) (w.heap.size + 1) = some (.cells #[.int .i64 0, .slice none 0 0, .slice none 0 0, .slice none 0 0] 27 (0, 0)) := obj_alloc_at _ _ _ (by simp)
  have hz : ((w.alloc (.cells (frC d) 27)).alloc (.cells #[.int .i64 0, .slice none 0 0, .slice none 0 0, .slice none 0 0] 27)).heap.size = w.heap.size + 2 := by simp
  have HPH := Lib.hid h.phase
  have hon := h.op.n
  have htn := h.tips.n
  obtain ⟨rows, hr, hat⟩ := h.said
  have hrn := hr.n
  have hol := hs.op
  have htl := hs.tips
  have hsl := hs.said
  have HIDS := Lib.hid hs.ids
  have HOP := Lib.hid (h.op.below hb0)
  have HTP := Lib.hid (h.tips.below hb0)
  have HAT := Lib.hid hat
  have HRL : Hid (rows.length = m.said.length) := Lib.hid hat.1
  obtain ⟨dp, doa, don, doc, dta, dtn, dtc, dsa, dsn, dsc⟩ := d
  simp only at hon htn hrn
  subst hon htn hrn
  obtain ⟨oa2, oc2, e1, g1, g2, g3⟩ := hr
  injection e1 with e1 _ e2
  subst e1 e2
  unfold maxLen at g2
  have G3 := Lib.hid g3
  have B0 := Lib.hid hb0
  have OB := Lib.hid ob
  have OR := Lib.hid orr
  have HZ := Lib.hid hz
  have hrl : rows.length ≤ 4096 := by rw [HRL.out]; exact hsl
  clear hb0 ob orr hz hat g3
  have HOW : Hid (∀ W, Below w.heap.size w W → SlIn W (.slice doa m.op.length doc) 1 intL m.op) := Lib.hid (fun W hW => h.op.below hW)
  have HTW : Hid (∀ W, Below w.heap.size w W → SlIn W (.slice dta m.tips.length dtc) 32 idL m.tips) := Lib.hid (fun W hW => h.tips.below hW)
  have hz := HZ.out
  obtain ⟨w1, hw1⟩ : ∃ w1, w1 = (w.alloc (.cells (frC ⟨dp, doa, m.op.length, doc, dta, m.tips.length, dtc, dsa, rows.length, dsc⟩) 27)).alloc (.cells #[.int .i64 0, .slice none 0 0, .slice none 0 0, .slice none 0 0] 27) := ⟨_, rfl⟩
  have HW1 := Lib.hid hw1
  rw [← hw1] at hz OB OR B0 HOP HTP
  clear hw1 HZ
  have OB2 : Hid (obj (w1.alloc (.cells #[.int .i64 dp, .slice none 0 0, .slice none 0 0, .slice none 0 0] 27)) w.heap.size = some (.cells #[.int .i64 dp, .slice doa m.op.length doc, .slice dta m.tips.length dtc, .slice dsa rows.length dsc] 27 (0, 0))) := Lib.hid ((obj_alloc_past w1 _ _ (by omega)).trans OB.out)
  have OR2 : Hid (obj (w1.alloc (.cells #[.int .i64 dp, .slice none 0 0, .slice none 0 0, .slice none 0 0] 27)) (w.heap.size + 1) = some (.cells #[.int .i64 0, .slice none 0 0, .slice none 0 0, .slice none 0 0] 27 (0, 0))) := Lib.hid ((obj_alloc_past w1 _ _ (by omega)).trans OR.out)
  have OX2 : Hid (obj (w1.alloc (.cells #[.int .i64 dp, .slice none 0 0, .slice none 0 0, .slice none 0 0] 27)) (w.heap.size + 2) = some (.cells #[.int .i64 dp, .slice none 0 0, .slice none 0 0, .slice none 0 0] 27 (0, 0))) := Lib.hid (obj_alloc_at _ _ _ (by omega))
  have B2 : Hid (Below w.heap.size w (w1.alloc (.cells #[.int .i64 dp, .slice none 0 0, .slice none 0 0, .slice none 0 0] 27))) := Lib.hid (B0.out.alloc (by omega) _)
  have hz2 : (w1.alloc (.cells #[.int .i64 dp, .slice none 0 0, .slice none 0 0, .slice none 0 0] 27)).heap.size = w.heap.size + 3 := by simp; omega
  have HSZ := Lib.hid hz2
  have x0 := cell_at OB.out 0
  have x1 := cell_at OB2.out 1
  have y1 := cell_at OX2.out 1
  simp at x0 x1 y1
  rw [HW1.out] at *
  clear HW1
  go_enter Tryz.func8, Tryz.ntmps8
  go_wp2_with (first
    | (at_builtin; refine pushAll23 rfl _ _ rfl w.heap.size (.slice none 0 0) [] m.op rfl (OwnS.nil _ _ _ _ _) _ rfl (HOW.out _ B2.out) (by simp; omega) (by rw [hz2]; omega) ?_; intro v3 w3 r1 r2 r3; obtain ⟨a3, c3, e3⟩ := r1.slice; replace e3 : v3 = .slice a3 m.op.length c3 := e3; subst e3; have R1 : Hid (OwnC w3 w.heap.size 3 1 intL (.slice a3 m.op.length c3) m.op) := Lib.hid r1.1; have B3 := Lib.hid (B2.out.trans r2); have OB3 := Lib.hid ((r3 w.heap.size (by omega) (by simp [Value.ownBlock])).trans OB2.out); have OR3 := Lib.hid ((r3 (w.heap.size + 1) (by omega) (by simp [Value.ownBlock])).trans OR2.out); have OX3 := Lib.hid ((r3 (w.heap.size + 2) (by omega) (by simp [Value.ownBlock])).trans OX2.out); have z3 := lt_of_obj OX3.out; have y1' := cell_at OX3.out 1; have f1' := frozen_at OX3.out 1; simp at y1'; clear r1 r2 r3; have OB4 : Hid (obj (w3.setCell ⟨w.heap.size + 2, 1, none⟩ (.slice a3 m.op.length c3)) w.heap.size = some (.cells #[.int .i64 dp, .slice doa m.op.length doc, .slice dta m.tips.length dtc, .slice dsa rows.length dsc] 27 (0, 0))) := Lib.hid ((obj_setCell_ne _ ⟨w.heap.size + 2, 1, none⟩ _ _ (by dsimp only; omega)).trans OB3.out); have OR4 : Hid (obj (w3.setCell ⟨w.heap.size + 2, 1, none⟩ (.slice a3 m.op.length c3)) (w.heap.size + 1) = some (.cells #[.int .i64 0, .slice none 0 0, .slice none 0 0, .slice none 0 0] 27 (0, 0))) := Lib.hid ((obj_setCell_ne _ ⟨w.heap.size + 2, 1, none⟩ _ _ (by dsimp only; omega)).trans OR3.out); have OX4 : Hid (obj (w3.setCell ⟨w.heap.size + 2, 1, none⟩ (.slice a3 m.op.length c3)) (w.heap.size + 2) = some (.cells #[.int .i64 dp, .slice a3 m.op.length c3, .slice none 0 0, .slice none 0 0] 27 (0, 0))) := Lib.hid (obj_setCell_at _ OX3.out); have R4 : Hid (OwnC (w3.setCell ⟨w.heap.size + 2, 1, none⟩ (.slice a3 m.op.length c3)) w.heap.size 3 1 intL (.slice a3 m.op.length c3) m.op) := Lib.hid (R1.out.setBox OX3.out (by decide) 1 (.slice a3 m.op.length c3)); have B4 : Hid (Below w.heap.size w (w3.setCell ⟨w.heap.size + 2, 1, none⟩ (.slice a3 m.op.length c3))) := Lib.hid (B3.out.setCell (by dsimp only; omega) _); have hz4 : (w3.setCell ⟨w.heap.size + 2, 1, none⟩ (.slice a3 m.op.length c3)).heap.size = w3.heap.size := World.size_setCell _ _ _; have u2 := cell_at OX4.out 2; have u3 := cell_at OB4.out 2; simp at u2 u3; clear R1 B3 OB3 OR3)
    | (at_builtin; refine pushAll24 rfl _ _ rfl w.heap.size (.slice none 0 0) [] m.tips rfl (OwnS.nil _ _ _ _ _) _ rfl (HTW.out _ B4.out) (by simp; omega) (by rw [hz4]; omega) ?_; intro v5 w5 s1 s2 s3; obtain ⟨a5, c5, e5⟩ := s1.slice; replace e5 : v5 = .slice a5 m.tips.length c5 := e5; subst e5; have S1 : Hid (OwnC w5 w.heap.size 32 32 idL (.slice a5 m.tips.length c5) m.tips) := Lib.hid s1.1; have B5 := Lib.hid (B4.out.trans s2); have Q5 : Hid (∀ g, g < (w3.setCell ⟨w.heap.size + 2, 1, none⟩ (.slice a3 m.op.length c3)).heap.size → obj w5 g = obj (w3.setCell ⟨w.heap.size + 2, 1, none⟩ (.slice a3 m.op.length c3)) g) := Lib.hid (fun g hg => s3 g hg (by simp [Value.ownBlock])); have OX5 := Lib.hid ((Q5.out (w.heap.size + 2) (by omega)).trans OX4.out); have z5 := lt_of_obj OX5.out; have t1' := cell_at OX5.out 2; have t2' := frozen_at OX5.out 2; simp at t1'; clear s1 s2 s3))
  have R5 := Lib.hid (R4.out.keeps (W := w5) (fun g hg => Q5.out g (R4.out.lt hg).2))
  have OB5 := Lib.hid ((Q5.out w.heap.size (by omega)).trans OB4.out)
  have OR5 := Lib.hid ((Q5.out (w.heap.size + 1) (by omega)).trans OR4.out)
  have OX6 : Hid (obj (w5.setCell ⟨w.heap.size + 2, 2, none⟩ (.slice a5 m.tips.length c5)) (w.heap.size + 2) = some (.cells #[.int .i64 dp, .slice a3 m.op.length c3, .slice a5 m.tips.length c5, .slice none 0 0] 27 (0, 0))) := Lib.hid (by rw [obj_setCell_at _ OX5.out]; rfl)
  have OB6 : Hid (obj (w5.setCell ⟨w.heap.size + 2, 2, none⟩ (.slice a5 m.tips.length c5)) w.heap.size = _) := Lib.hid ((obj_setCell_ne _ ⟨w.heap.size + 2, 2, none⟩ _ _ (by dsimp only; omega)).trans OB5.out)
  have OR6 : Hid (obj (w5.setCell ⟨w.heap.size + 2, 2, none⟩ (.slice a5 m.tips.length c5)) (w.heap.size + 1) = _) := Lib.hid ((obj_setCell_ne _ ⟨w.heap.size + 2, 2, none⟩ _ _ (by dsimp only; omega)).trans OR5.out)
  have R6 := Lib.hid (R5.out.setBox OX5.out (by decide) 2 (.slice a5 m.tips.length c5))
  have S6 := Lib.hid (S1.out.setBox OX5.out (by decide) 2 (.slice a5 m.tips.length c5))
  have B6 : Hid (Below w.heap.size w (w5.setCell ⟨w.heap.size + 2, 2, none⟩ (.slice a5 m.tips.length c5))) := Lib.hid (B5.out.setCell (by dsimp only; omega) _)
  clear R5 OB5 OR5 OX5 S1 B5 Q5 t1' t2' R4 OB4 OR4 OX4 B4 hz4 u2 u3 OX3 z3 y1' f1' x0 x1 y1 OB2 OR2 OX2 B2 hz2 HSZ HOP HTP OB OR B0
  generalize w5.setCell ⟨w.heap.size + 2, 2, none⟩ (.slice a5 m.tips.length c5) = w6 at *
  go_loopw [4, 5] (fun v4 _ wr => ∃ (k : Nat) (a : Option Addr) (c : Nat) (rs : List SdD), k ≤ rows.length ∧ v4 = .int .i64 k ∧ Hid (rs.length = k) ∧ Hid (OwnS wr w.heap.size 42 2 sdL (.slice a k c) rs) ∧ Hid (SdOwn wr w.heap.size rs (m.said.take k)) ∧ Hid (OwnC wr w.heap.size 3 1 intL (.slice a3 m.op.length c3) m.op) ∧ Hid (OwnC wr w.heap.size 32 32 idL (.slice a5 m.tips.length c5) m.tips) ∧ Hid (obj wr w.heap.size = some (.cells #[.int .i64 dp, .slice doa m.op.length doc, .slice dta m.tips.length dtc, .slice dsa rows.length dsc] 27 (0, 0))) ∧ Hid (obj wr (w.heap.size + 1) = some (.cells #[.int .i64 0, .slice none 0 0, .slice none 0 0, .slice none 0 0] 27 (0, 0))) ∧ Hid (obj wr (w.heap.size + 2) = some (.cells #[.int .i64 dp, .slice a3 m.op.length c3, .slice a5 m.tips.length c5, .slice a k c] 27 (0, 0))) ∧ Hid (Below w.heap.size w wr)) (fun i _ _ => rows.length - (intOf i).toNat)
  case atStart => exact ⟨0, none, 0, [], Nat.zero_le _, rfl, Lib.hid rfl, Lib.hid (OwnS.nil _ _ _ _ _), Lib.hid ⟨rfl, fun i r s h => by simp at h⟩, R6, S6, OB6, OR6, OX6, B6⟩
  case round =>
    clear R6 S6 OB6 OR6 OX6 B6
    obtain ⟨k, a, c, rs, hk, rfl, HRS, HO, HSD, HOC, HTC, OB, OR, OX, HB⟩ := hrel
    have hzr := HB.out.size
    have hbl0 := lt_of_obj OB.out
    have hrl0 := lt_of_obj OR.out
    have hxl0 := lt_of_obj OX.out
    by_cases hlt : k < rows.length
    case neg =>
      obtain rfl : k = rows.length := by omega
      have HSD2 : Hid (SdOwn wr w.heap.size rs m.said) := Lib.hid (by have := HSD.out; rwa [List.take_of_length_le (by rw [HRL.out]; exact Nat.le_refl _)] at this)
      have HOO : Hid (OwnC wr w.heap.size 42 2 sdL (.slice a rows.length c) rs) := Lib.hid HO.out.1
      have HFR : Hid (FrOwn wr w.heap.size ⟨dp, a3, m.op.length, c3, a5, m.tips.length, c5, a, rows.length, c⟩ m) := Lib.hid ⟨HPH.out, HOC.out, HTC.out, rs, HOO.out, HSD2.out⟩
      generalize rows.length = k at *
      have x0 := cell_at OX.out 0
      have x1 := cell_at OX.out 1
      have x2 := cell_at OX.out 2
      have x3 := cell_at OX.out 3
      have u3 := cell_at OB.out 3
      simp at x0 x1 x2 x3 u3
      have y0 := cell_at OR.out 0
      have y1 := cell_at OR.out 1
      have y2 := cell_at OR.out 2
      have y3 := cell_at OR.out 3
      have yf := frozen_at OR.out
      simp at y0 y1 y2 y3 yf
      go_wp2_with fail
      have q := obj_setCell_at (.slice a k c) (i := 3) (obj_setCell_at (.slice a5 m.tips.length c5) (i := 2) (obj_setCell_at (.slice a3 m.op.length c3) (i := 1) (obj_setCell_at (.int .i64 dp) (i := 0) OR.out)))
      have z0 := cell_at q 0
      have z1 := cell_at q 1
      have z2 := cell_at q 2
      have z3 := cell_at q 3
      have HQ := Lib.hid q
      clear q
      simp at z0 z1 z2 z3
      have HFE := Lib.hid ((((HFR.out.setBox OR.out 0 (.int .i64 dp)).setBox (obj_setCell_at (.int .i64 dp) (i := 0) OR.out) 1 (.slice a3 m.op.length c3)).setBox (obj_setCell_at (.slice a3 m.op.length c3) (i := 1) (obj_setCell_at (.int .i64 dp) (i := 0) OR.out)) 2 (.slice a5 m.tips.length c5)).setBox (obj_setCell_at (.slice a5 m.tips.length c5) (i := 2) (obj_setCell_at (.slice a3 m.op.length c3) (i := 1) (obj_setCell_at (.int .i64 dp) (i := 0) OR.out))) 3 (.slice a k c))
      have BE : Hid (Below w.heap.size w ((((wr.setCell ⟨w.heap.size + 1, 0, none⟩ (.int .i64 dp)).setCell ⟨w.heap.size + 1, 1, none⟩ (.slice a3 m.op.length c3)).setCell ⟨w.heap.size + 1, 2, none⟩ (.slice a5 m.tips.length c5)).setCell ⟨w.heap.size + 1, 3, none⟩ (.slice a k c))) := Lib.hid ((((HB.out.setCell (by dsimp only; omega) _).setCell (by dsimp only; omega) _).setCell (by dsimp only; omega) _).setCell (by dsimp only; omega) _)
      generalize (((wr.setCell ⟨w.heap.size + 1, 0, none⟩ (.int .i64 dp)).setCell ⟨w.heap.size + 1, 1, none⟩ (.slice a3 m.op.length c3)).setCell ⟨w.heap.size + 1, 2, none⟩ (.slice a5 m.tips.length c5)).setCell ⟨w.heap.size + 1, 3, none⟩ (.slice a k c) = wE at *
      refine bodyPost_ret (v := frV ⟨dp, a3, m.op.length, c3, a5, m.tips.length, c5, a, k, c⟩) (by simp [results, Tryz.results8, go_sem, z0, z1, z2, z3]) rfl ⟨_, rfl, HFE.out, BE.out⟩
    have hks : k < m.said.length := by have := HRL.out; omega
    obtain ⟨b, off, rfl, hbb, hrow⟩ := G3.out (by omega)
    have hs1 := hrow k hlt
    have hbw := hbb
    rw [← obj_below HB.out hbw] at hs1
    have hbl : b < wr.heap.size := by omega
    have hra := HAT.out.2 k rows[k] m.said[k] (List.getElem?_eq_getElem hlt) (List.getElem?_eq_getElem hks)
    have hil := HIDS.out m.said[k] (List.getElem_mem hks)
    have HTK : Hid (m.said.take (k + 1) = m.said.take k ++ [m.said[k]]) := Lib.hid (List.take_succ_eq_append_getElem hks)
    generalize rows[k] = r at *
    generalize m.said[k] = sd at *
    obtain ⟨rn, roa, rln, rcap⟩ := r
    obtain ⟨sn, sids⟩ := sd
    obtain ⟨hr1, hr2⟩ := hra
    simp only at hr1 hr2 hil
    subst hr1
    have hrn2 := hr2.n
    subst hrn2
    have c0 : wr.cell? ⟨b, off + k * 2, none⟩ = some (.int .i64 rn) := by have := subOf_cell hs1 (j := 0) (by decide); simpa [sdL] using this
    have c1 : wr.cell? ⟨b, off + k * 2 + 1, none⟩ = some (.slice roa sids.length rcap) := by have := subOf_cell hs1 (j := 1) (by decide); simpa [sdL] using this
    have HSI := Lib.hid (hr2.below HB.out)
    have hki : (k : Int) < rows.length := by omega
    have x3 := cell_at OX.out 3
    have u3 := cell_at OB.out 3
    simp at x3 u3
    clear hrow hs1 hr2
    have HBQ := Lib.hid (fun q => below_drewN (Below.refl wr.heap.size wr) q)
    have OXQ := OX
    go_wp2_with fail
    have HLQ : Hid (∀ (a : Option Addr) (c : Nat) (r : SdD), Value.slice a (rs ++ [r]).length c = .slice a (k + 1) c) := Lib.hid (fun a c r => by rw [List.length_append, HRS.out]; rfl)
    have HNX : Hid ((Value.slice a k c).ownBlock ≠ some (w.heap.size + 2)) := Lib.hid (HO.out.ne OX.out (fun cur h => by injection h with h1 h2; cases h2))
    have HNY : Hid ((Value.slice a k c).ownBlock ≠ some w.heap.size) := Lib.hid (HO.out.ne OB.out (fun cur h => by injection h with h1 h2; cases h2))
    have HNB : Hid ((Value.slice a k c).ownBlock ≠ some b) := Lib.hid (fun e => by have := (HO.out.1.lt _ e).1; omega)
    have hrs : rs.length ≤ 4096 := by have := HRS.out; omega
    have HSC : Hid (∀ wx : World, Keeps (fun n => (Value.slice a k c).ownBlock = some n) wr wx → (wx.cell? ⟨w.heap.size + 2, 3, none⟩ = some (.slice a k c) ∧ wx.cell? ⟨w.heap.size, 3, none⟩ = some (.slice (some ⟨b, off, none⟩) rows.length dsc) ∧ wx.cell? ⟨b, off + k * 2, none⟩ = some (.int .i64 rn) ∧ wx.cell? ⟨b, off + k * 2 + 1, none⟩ = some (.slice roa sids.length rcap))) := Lib.hid (fun wx h => ⟨(World.cell?_of_block (a := ⟨w.heap.size + 2, 3, none⟩) (h.block _ hxl0 HNX.out)).trans x3, (World.cell?_of_block (a := ⟨w.heap.size, 3, none⟩) (h.block _ hbl0 HNY.out)).trans u3, (World.cell?_of_block (a := ⟨b, off + k * 2, none⟩) (h.block _ hbl HNB.out)).trans c0, (World.cell?_of_block (a := ⟨b, off + k * 2 + 1, none⟩) (h.block _ hbl HNB.out)).trans c1⟩)
    have hS : Keeps (fun n => (Value.slice a k c).ownBlock = some n) wr wr.drew := (Keeps.refl _ _).drew
    refine wp_region_heldT 20 (Keeps (fun n => (Value.slice a k c).ownBlock = some n) wr) (by kernel_rfl) ?_
    refine wpAnyT_take (i := 0) (oi := { dst := some 28, op := Op.fieldAddr 27 (Operand.tmp 3) 3, type := 0, pos := _, after := _, guard := none }) (v := (.pointer (some ⟨w.heap.size + 1 + 1, 3, none⟩))) rfl (by kernel_rfl) (by kernel_rfl) (by kernel_rfl) (by kernel_rfl) (fun _ _ _ h => h) (.inl ⟨by kernel_rfl, fun W' hW => by go_simp⟩) hS ?_
    try simp only [Act.put, List.setIfInBounds_toArray, List.set_cons_zero, List.set_cons_succ]
    refine wpAnyT_take (i := 1) (oi := { dst := some 29, op := Op.load 25 (Operand.tmp 28), type := 25, pos := _, after := _, guard := none }) (v := (.slice a k c)) rfl (by kernel_rfl) (by kernel_rfl) (by kernel_rfl) (by kernel_rfl) (fun _ _ _ h => h) (.inl ⟨by kernel_rfl, fun W' hW => by obtain ⟨f1, f2, f3, f4⟩ := HSC.out W' hW; go_simp⟩) hS ?_
    try simp only [Act.put, List.setIfInBounds_toArray, List.set_cons_zero, List.set_cons_succ]
    refine wpAnyT_take (i := 2) (oi := { dst := some 30, op := Op.fieldAddr 27 (Operand.tmp 1) 3, type := 0, pos := _, after := _, guard := none }) (v := (.pointer (some ⟨w.heap.size, 3, none⟩))) rfl (by kernel_rfl) (by kernel_rfl) (by kernel_rfl) (by kernel_rfl) (fun _ _ _ h => h) (.inl ⟨by kernel_rfl, fun W' hW => by go_simp⟩) hS ?_
    try simp only [Act.put, List.setIfInBounds_toArray, List.set_cons_zero, List.set_cons_succ]
    refine wpAnyT_take (i := 3) (oi := { dst := some 31, op := Op.load 25 (Operand.tmp 30), type := 25, pos := _, after := _, guard := none }) (v := (.slice (some ⟨b, off, none⟩) rows.length dsc)) rfl (by kernel_rfl) (by kernel_rfl) (by kernel_rfl) (by kernel_rfl) (fun _ _ _ h => h) (.inl ⟨by kernel_rfl, fun W' hW => by obtain ⟨f1, f2, f3, f4⟩ := HSC.out W' hW; go_simp⟩) hS ?_
    try simp only [Act.put, List.setIfInBounds_toArray, List.set_cons_zero, List.set_cons_succ]
    refine wpAnyT_take (i := 4) (oi := { dst := some 32, op := Op.move (Operand.tmp 4), type := 3, pos := _, after := _, guard := none }) (v := (.int .i64 (k : Int))) rfl (by kernel_rfl) (by kernel_rfl) (by kernel_rfl) (by kernel_rfl) (fun _ _ _ h => h) (yieldsIf_mv (by kernel_rfl) (.tmp 4) (by kernel_rfl) (by kernel_rfl)) hS ?_
    try simp only [Act.put, List.setIfInBounds_toArray, List.set_cons_zero, List.set_cons_succ]
    refine wpAnyT_take (i := 5) (oi := { dst := some 33, op := Op.indexAddr 25 (Operand.tmp 31) (Operand.tmp 32), type := 0, pos := _, after := _, guard := none }) (v := (.pointer (some ⟨b, off + k * 2, none⟩))) rfl (by kernel_rfl) (by kernel_rfl) (by kernel_rfl) (by kernel_rfl) (fun _ _ _ h => h) (.inl ⟨by kernel_rfl, fun W' hW => by go_simp⟩) hS ?_
    try simp only [Act.put, List.setIfInBounds_toArray, List.set_cons_zero, List.set_cons_succ]
    refine wpAnyT_take (i := 6) (oi := { dst := some 34, op := Op.fieldAddr 42 (Operand.tmp 33) 0, type := 0, pos := _, after := _, guard := none }) (v := (.pointer (some ⟨b, off + k * 2, none⟩))) rfl (by kernel_rfl) (by kernel_rfl) (by kernel_rfl) (by kernel_rfl) (fun _ _ _ h => h) (.inl ⟨by kernel_rfl, fun W' hW => by go_simp⟩) hS ?_
    try simp only [Act.put, List.setIfInBounds_toArray, List.set_cons_zero, List.set_cons_succ]
    refine wpAnyT_take (i := 7) (oi := { dst := some 35, op := Op.load 3 (Operand.tmp 34), type := 3, pos := _, after := _, guard := none }) (v := (.int .i64 rn)) rfl (by kernel_rfl) (by kernel_rfl) (by kernel_rfl) (by kernel_rfl) (fun _ _ _ h => h) (.inl ⟨by kernel_rfl, fun W' hW => by obtain ⟨f1, f2, f3, f4⟩ := HSC.out W' hW; go_simp⟩) hS ?_
    try simp only [Act.put, List.setIfInBounds_toArray, List.set_cons_zero, List.set_cons_succ]
    refine wpAnyT_take (i := 8) (oi := { dst := some 36, op := Op.move (Operand.tmp 5), type := 24, pos := _, after := _, guard := none }) (v := (.slice none 0 0)) rfl (by kernel_rfl) (by kernel_rfl) (by kernel_rfl) (by kernel_rfl) (fun _ _ _ h => h) (yieldsIf_mv (by kernel_rfl) (.tmp 5) (by kernel_rfl) (by kernel_rfl)) hS ?_
    try simp only [Act.put, List.setIfInBounds_toArray, List.set_cons_zero, List.set_cons_succ]
    refine wpAnyT_take (i := 9) (oi := { dst := some 37, op := Op.fieldAddr 27 (Operand.tmp 1) 3, type := 0, pos := _, after := _, guard := none }) (v := (.pointer (some ⟨w.heap.size, 3, none⟩))) rfl (by kernel_rfl) (by kernel_rfl) (by kernel_rfl) (by kernel_rfl) (fun _ _ _ h => h) (.inl ⟨by kernel_rfl, fun W' hW => by go_simp⟩) hS ?_
    try simp only [Act.put, List.setIfInBounds_toArray, List.set_cons_zero, List.set_cons_succ]
    refine wpAnyT_take (i := 10) (oi := { dst := some 38, op := Op.load 25 (Operand.tmp 37), type := 25, pos := _, after := _, guard := none }) (v := (.slice (some ⟨b, off, none⟩) rows.length dsc)) rfl (by kernel_rfl) (by kernel_rfl) (by kernel_rfl) (by kernel_rfl) (fun _ _ _ h => h) (.inl ⟨by kernel_rfl, fun W' hW => by obtain ⟨f1, f2, f3, f4⟩ := HSC.out W' hW; go_simp⟩) hS ?_
    try simp only [Act.put, List.setIfInBounds_toArray, List.set_cons_zero, List.set_cons_succ]
    refine wpAnyT_take (i := 11) (oi := { dst := some 39, op := Op.move (Operand.tmp 4), type := 3, pos := _, after := _, guard := none }) (v := (.int .i64 (k : Int))) rfl (by kernel_rfl) (by kernel_rfl) (by kernel_rfl) (by kernel_rfl) (fun _ _ _ h => h) (yieldsIf_mv (by kernel_rfl) (.tmp 4) (by kernel_rfl) (by kernel_rfl)) hS ?_
    try simp only [Act.put, List.setIfInBounds_toArray, List.set_cons_zero, List.set_cons_succ]
    refine wpAnyT_take (i := 12) (oi := { dst := some 40, op := Op.indexAddr 25 (Operand.tmp 38) (Operand.tmp 39), type := 0, pos := _, after := _, guard := none }) (v := (.pointer (some ⟨b, off + k * 2, none⟩))) rfl (by kernel_rfl) (by kernel_rfl) (by kernel_rfl) (by kernel_rfl) (fun _ _ _ h => h) (.inl ⟨by kernel_rfl, fun W' hW => by go_simp⟩) hS ?_
    try simp only [Act.put, List.setIfInBounds_toArray, List.set_cons_zero, List.set_cons_succ]
    refine wpAnyT_take (i := 13) (oi := { dst := some 41, op := Op.fieldAddr 42 (Operand.tmp 40) 1, type := 0, pos := _, after := _, guard := none }) (v := (.pointer (some ⟨b, off + k * 2 + 1, none⟩))) rfl (by kernel_rfl) (by kernel_rfl) (by kernel_rfl) (by kernel_rfl) (fun _ _ _ h => h) (.inl ⟨by kernel_rfl, fun W' hW => by go_simp⟩) hS ?_
    try simp only [Act.put, List.setIfInBounds_toArray, List.set_cons_zero, List.set_cons_succ]
    refine wpAnyT_take (i := 14) (oi := { dst := some 42, op := Op.load 24 (Operand.tmp 41), type := 24, pos := _, after := _, guard := none }) (v := (.slice roa sids.length rcap)) rfl (by kernel_rfl) (by kernel_rfl) (by kernel_rfl) (by kernel_rfl) (fun _ _ _ h => h) (.inl ⟨by kernel_rfl, fun W' hW => by obtain ⟨f1, f2, f3, f4⟩ := HSC.out W' hW; go_simp⟩) hS ?_
    try simp only [Act.put, List.setIfInBounds_toArray, List.set_cons_zero, List.set_cons_succ]
    refine wpAnyT_ready (rs := [15]) (by kernel_rfl) (by simp) (AllReadyT.cons rfl (fun K hK => ?_) AllReadyT.nil)
    refine step24 rfl (.tmp 36) (.tmp 42) rfl wr.heap.size (.slice none 0 0) [] sids rfl (OwnS.nil _ _ _ _ _) _ rfl (HSI.out.below (Below.refl _ _).drew) (by simp; omega) (Nat.le_refl _) ?_
    intro v2 w3 r1 r2 r3
    obtain ⟨a2, c2, e2⟩ := r1.slice
    replace e2 : v2 = .slice a2 sids.length c2 := e2
    subst e2
    have R1 : Hid (OwnC w3 wr.heap.size 32 32 idL (.slice a2 sids.length c2) sids) := Lib.hid r1.1
    have R2 : Hid (Below wr.heap.size wr w3) := Lib.hid ((Below.refl _ _).drew.trans r2)
    have hz3 := R2.out.size
    clear r1 r2 r3
    have hS3 := (Keeps.of_below R2.out : Keeps (fun n => (Value.slice a k c).ownBlock = some n) wr w3)
    refine hK.out _ _ (.inr hS3) ?_
    clear hK K
    try simp only [Act.put, List.setIfInBounds_toArray, List.set_cons_zero, List.set_cons_succ]
    refine wpAnyT_take (i := 16) (oi := { dst := some 44, op := Op.build 42 #[(0, Operand.tmp 35), (1, Operand.tmp 43)], type := 42, pos := _, after := _, guard := none }) (v := (.agg #[.int .i64 rn, .slice a2 sids.length c2])) rfl (by kernel_rfl) (by kernel_rfl) (by kernel_rfl) (by kernel_rfl) (fun _ _ _ h => h) (.inl ⟨by kernel_rfl, fun W' hW => by go_simp⟩) hS3 ?_
    try simp only [Act.put, List.setIfInBounds_toArray, List.set_cons_zero, List.set_cons_succ]
    refine wpAnyT_ready (rs := [17]) (by kernel_rfl) (by simp) (AllReadyT.cons rfl (fun K hK => ?_) AllReadyT.nil)
    go_simp
    have hS4 := (hS3.alloc (.cells #[.int .i64 rn, .slice a2 sids.length c2] 42) : Keeps (fun n => (Value.slice a k c).ownBlock = some n) wr _)
    refine hK.out _ _ (.inr hS4) ?_
    clear hK K
    try simp only [Act.put, List.setIfInBounds_toArray, List.set_cons_zero, List.set_cons_succ]
    refine wpAnyT_ready (rs := [18]) (by kernel_rfl) (by simp) (AllReadyT.cons rfl (fun K hK => ?_) AllReadyT.nil)
    refine step25 rfl (.tmp 29) (.tmp 45) rfl w.heap.size (.slice a k c) rs [⟨rn, a2, sids.length, c2⟩] rfl ((HO.out.below R2.out).alloc _) _ rfl (SlIn.one sdL_length ⟨rn, a2, sids.length, c2⟩ (obj_alloc_at _ _ _ rfl)) (by simp; omega) (by simp; omega) ?_
    intro v4 w5 q1 q2 q3
    obtain ⟨a4, c4, e4⟩ := q1.slice
    replace e4 : v4 = .slice a4 (k + 1) c4 := e4.trans (HLQ.out a4 c4 _)
    subst e4
    have Q1 : Hid (OwnS w5 w.heap.size 42 2 sdL (.slice a4 (k + 1) c4) (rs ++ [⟨rn, a2, sids.length, c2⟩])) := Lib.hid q1
    have Q3 : Hid (∀ g, g < w3.heap.size → (Value.slice a k c).ownBlock ≠ some g → obj w5 g = obj w3 g) := Lib.hid (fun g hg hne => (q3 g (Nat.lt_of_lt_of_le hg (by simp)) hne).trans (obj_alloc_past w3 _ g hg))
    have B5 : Hid (Below w.heap.size w w5) := Lib.hid (((HB.out.trans (R2.out.mono hzr)).alloc (Nat.le_trans hzr hz3) _).trans q2)
    have K5 : Keeps (fun n => (Value.slice a k c).ownBlock = some n) (w3.alloc (.cells #[.int .i64 rn, .slice a2 sids.length c2] 42)) w5 := ⟨q2.os, q2.tape, q2.output, q2.size, fun j hj hne => q3 j hj hne⟩
    have OX5 : Hid (obj w5 (w.heap.size + 2) = some (.cells #[.int .i64 dp, .slice a3 m.op.length c3, .slice a5 m.tips.length c5, .slice a k c] 27 (0, 0))) := Lib.hid ((Q3.out _ (Nat.lt_of_lt_of_le hxl0 hz3) HNX.out).trans ((obj_below R2.out hxl0).trans OX.out))
    have z5 := lt_of_obj OX5.out
    have t1' := cell_at OX5.out 3
    have t2' := frozen_at OX5.out 3
    simp at t1'
    clear q1 q2 q3
    have hS5 := hS4.trans K5
    refine hK.out _ _ (.inr hS5) ?_
    clear hK K
    try simp only [Act.put, List.setIfInBounds_toArray, List.set_cons_zero, List.set_cons_succ]
    refine wpAnyT_take (i := 19) (oi := { dst := some 47, op := Op.fieldAddr 27 (Operand.tmp 3) 3, type := 0, pos := _, after := _, guard := none }) (v := (.pointer (some ⟨w.heap.size + 1 + 1, 3, none⟩))) rfl (by kernel_rfl) (by kernel_rfl) (by kernel_rfl) (by kernel_rfl) (fun _ _ _ h => h) (.inl ⟨by kernel_rfl, fun W' hW => by go_simp⟩) hS5 ?_
    try simp only [Act.put, List.setIfInBounds_toArray, List.set_cons_zero, List.set_cons_succ]
    refine wpAnyT_ready (rs := [20]) (by kernel_rfl) (by simp) (AllReadyT.cons rfl (fun K hK => ?_) AllReadyT.nil)
    go_simp
    refine hK.out _ _ (.inl rfl) ?_
    clear hK K
    try simp only [Act.put, List.setIfInBounds_toArray, List.set_cons_zero, List.set_cons_succ]
    refine wpAnyT_done (by kernel_rfl) ?_ _
    have R6 := Lib.hid (R1.out.keeps (W := w5) (fun g hg => Q3.out g (R1.out.lt hg).2 (by have := (R1.out.lt hg).1; intro e; have := (HO.out.1.lt _ e).2; omega)))
    have HOC5 := Lib.hid (HOC.out.keeps (W := w5) (fun g hg => (Q3.out g (Nat.lt_of_lt_of_le (HOC.out.lt hg).2 hz3) (HOC.out.apart (show OwnC wr w.heap.size 42 2 sdL (.slice a k c) rs from HO.out.1) (by decide) hg)).trans (obj_below R2.out (HOC.out.lt hg).2)))
    have HTC5 := Lib.hid (HTC.out.keeps (W := w5) (fun g hg => (Q3.out g (Nat.lt_of_lt_of_le (HTC.out.lt hg).2 hz3) (HTC.out.apart (show OwnC wr w.heap.size 42 2 sdL (.slice a k c) rs from HO.out.1) (by decide) hg)).trans (obj_below R2.out (HTC.out.lt hg).2)))
    have HSD5 := Lib.hid (HSD.out.keeps (W := w5) (fun g cur hg => (Q3.out g (Nat.lt_of_lt_of_le (lt_of_obj hg) hz3) (HO.out.ne hg (fun cur h => by injection h with h1 h2; cases h2))).trans (obj_below R2.out (lt_of_obj hg))))
    have OB5 := Lib.hid ((Q3.out w.heap.size (Nat.lt_of_lt_of_le hbl0 hz3) (HO.out.ne OB.out (fun cur h => by injection h with h1 h2; cases h2))).trans ((obj_below R2.out hbl0).trans OB.out))
    have OR5 := Lib.hid ((Q3.out (w.heap.size + 1) (Nat.lt_of_lt_of_le hrl0 hz3) (HO.out.ne OR.out (fun cur h => by injection h with h1 h2; cases h2))).trans ((obj_below R2.out hrl0).trans OR.out))
    have HRS7 : Hid ((rs ++ [(⟨rn, a2, sids.length, c2⟩ : SdD)]).length = k + 1) := Lib.hid (by simp [HRS.out])
    have OX7 : Hid (obj (w5.setCell ⟨w.heap.size + 2, 3, none⟩ (.slice a4 (k + 1) c4)) (w.heap.size + 2) = some (.cells #[.int .i64 dp, .slice a3 m.op.length c3, .slice a5 m.tips.length c5, .slice a4 (k + 1) c4] 27 (0, 0))) := Lib.hid (obj_setCell_at _ OX5.out)
    have OB7 := Lib.hid ((obj_setCell_ne w5 ⟨w.heap.size + 2, 3, none⟩ (.slice a4 (k + 1) c4) w.heap.size (by dsimp only; omega)).trans OB5.out)
    have OR7 := Lib.hid ((obj_setCell_ne w5 ⟨w.heap.size + 2, 3, none⟩ (.slice a4 (k + 1) c4) (w.heap.size + 1) (by dsimp only; omega)).trans OR5.out)
    have HOC7 := Lib.hid (HOC5.out.setBox OX5.out (by decide) 3 (.slice a4 (k + 1) c4))
    have HTC7 := Lib.hid (HTC5.out.setBox OX5.out (by decide) 3 (.slice a4 (k + 1) c4))
    have HO7 : Hid (OwnS (w5.setCell ⟨w.heap.size + 2, 3, none⟩ (.slice a4 (k + 1) c4)) w.heap.size 42 2 sdL (.slice a4 (k + 1) c4) (rs ++ [⟨rn, a2, sids.length, c2⟩])) := Lib.hid (Q1.out.keeps (fun g hg => obj_setCell_ne _ _ _ _ (fun e => Q1.out.ne OX5.out (fun cur h => by injection h with h1 h2; cases h2) (by rw [hg, e]))))
    have HI6 := Lib.hid ((R6.out.mono hzr).setBox OX5.out (by decide) 3 (.slice a4 (k + 1) c4))
    have HSD7 : Hid (SdOwn (w5.setCell ⟨w.heap.size + 2, 3, none⟩ (.slice a4 (k + 1) c4)) w.heap.size (rs ++ [⟨rn, a2, sids.length, c2⟩]) (m.said.take (k + 1))) := Lib.hid (by
      rw [HTK.out]
      exact (HSD5.out.keeps (fun g cur hg => obj_setCell_ne _ ⟨w.heap.size + 2, 3, none⟩ _ _ (fun e => by dsimp only at e; subst e; rw [OX5.out] at hg; injection hg with hg; injection hg with h1 h2; cases h2))).snoc rfl HI6.out)
    have HB7 : Hid (Below w.heap.size w (w5.setCell ⟨w.heap.size + 2, 3, none⟩ (.slice a4 (k + 1) c4))) := Lib.hid (B5.out.setCell (by dsimp only; omega) _)
    go_wp2_with fail
    go_roundw
    case rel => exact ⟨k + 1, a4, c4, rs ++ [⟨rn, a2, sids.length, c2⟩], by omega, by go_num, HRS7, HO7, HSD7, HOC7, HTC7, OB7, OR7, OX7, HB7⟩
    case measure => exact meas_step' hlt
end Go.Proofs.YtmgpfmgmpmkkaaaGreat
namespace Go.Proofs.YtmgpfmgmpmkkaaaGreat
open Go.RowKit

theorem slIn_dropN {w : World} {b off cap : Nat} {l : List ID} (h : SlIn w (.slice (some ⟨b, off, none⟩) l.length cap) 32 idL l) {n : Nat} (hn : n ≤ l.length) :
    SlIn w (.slice (if cap = n then some ⟨b, off, none⟩ else some ⟨b, off + n * 32, none⟩) (l.length - n) (cap - n)) 32 idL (l.drop n) := by
  have hd := SlIn.drop h hn
  by_cases hc : cap = n
  · rw [if_pos hc]
    obtain ⟨oa, c, e, g1, g2, _⟩ := hd
    simp only [Value.slice.injEq] at e
    obtain ⟨_, e2, e3⟩ := e
    refine ⟨_, _, by rw [e2], by rw [e3]; exact g1, by rw [e3]; exact g2, fun h0 => ?_⟩
    rw [List.length_drop] at h0
    obtain ⟨_, _, e4, k1, k2, _⟩ := h
    simp only [Value.slice.injEq] at e4
    omega
  · rw [if_neg hc]; exact hd
def sliceHiN (x lo : Value) : Sem Value := Instr.sliceAt 24 x (some lo) none none
def sliceLoN (x hi : Value) : Sem Value := Instr.sliceAt 24 x none (some hi) none
theorem run_hiN {w : World} {oa : Option Addr} {cap : Nat} {xs : List ID} (h : SlIn w (.slice oa xs.length cap) 32 idL xs) {k : Nat} (hk : k ≤ xs.length) : ∃ hv, (∀ W, (sliceHiN (.slice oa xs.length cap) (.int .i64 k)).run Tryz.prog W = .ok hv W) ∧ ∀ W, SlIn W (.slice oa xs.length cap) 32 idL xs → SlIn W hv 32 idL (xs.drop k) := by
  obtain ⟨oa', cap', e, h1, h2, h3⟩ := h
  simp only [Value.slice.injEq] at e
  obtain ⟨rfl, _, rfl⟩ := e
  have hcm := h2
  unfold maxLen at h2
  by_cases h0 : 0 < xs.length
  · obtain ⟨b, off, rfl, _, _⟩ := h3 h0
    refine ⟨.slice (if cap = k then some ⟨b, off, none⟩ else some ⟨b, off + k * 32, none⟩) (xs.length - k) (cap - k), fun W => ?_, fun W hW => slIn_dropN hW hk⟩
    unfold sliceHiN
    go_simp
  · have hi : xs = [] := List.eq_nil_of_length_eq_zero (by omega)
    subst hi
    have hk0 : k = 0 := by simpa using hk
    subst hk0
    have hnil : ∀ W oa, SlIn W (.slice oa 0 cap) 32 idL ([] : List ID) := fun W oa => ⟨oa, cap, rfl, Nat.zero_le _, hcm, fun h => absurd h (Nat.lt_irrefl _)⟩
    cases oa with
    | none =>
      refine ⟨.slice none 0 cap, fun W => ?_, fun W _ => hnil W none⟩
      unfold sliceHiN
      simp only [List.length_nil] at *
      go_simp
    | some ad =>
      obtain ⟨b, off, pth⟩ := ad
      refine ⟨.slice (some ⟨b, off, pth⟩) 0 cap, fun W => ?_, fun W _ => hnil W _⟩
      unfold sliceHiN
      simp only [List.length_nil] at *
      go_simp
theorem run_loN {w : World} {oa : Option Addr} {cap : Nat} {xs : List ID} (h : SlIn w (.slice oa xs.length cap) 32 idL xs) {k : Nat} (hk : k ≤ xs.length) : ∀ W, (sliceLoN (.slice oa xs.length cap) (.int .i64 k)).run Tryz.prog W = .ok (.slice oa k cap) W := by
  intro W
  obtain ⟨oa', cap', e, h1, h2, h3⟩ := h
  simp only [Value.slice.injEq] at e
  obtain ⟨rfl, _, rfl⟩ := e
  unfold maxLen at h2
  unfold sliceLoN
  cases oa with
  | none =>
    go_simp
    intro hlt
    omega
  | some ad =>
    obtain ⟨b, off, pth⟩ := ad
    go_simp
    intro hlt
    omega
@[go_sem ↓] theorem hide_hiN (x lo : Value) : Instr.sliceAt 24 x (some lo) none none = sliceHiN x lo := rfl
@[go_sem ↓] theorem hide_loN (x hi : Value) : Instr.sliceAt 24 x none (some hi) none = sliceLoN x hi := rfl
theorem slIn_dropS {w : World} {b off cap : Nat} {l : List SdD} (h : SlIn w (.slice (some ⟨b, off, none⟩) l.length cap) 2 sdL l) {n : Nat} (hn : n ≤ l.length) :
    SlIn w (.slice (if cap = n then some ⟨b, off, none⟩ else some ⟨b, off + n * 2, none⟩) (l.length - n) (cap - n)) 2 sdL (l.drop n) := by
  have hd := SlIn.drop h hn
  by_cases hc : cap = n
  · rw [if_pos hc]
    obtain ⟨oa, c, e, g1, g2, _⟩ := hd
    simp only [Value.slice.injEq] at e
    obtain ⟨_, e2, e3⟩ := e
    refine ⟨_, _, by rw [e2], by rw [e3]; exact g1, by rw [e3]; exact g2, fun h0 => ?_⟩
    rw [List.length_drop] at h0
    obtain ⟨_, _, e4, k1, k2, _⟩ := h
    simp only [Value.slice.injEq] at e4
    omega
  · rw [if_neg hc]; exact hd
def sliceHiS (x lo : Value) : Sem Value := Instr.sliceAt 25 x (some lo) none none
def sliceLoS (x hi : Value) : Sem Value := Instr.sliceAt 25 x none (some hi) none
theorem run_hiS {w : World} {oa : Option Addr} {cap : Nat} {xs : List SdD} (h : SlIn w (.slice oa xs.length cap) 2 sdL xs) {k : Nat} (hk : k ≤ xs.length) : ∃ hv, (∀ W, (sliceHiS (.slice oa xs.length cap) (.int .i64 k)).run Tryz.prog W = .ok hv W) ∧ ∀ W, SlIn W (.slice oa xs.length cap) 2 sdL xs → SlIn W hv 2 sdL (xs.drop k) := by
  obtain ⟨oa', cap', e, h1, h2, h3⟩ := h
  simp only [Value.slice.injEq] at e
  obtain ⟨rfl, _, rfl⟩ := e
  have hcm := h2
  unfold maxLen at h2
  by_cases h0 : 0 < xs.length
  · obtain ⟨b, off, rfl, _, _⟩ := h3 h0
    refine ⟨.slice (if cap = k then some ⟨b, off, none⟩ else some ⟨b, off + k * 2, none⟩) (xs.length - k) (cap - k), fun W => ?_, fun W hW => slIn_dropS hW hk⟩
    unfold sliceHiS
    go_simp
  · have hi : xs = [] := List.eq_nil_of_length_eq_zero (by omega)
    subst hi
    have hk0 : k = 0 := by simpa using hk
    subst hk0
    have hnil : ∀ W oa, SlIn W (.slice oa 0 cap) 2 sdL ([] : List SdD) := fun W oa => ⟨oa, cap, rfl, Nat.zero_le _, hcm, fun h => absurd h (Nat.lt_irrefl _)⟩
    cases oa with
    | none =>
      refine ⟨.slice none 0 cap, fun W => ?_, fun W _ => hnil W none⟩
      unfold sliceHiS
      simp only [List.length_nil] at *
      go_simp
    | some ad =>
      obtain ⟨b, off, pth⟩ := ad
      refine ⟨.slice (some ⟨b, off, pth⟩) 0 cap, fun W => ?_, fun W _ => hnil W _⟩
      unfold sliceHiS
      simp only [List.length_nil] at *
      go_simp
theorem run_loS {w : World} {oa : Option Addr} {cap : Nat} {xs : List SdD} (h : SlIn w (.slice oa xs.length cap) 2 sdL xs) {k : Nat} (hk : k ≤ xs.length) : ∀ W, (sliceLoS (.slice oa xs.length cap) (.int .i64 k)).run Tryz.prog W = .ok (.slice oa k cap) W := by
  intro W
  obtain ⟨oa', cap', e, h1, h2, h3⟩ := h
  simp only [Value.slice.injEq] at e
  obtain ⟨rfl, _, rfl⟩ := e
  unfold maxLen at h2
  unfold sliceLoS
  cases oa with
  | none =>
    go_simp
    intro hlt
    omega
  | some ad =>
    obtain ⟨b, off, pth⟩ := ad
    go_simp
    intro hlt
    omega
@[go_sem ↓] theorem hide_hiS (x lo : Value) : Instr.sliceAt 25 x (some lo) none none = sliceHiS x lo := rfl
@[go_sem ↓] theorem hide_loS (x hi : Value) : Instr.sliceAt 25 x none (some hi) none = sliceLoS x hi := rfl
end Go.Proofs.YtmgpfmgmpmkkaaaGreat
namespace Go.Proofs.YtmgpfmgmpmkkaaaGreat
open Go.RowKit Go.Shelf Go.Sort

theorem addT_in {ts : List ID} {id : ID} (h : id ∈ ts) : addT ts id = ts := by unfold addT; rw [if_pos h]
theorem addT_split {ts : List ID} {id : ID} {k : Nat} (hr : risB ts = true) (hn : id ∉ ts) (h1 : ∀ x ∈ ts.take k, ltI x id = true) (h2 : ∀ h : k < ts.length, ltI ts[k] id = false) : addT ts id = ts.take k ++ [id] ++ ts.drop k := by
  have hp := risB_iff.1 hr
  have e : ts = ts.take k ++ ts.drop k := (List.take_append_drop k ts).symm
  have h3 : ∀ x ∈ ts.drop k, ltI id x = true := by
    intro x hx
    by_cases hk : k < ts.length
    · have hlt : ltI id ts[k] = true := by
        rcases ltI_total id ts[k] with h | h | h
        · exact h
        · exact absurd (h ▸ List.getElem_mem hk) hn
        · rw [h2 hk] at h; cases h
      rw [List.drop_eq_getElem_cons hk] at hx
      rcases List.mem_cons.1 hx with rfl | hx
      · exact hlt
      · have hq : (ts.drop k).Pairwise fun a b => ltI a b = true := hp.sublist (List.drop_sublist _ _)
        rw [List.drop_eq_getElem_cons hk, List.pairwise_cons] at hq
        exact ltI_trans hlt (hq.1 x hx)
    · rw [List.drop_eq_nil_of_le (by omega)] at hx; simp at hx
  have hrn : risB (ts.take k ++ [id] ++ ts.drop k) = true := by
    refine risB_iff.2 ?_
    rw [e, List.pairwise_append] at hp
    rw [List.pairwise_append, List.pairwise_append]
    refine ⟨⟨hp.1, by simp, fun a ha b hb => ?_⟩, hp.2.1, fun a ha b hb => ?_⟩
    · simp at hb; subst hb; exact h1 a ha
    · rcases List.mem_append.1 ha with ha | ha
      · exact hp.2.2 a ha b hb
      · simp at ha; subst ha; exact h3 b hb
  refine ris_uniq (ris_addT hr id) hrn fun x => ?_
  rw [mem_addT]
  constructor
  · rintro (h | rfl)
    · rw [e] at h
      rcases List.mem_append.1 h with h | h
      · simp [h]
      · simp [h]
    · simp
  · intro h
    rcases List.mem_append.1 h with h | h
    · rcases List.mem_append.1 h with h | h
      · exact .inl (List.mem_of_mem_take h)
      · simp at h; exact .inr h
    · exact .inl (List.mem_of_mem_drop h)
set_option maxRecDepth 100000 in
set_option maxHeartbeats 8000000 in
/-- the reference's put -/
theorem putR_any (w : World) (v : Value) (ts : List ID) (id : ID) (h : SlIn w v 32 idL ts) (hr : risB ts = true) (hlen : ts.length ≤ 4096) :
    Calls Tryz.prog 39 #[v, .agg (idL id).toArray] w fun e w' => ∃ v', e = .returned v' ∧ OwnC w' w.heap.size 32 32 idL v' (addT ts id) ∧ Below w.heap.size w w' := by
  have hb0 : Below w.heap.size w (w.alloc (.cells (idL id).toArray 32)) := (Below.refl _ w).alloc (Nat.le_refl _) _
  have ob : obj (w.alloc (.cells (idL id).toArray 32)) w.heap.size = some (.cells (idL id).toArray 32 (0, 0)) := obj_alloc_at _ _ _ rfl
  have px : subOf (obj (w.alloc (.cells (idL id).toArray 32)) w.heap.size) 0 32 = some (idL id).toArray := by rw [ob, subOf_cells (by simp), subA_all (by simp)]
  have hz : (w.alloc (.cells (idL id).toArray 32)).heap.size = w.heap.size + 1 := by simp
  have HSL := Lib.hid h
  have HH := Lib.hid (has_any _ v ts id (h.below hb0))
  have B0 := Lib.hid hb0
  have OB := Lib.hid ob
  have HZ := Lib.hid hz
  have HIN : Hid (id ∈ ts → addT ts id = ts) := Lib.hid addT_in
  have HSP : Hid (id ∉ ts → ∀ k, (∀ x ∈ ts.take k, ltI x id = true) → (∀ h : k < ts.length, ltI ts[k] id = false) → addT ts id = ts.take k ++ [id] ++ ts.drop k) := Lib.hid (fun hn k h1 h2 => addT_split hr hn h1 h2)
  generalize addT ts id = M at *
  obtain ⟨oa, cap, rfl, g1, g2, g3⟩ := h
  unfold maxLen at g2
  have G3 := Lib.hid g3
  clear hb0 ob hz g3
  go_enter Tryz.func39, Tryz.ntmps39
  go_wp2_with fail
  generalize w.alloc (.cells (idL id).toArray 32) = w1 at *
  have hz := HZ.out
  clear px
  refine HH.out.mono ?_
  rintro e w2 ⟨rfl, b2⟩
  have hz2 := b2.size
  have OB2 := Lib.hid ((obj_below b2 (by omega)).trans OB.out)
  have B2 : Hid (Below w.heap.size w w2) := Lib.hid (B0.out.trans (b2.mono (by omega)))
  clear b2 OB B0 HH
  by_cases hin : id ∈ ts
  · obtain rfl : M = ts := HIN.out hin
    have hd : decide (id ∈ M) = true := decide_eq_true hin
    generalize decide (id ∈ M) = D at *
    subst hd
    clear hin
    have HS2 := Lib.hid (HSL.out.below B2.out)
    go_wp2_with (at_builtin; refine pushAll24 rfl _ _ rfl w.heap.size (.slice none 0 0) [] M rfl (OwnS.nil _ _ _ _ _) _ rfl HS2.out (by simp; omega) (by omega) ?_; intro v3 w3 r1 r2 r3; have R1 : Hid (OwnC w3 w.heap.size 32 32 idL v3 M) := Lib.hid r1.1; have R2 := Lib.hid (B2.out.trans r2); clear r1 r2 r3)
    go_ret
    exact ⟨v3, rfl, R1.out, R2.out⟩
  have HSQ := Lib.hid (HSP.out hin)
  have hd : decide (id ∈ ts) = false := decide_eq_false hin
  generalize decide (id ∈ ts) = D at *
  subst hd
  clear hin HIN HSP
  go_wp2_with fail
  go_loopw [6] (fun v6 wr => ∃ k : Nat, k ≤ ts.length ∧ v6 = .int .i64 k ∧ Hid (∀ x ∈ ts.take k, ltI x id = true) ∧ Hid (Below w2.heap.size w2 wr)) (fun i _ => ts.length - (intOf i).toNat)
  case atStart => exact ⟨0, Nat.zero_le _, rfl, Lib.hid (by simp), Lib.hid (Below.refl _ _)⟩
  case round =>
    obtain ⟨k, hk, rfl, HT, HBR⟩ := hrel
    have hzr := HBR.out.size
    have BW : Hid (Below w.heap.size w wr) := Lib.hid (B2.out.trans (HBR.out.mono (by omega)))
    have OBR := Lib.hid ((obj_below HBR.out (by omega)).trans OB2.out)
    have hbl0 := lt_of_obj OBR.out
    have px : subOf (obj wr w.heap.size) 0 32 = some (idL id).toArray := by rw [OBR.out, subOf_cells (by simp), subA_all (by simp)]
    by_cases hlt : k < ts.length
    case neg =>
      obtain rfl : k = ts.length := by omega
      have hkd : decide ((ts.length : Int) < ts.length) = false := decide_eq_false (by omega)
      have HM := Lib.hid (HSQ.out ts.length HT.out (fun h => absurd h (Nat.lt_irrefl _)))
      have HBX := Lib.hid (Below.refl wr.heap.size wr)
      go_wp2_with fail
      refine wp_region_later wr (Below.refl _ _) (by kernel_rfl) (by kernel_rfl) ?_
      repeat (go_big_quiet_step (fail))
      refine wpQuiet_nil ?_
      intro _ hx
      obtain ⟨⟨wz, bz⟩, hx⟩ := hx
      subst hx
      rename_i wz
      have HBZ : Hid (Below w.heap.size w wz) := Lib.hid (BW.out.trans (bz.mono BW.out.size))
      have OBZ := Lib.hid ((obj_below bz hbl0).trans OBR.out)
      have HSZ := Lib.hid (HSL.out.below HBZ.out)
      have hzz := HBZ.out.size
      clear bz px
      have HLO := Lib.hid (fun W => run_loN (k := ts.length) HSZ.out (by omega) W)
      have HHI := Lib.hid (run_hiN (k := ts.length) HSZ.out (by omega))
      obtain ⟨hv, hhv, hsv⟩ := HHI.out
      have HHV := Lib.hid hhv
      have HSV := Lib.hid hsv
      have HTK := Lib.hid (HSZ.out.take (n := ts.length) (by omega))
      have htk : (ts.take ts.length).length = ts.length := by simp; try omega
      clear hhv hsv HHI
      have YID : ∀ W, Below wz.heap.size wz W → (loadAgg 32 ⟨w.heap.size, 0, none⟩).run Tryz.prog W = .ok (.agg (idL id).toArray) W := fun W hW => by
        rw [run_load45, obj_below hW (lt_of_obj OBZ.out), OBZ.out, subOf_cells (by simp), subA_all (by simp)]; rfl
      go_wp2_with fail
      have hS : Below wz.heap.size wz wz.drew := (Below.refl _ _).drew
      refine wp_region_held_drew (S := fun W => Below wz.heap.size wz W) (by kernel_rfl) hS (fun hS => ?_)
      refine wpAnyH_take (i := 0) (oi := { dst := some 27, op := Op.move (Operand.tmp 5), type := 24, pos := _, after := _, guard := none }) (v := (.slice none 0 0)) rfl (by kernel_rfl) (by kernel_rfl) (by kernel_rfl) (fun _ _ _ h => h) (yieldsIf_mv (by kernel_rfl) (.tmp 5) (by kernel_rfl) (by kernel_rfl)) hS ?_
      try simp only [Act.put, List.setIfInBounds_toArray, List.set_cons_zero, List.set_cons_succ]
      refine wpAnyH_take (i := 1) (oi := { dst := some 28, op := Op.move (Operand.tmp 0), type := 24, pos := _, after := _, guard := none }) (v := (.slice oa ts.length cap)) rfl (by kernel_rfl) (by kernel_rfl) (by kernel_rfl) (fun _ _ _ h => h) (yieldsIf_mv (by kernel_rfl) (.tmp 0) (by kernel_rfl) (by kernel_rfl)) hS ?_
      try simp only [Act.put, List.setIfInBounds_toArray, List.set_cons_zero, List.set_cons_succ]
      refine wpAnyH_take (i := 2) (oi := { dst := some 29, op := Op.move (Operand.tmp 6), type := 3, pos := _, after := _, guard := none }) (v := (.int .i64 (ts.length : Int))) rfl (by kernel_rfl) (by kernel_rfl) (by kernel_rfl) (fun _ _ _ h => h) (yieldsIf_mv (by kernel_rfl) (.tmp 6) (by kernel_rfl) (by kernel_rfl)) hS ?_
      try simp only [Act.put, List.setIfInBounds_toArray, List.set_cons_zero, List.set_cons_succ]
      refine wpAnyH_take (i := 3) (oi := { dst := some 30, op := Op.slice 24 (Operand.tmp 28) none (some (Operand.tmp 29)) none, type := 24, pos := _, after := _, guard := none }) (v := (.slice oa ts.length cap)) rfl (by kernel_rfl) (by kernel_rfl) (by kernel_rfl) (fun _ _ _ h => h) (.inl ⟨by kernel_rfl, fun W' hW => by have hlo := HLO.out W'; go_simp⟩) hS ?_
      try simp only [Act.put, List.setIfInBounds_toArray, List.set_cons_zero, List.set_cons_succ]
      refine wpAnyH_take (i := 5) (oi := { dst := some 32, op := Op.load 32 (Operand.tmp 3), type := 32, pos := _, after := _, guard := none }) (v := (.agg (idL id).toArray)) rfl (by kernel_rfl) (by kernel_rfl) (by kernel_rfl) (fun _ _ _ h => h) (yieldsIf_agg (by kernel_rfl) 32 (.tmp 3) (by kernel_rfl) (w.heap.size) 0 (by kernel_rfl) YID) hS ?_
      try simp only [Act.put, List.setIfInBounds_toArray, List.set_cons_zero, List.set_cons_succ]
      refine wpAnyH_take (i := 8) (oi := { dst := some 35, op := Op.move (Operand.tmp 0), type := 24, pos := _, after := _, guard := none }) (v := (.slice oa ts.length cap)) rfl (by kernel_rfl) (by kernel_rfl) (by kernel_rfl) (fun _ _ _ h => h) (yieldsIf_mv (by kernel_rfl) (.tmp 0) (by kernel_rfl) (by kernel_rfl)) hS ?_
      try simp only [Act.put, List.setIfInBounds_toArray, List.set_cons_zero, List.set_cons_succ]
      refine wpAnyH_take (i := 9) (oi := { dst := some 36, op := Op.move (Operand.tmp 6), type := 3, pos := _, after := _, guard := none }) (v := (.int .i64 (ts.length : Int))) rfl (by kernel_rfl) (by kernel_rfl) (by kernel_rfl) (fun _ _ _ h => h) (yieldsIf_mv (by kernel_rfl) (.tmp 6) (by kernel_rfl) (by kernel_rfl)) hS ?_
      try simp only [Act.put, List.setIfInBounds_toArray, List.set_cons_zero, List.set_cons_succ]
      refine wpAnyH_take (i := 10) (oi := { dst := some 37, op := Op.slice 24 (Operand.tmp 35) (some (Operand.tmp 36)) none none, type := 24, pos := _, after := _, guard := none }) (v := hv) rfl (by kernel_rfl) (by kernel_rfl) (by kernel_rfl) (fun _ _ _ h => h) (.inl ⟨by kernel_rfl, fun W' hW => by have hlo := HHV.out W'; go_simp⟩) hS ?_
      try simp only [Act.put, List.setIfInBounds_toArray, List.set_cons_zero, List.set_cons_succ]
      refine wpAnyH_ready (rs := [4, 6]) (by kernel_rfl) (by simp) (AllReadyH.cons (o := { dst := some 31, op := Op.call { callee := Callee.builtin Builtin.append, args := #[Operand.tmp 27, Operand.tmp 30], argTypes := #[24, 24] }, type := 24, pos := _, after := _, guard := none }) rfl (fun K hK => ?_) (AllReadyH.cons (o := { dst := some 33, op := Op.buildSlice 24 1 #[(0, Operand.tmp 32)], type := 24, pos := _, after := _, guard := none }) rfl (fun K hK => ?_) AllReadyH.nil))
      · refine step24 rfl (.tmp 27) (.tmp 30) rfl wz.heap.size (.slice none 0 0) [] (ts.take ts.length) rfl (OwnS.nil _ _ _ _ _) _ rfl (HTK.out.below hS) (by simp; omega) hS.size ?_
        intro v31 w31 r1 r2 r3
        have R31 : Hid (OwnS w31 wz.heap.size 32 32 idL v31 (ts.take ts.length)) := Lib.hid r1
        clear r1 r3
        have hS1 := hS.trans r2
        refine hK.out _ _ hS1 (fun _ => ?_)
        clear hK K
        try simp only [Act.put, List.setIfInBounds_toArray, List.set_cons_zero, List.set_cons_succ]
        refine wpAnyH_ready (rs := [6]) (by kernel_rfl) (by simp) (AllReadyH.cons (o := { dst := some 33, op := Op.buildSlice 24 1 #[(0, Operand.tmp 32)], type := 24, pos := _, after := _, guard := none }) rfl (fun K hK => ?_) AllReadyH.nil)
        go_simp
        have hS2 := hS1.alloc hS1.size (.cells (idL id).toArray 32)
        refine hK.out _ _ hS2 (fun _ => ?_)
        clear hK K
        try simp only [Act.put, List.setIfInBounds_toArray, List.set_cons_zero, List.set_cons_succ]
        refine wpAnyH_ready (rs := [7]) (by kernel_rfl) (by simp) (AllReadyH.cons (o := { dst := some 34, op := Op.call { callee := Callee.builtin Builtin.append, args := #[Operand.tmp 31, Operand.tmp 33], argTypes := #[24, 24] }, type := 24, pos := _, after := _, guard := none }) rfl (fun K hK => ?_) AllReadyH.nil)
        refine step24 rfl (.tmp 31) (.tmp 33) rfl wz.heap.size v31 (ts.take ts.length) [id] rfl (R31.out.alloc _) _ rfl (SlIn.one idL_length id (obj_alloc_at _ _ _ rfl)) (by simp; omega) hS2.size ?_
        intro v34 w34 r1 r2 r3
        have R34 : Hid (OwnS w34 wz.heap.size 32 32 idL v34 (ts.take ts.length ++ [id])) := Lib.hid r1
        clear r1 r3
        have hS3 := hS2.trans r2
        refine hK.out _ _ hS3 (fun _ => ?_)
        clear hK K
        try simp only [Act.put, List.setIfInBounds_toArray, List.set_cons_zero, List.set_cons_succ]
        refine wpAnyH_ready (rs := [11]) (by kernel_rfl) (by simp) (AllReadyH.cons (o := { dst := some 38, op := Op.call { callee := Callee.builtin Builtin.append, args := #[Operand.tmp 34, Operand.tmp 37], argTypes := #[24, 24] }, type := 24, pos := _, after := _, guard := none }) rfl (fun K hK => ?_) AllReadyH.nil)
        refine step24 rfl (.tmp 34) (.tmp 37) rfl wz.heap.size v34 (ts.take ts.length ++ [id]) (ts.drop ts.length) rfl R34.out hv rfl (HSV.out _ (HSZ.out.below hS3)) (by simp; omega) hS3.size ?_
        intro v38 w38 r1 r2 r3
        have R38 : Hid (OwnC w38 wz.heap.size 32 32 idL v38 (ts.take ts.length ++ [id] ++ ts.drop ts.length)) := Lib.hid r1.1
        clear r1 r3
        have hS4 := hS3.trans r2
        refine hK.out _ _ hS4 (fun _ => ?_)
        clear hK K
        try simp only [Act.put, List.setIfInBounds_toArray, List.set_cons_zero, List.set_cons_succ]
        refine wpAnyH_take (i := 12) (oi := { dst := some 4, op := Op.assign (Operand.tmp 38), type := 24, pos := _, after := _, guard := none }) (v := v38) rfl (by kernel_rfl) (by kernel_rfl) (by kernel_rfl) (fun _ _ _ h => h) (.inl ⟨by kernel_rfl, fun W' hW => by go_simp⟩) hS4 ?_
        try simp only [Act.put, List.setIfInBounds_toArray, List.set_cons_zero, List.set_cons_succ]
        refine wpAnyH_done (by kernel_rfl) ?_ _
        go_wp2_with fail
        go_ret
        exact ⟨v38, rfl, by rw [HM.out]; exact R38.out.mono hzz, HBZ.out.trans (hS4.mono hzz)⟩
      · go_simp
        have hS1 := hS.alloc hS.size (.cells (idL id).toArray 32)
        refine hK.out _ _ hS1 (fun _ => ?_)
        clear hK K
        try simp only [Act.put, List.setIfInBounds_toArray, List.set_cons_zero, List.set_cons_succ]
        refine wpAnyH_ready (rs := [4]) (by kernel_rfl) (by simp) (AllReadyH.cons (o := { dst := some 31, op := Op.call { callee := Callee.builtin Builtin.append, args := #[Operand.tmp 27, Operand.tmp 30], argTypes := #[24, 24] }, type := 24, pos := _, after := _, guard := none }) rfl (fun K hK => ?_) AllReadyH.nil)
        refine step24 rfl (.tmp 27) (.tmp 30) rfl wz.heap.size (.slice none 0 0) [] (ts.take ts.length) rfl (OwnS.nil _ _ _ _ _) _ rfl (HTK.out.below hS1) (by simp; omega) hS1.size ?_
        intro v31 w31 r1 r2 r3
        have R31 : Hid (OwnS w31 wz.heap.size 32 32 idL v31 (ts.take ts.length)) := Lib.hid r1
        have XI : Hid (obj w31 wz.heap.size = some (.cells (idL id).toArray 32 (0, 0))) := Lib.hid ((r3 _ (by simp) (by simp [Value.ownBlock])).trans (obj_alloc_at _ _ _ rfl))
        clear r1 r3
        have hS2 := hS1.trans r2
        refine hK.out _ _ hS2 (fun _ => ?_)
        clear hK K
        try simp only [Act.put, List.setIfInBounds_toArray, List.set_cons_zero, List.set_cons_succ]
        refine wpAnyH_ready (rs := [7]) (by kernel_rfl) (by simp) (AllReadyH.cons (o := { dst := some 34, op := Op.call { callee := Callee.builtin Builtin.append, args := #[Operand.tmp 31, Operand.tmp 33], argTypes := #[24, 24] }, type := 24, pos := _, after := _, guard := none }) rfl (fun K hK => ?_) AllReadyH.nil)
        refine step24 rfl (.tmp 31) (.tmp 33) rfl wz.heap.size v31 (ts.take ts.length) [id] rfl R31.out _ rfl (SlIn.one idL_length id XI.out) (by simp; omega) hS2.size ?_
        intro v34 w34 r1 r2 r3
        have R34 : Hid (OwnS w34 wz.heap.size 32 32 idL v34 (ts.take ts.length ++ [id])) := Lib.hid r1
        clear r1 r3
        have hS3 := hS2.trans r2
        refine hK.out _ _ hS3 (fun _ => ?_)
        clear hK K
        try simp only [Act.put, List.setIfInBounds_toArray, List.set_cons_zero, List.set_cons_succ]
        refine wpAnyH_ready (rs := [11]) (by kernel_rfl) (by simp) (AllReadyH.cons (o := { dst := some 38, op := Op.call { callee := Callee.builtin Builtin.append, args := #[Operand.tmp 34, Operand.tmp 37], argTypes := #[24, 24] }, type := 24, pos := _, after := _, guard := none }) rfl (fun K hK => ?_) AllReadyH.nil)
        refine step24 rfl (.tmp 34) (.tmp 37) rfl wz.heap.size v34 (ts.take ts.length ++ [id]) (ts.drop ts.length) rfl R34.out hv rfl (HSV.out _ (HSZ.out.below hS3)) (by simp; omega) hS3.size ?_
        intro v38 w38 r1 r2 r3
        have R38 : Hid (OwnC w38 wz.heap.size 32 32 idL v38 (ts.take ts.length ++ [id] ++ ts.drop ts.length)) := Lib.hid r1.1
        clear r1 r3
        have hS4 := hS3.trans r2
        refine hK.out _ _ hS4 (fun _ => ?_)
        clear hK K
        try simp only [Act.put, List.setIfInBounds_toArray, List.set_cons_zero, List.set_cons_succ]
        refine wpAnyH_take (i := 12) (oi := { dst := some 4, op := Op.assign (Operand.tmp 38), type := 24, pos := _, after := _, guard := none }) (v := v38) rfl (by kernel_rfl) (by kernel_rfl) (by kernel_rfl) (fun _ _ _ h => h) (.inl ⟨by kernel_rfl, fun W' hW => by go_simp⟩) hS4 ?_
        try simp only [Act.put, List.setIfInBounds_toArray, List.set_cons_zero, List.set_cons_succ]
        refine wpAnyH_done (by kernel_rfl) ?_ _
        go_wp2_with fail
        go_ret
        exact ⟨v38, rfl, by rw [HM.out]; exact R38.out.mono hzz, HBZ.out.trans (hS4.mono hzz)⟩
    obtain ⟨b, off, rfl, hbb, hrow⟩ := G3.out (by omega)
    have hs1 := hrow k hlt
    rw [← obj_below BW.out hbb] at hs1
    have hbl : b < wr.heap.size := by have := BW.out.size; omega
    have HNX : Hid (ltI ts[k] id = true → ∀ x ∈ ts.take (k + 1), ltI x id = true) := Lib.hid (fun h x hx => by
      rw [List.take_succ_eq_append_getElem hlt] at hx
      rcases List.mem_append.1 hx with hx | hx
      · exact HT.out x hx
      · simp at hx; subst hx; exact h)
    have HNN : Hid (ltI ts[k] id = false → M = ts.take k ++ [id] ++ ts.drop k) := Lib.hid (fun h => HSQ.out k HT.out (fun _ => h))
    have hkd : decide ((k : Int) < ts.length) = true := decide_eq_true (by omega)
    have hki : (k : Int) < ts.length := by omega
    generalize ts[k] = x at *
    have HL : Hid (∀ z : Later wr, Calls Tryz.prog 69 #[.agg (idL x).toArray, .agg (idL id).toArray] z.w fun e w' => e = .returned (.bool (ltI x id)) ∧ Below z.w.heap.size z.w w') := Lib.hid (fun z => lessR_any z.w x id)
    clear hrow
    go_wp2_with fail
    refine wp_region_later wr (Below.refl _ _) (by kernel_rfl) (by kernel_rfl) ?_
    repeat (go_big_quiet_step (first | (go_at_call 69; with_reducible exact Calls.later (HL.out _))))
    refine wpQuiet_nil ?_
    intro _ hx
    obtain ⟨⟨wz, bz⟩, hx⟩ := hx
    subst hx
    rename_i wz
    cases hl : ltI x id with
    | true =>
      have HNY := Lib.hid (HNX.out hl)
      have HBZ := Lib.hid (HBR.out.trans (bz.mono HBR.out.size))
      clear bz
      go_wp2_with fail
      go_roundw
      case rel => exact ⟨k + 1, by omega, by go_num, HNY, HBZ⟩
      case measure => first | exact meas_step' hlt | (simp [intOf]; omega)
    | false =>
      have HM := Lib.hid (HNN.out hl)
      have HBZ : Hid (Below w.heap.size w wz) := Lib.hid (BW.out.trans (bz.mono BW.out.size))
      have OBZ := Lib.hid ((obj_below bz hbl0).trans OBR.out)
      have HSZ := Lib.hid (HSL.out.below HBZ.out)
      have hzz := HBZ.out.size
      clear bz hs1 hbl HL px
      have HLO := Lib.hid (fun W => run_loN (k := k) HSZ.out (by omega) W)
      have HHI := Lib.hid (run_hiN (k := k) HSZ.out (by omega))
      obtain ⟨hv, hhv, hsv⟩ := HHI.out
      have HHV := Lib.hid hhv
      have HSV := Lib.hid hsv
      have HTK := Lib.hid (HSZ.out.take (n := k) (by omega))
      have htk : (ts.take k).length = k := by simp; try omega
      clear hhv hsv HHI
      have YID : ∀ W, Below wz.heap.size wz W → (loadAgg 32 ⟨w.heap.size, 0, none⟩).run Tryz.prog W = .ok (.agg (idL id).toArray) W := fun W hW => by
        rw [run_load45, obj_below hW (lt_of_obj OBZ.out), OBZ.out, subOf_cells (by simp), subA_all (by simp)]; rfl
      go_wp2_with fail
      have hS : Below wz.heap.size wz wz.drew := (Below.refl _ _).drew
      refine wp_region_held_drew (S := fun W => Below wz.heap.size wz W) (by kernel_rfl) hS (fun hS => ?_)
      refine wpAnyH_take (i := 0) (oi := { dst := some 27, op := Op.move (Operand.tmp 5), type := 24, pos := _, after := _, guard := none }) (v := (.slice none 0 0)) rfl (by kernel_rfl) (by kernel_rfl) (by kernel_rfl) (fun _ _ _ h => h) (yieldsIf_mv (by kernel_rfl) (.tmp 5) (by kernel_rfl) (by kernel_rfl)) hS ?_
      try simp only [Act.put, List.setIfInBounds_toArray, List.set_cons_zero, List.set_cons_succ]
      refine wpAnyH_take (i := 1) (oi := { dst := some 28, op := Op.move (Operand.tmp 0), type := 24, pos := _, after := _, guard := none }) (v := (.slice (some ⟨b, off, none⟩) ts.length cap)) rfl (by kernel_rfl) (by kernel_rfl) (by kernel_rfl) (fun _ _ _ h => h) (yieldsIf_mv (by kernel_rfl) (.tmp 0) (by kernel_rfl) (by kernel_rfl)) hS ?_
      try simp only [Act.put, List.setIfInBounds_toArray, List.set_cons_zero, List.set_cons_succ]
      refine wpAnyH_take (i := 2) (oi := { dst := some 29, op := Op.move (Operand.tmp 6), type := 3, pos := _, after := _, guard := none }) (v := (.int .i64 (k : Int))) rfl (by kernel_rfl) (by kernel_rfl) (by kernel_rfl) (fun _ _ _ h => h) (yieldsIf_mv (by kernel_rfl) (.tmp 6) (by kernel_rfl) (by kernel_rfl)) hS ?_
      try simp only [Act.put, List.setIfInBounds_toArray, List.set_cons_zero, List.set_cons_succ]
      refine wpAnyH_take (i := 3) (oi := { dst := some 30, op := Op.slice 24 (Operand.tmp 28) none (some (Operand.tmp 29)) none, type := 24, pos := _, after := _, guard := none }) (v := (.slice (some ⟨b, off, none⟩) k cap)) rfl (by kernel_rfl) (by kernel_rfl) (by kernel_rfl) (fun _ _ _ h => h) (.inl ⟨by kernel_rfl, fun W' hW => by have hlo := HLO.out W'; go_simp⟩) hS ?_
      try simp only [Act.put, List.setIfInBounds_toArray, List.set_cons_zero, List.set_cons_succ]
      refine wpAnyH_take (i := 5) (oi := { dst := some 32, op := Op.load 32 (Operand.tmp 3), type := 32, pos := _, after := _, guard := none }) (v := (.agg (idL id).toArray)) rfl (by kernel_rfl) (by kernel_rfl) (by kernel_rfl) (fun _ _ _ h => h) (yieldsIf_agg (by kernel_rfl) 32 (.tmp 3) (by kernel_rfl) (w.heap.size) 0 (by kernel_rfl) YID) hS ?_
      try simp only [Act.put, List.setIfInBounds_toArray, List.set_cons_zero, List.set_cons_succ]
      refine wpAnyH_take (i := 8) (oi := { dst := some 35, op := Op.move (Operand.tmp 0), type := 24, pos := _, after := _, guard := none }) (v := (.slice (some ⟨b, off, none⟩) ts.length cap)) rfl (by kernel_rfl) (by kernel_rfl) (by kernel_rfl) (fun _ _ _ h => h) (yieldsIf_mv (by kernel_rfl) (.tmp 0) (by kernel_rfl) (by kernel_rfl)) hS ?_
      try simp only [Act.put, List.setIfInBounds_toArray, List.set_cons_zero, List.set_cons_succ]
      refine wpAnyH_take (i := 9) (oi := { dst := some 36, op := Op.move (Operand.tmp 6), type := 3, pos := _, after := _, guard := none }) (v := (.int .i64 (k : Int))) rfl (by kernel_rfl) (by kernel_rfl) (by kernel_rfl) (fun _ _ _ h => h) (yieldsIf_mv (by kernel_rfl) (.tmp 6) (by kernel_rfl) (by kernel_rfl)) hS ?_
      try simp only [Act.put, List.setIfInBounds_toArray, List.set_cons_zero, List.set_cons_succ]
      refine wpAnyH_take (i := 10) (oi := { dst := some 37, op := Op.slice 24 (Operand.tmp 35) (some (Operand.tmp 36)) none none, type := 24, pos := _, after := _, guard := none }) (v := hv) rfl (by kernel_rfl) (by kernel_rfl) (by kernel_rfl) (fun _ _ _ h => h) (.inl ⟨by kernel_rfl, fun W' hW => by have hlo := HHV.out W'; go_simp⟩) hS ?_
      try simp only [Act.put, List.setIfInBounds_toArray, List.set_cons_zero, List.set_cons_succ]
      refine wpAnyH_ready (rs := [4, 6]) (by kernel_rfl) (by simp) (AllReadyH.cons (o := { dst := some 31, op := Op.call { callee := Callee.builtin Builtin.append, args := #[Operand.tmp 27, Operand.tmp 30], argTypes := #[24, 24] }, type := 24, pos := _, after := _, guard := none }) rfl (fun K hK => ?_) (AllReadyH.cons (o := { dst := some 33, op := Op.buildSlice 24 1 #[(0, Operand.tmp 32)], type := 24, pos := _, after := _, guard := none }) rfl (fun K hK => ?_) AllReadyH.nil))
      · refine step24 rfl (.tmp 27) (.tmp 30) rfl wz.heap.size (.slice none 0 0) [] (ts.take k) rfl (OwnS.nil _ _ _ _ _) _ rfl (HTK.out.below hS) (by simp; omega) hS.size ?_
        intro v31 w31 r1 r2 r3
        have R31 : Hid (OwnS w31 wz.heap.size 32 32 idL v31 (ts.take k)) := Lib.hid r1
        clear r1 r3
        have hS1 := hS.trans r2
        refine hK.out _ _ hS1 (fun _ => ?_)
        clear hK K
        try simp only [Act.put, List.setIfInBounds_toArray, List.set_cons_zero, List.set_cons_succ]
        refine wpAnyH_ready (rs := [6]) (by kernel_rfl) (by simp) (AllReadyH.cons (o := { dst := some 33, op := Op.buildSlice 24 1 #[(0, Operand.tmp 32)], type := 24, pos := _, after := _, guard := none }) rfl (fun K hK => ?_) AllReadyH.nil)
        go_simp
        have hS2 := hS1.alloc hS1.size (.cells (idL id).toArray 32)
        refine hK.out _ _ hS2 (fun _ => ?_)
        clear hK K
        try simp only [Act.put, List.setIfInBounds_toArray, List.set_cons_zero, List.set_cons_succ]
        refine wpAnyH_ready (rs := [7]) (by kernel_rfl) (by simp) (AllReadyH.cons (o := { dst := some 34, op := Op.call { callee := Callee.builtin Builtin.append, args := #[Operand.tmp 31, Operand.tmp 33], argTypes := #[24, 24] }, type := 24, pos := _, after := _, guard := none }) rfl (fun K hK => ?_) AllReadyH.nil)
        refine step24 rfl (.tmp 31) (.tmp 33) rfl wz.heap.size v31 (ts.take k) [id] rfl (R31.out.alloc _) _ rfl (SlIn.one idL_length id (obj_alloc_at _ _ _ rfl)) (by simp; omega) hS2.size ?_
        intro v34 w34 r1 r2 r3
        have R34 : Hid (OwnS w34 wz.heap.size 32 32 idL v34 (ts.take k ++ [id])) := Lib.hid r1
        clear r1 r3
        have hS3 := hS2.trans r2
        refine hK.out _ _ hS3 (fun _ => ?_)
        clear hK K
        try simp only [Act.put, List.setIfInBounds_toArray, List.set_cons_zero, List.set_cons_succ]
        refine wpAnyH_ready (rs := [11]) (by kernel_rfl) (by simp) (AllReadyH.cons (o := { dst := some 38, op := Op.call { callee := Callee.builtin Builtin.append, args := #[Operand.tmp 34, Operand.tmp 37], argTypes := #[24, 24] }, type := 24, pos := _, after := _, guard := none }) rfl (fun K hK => ?_) AllReadyH.nil)
        refine step24 rfl (.tmp 34) (.tmp 37) rfl wz.heap.size v34 (ts.take k ++ [id]) (ts.drop k) rfl R34.out hv rfl (HSV.out _ (HSZ.out.below hS3)) (by simp; omega) hS3.size ?_
        intro v38 w38 r1 r2 r3
        have R38 : Hid (OwnC w38 wz.heap.size 32 32 idL v38 (ts.take k ++ [id] ++ ts.drop k)) := Lib.hid r1.1
        clear r1 r3
        have hS4 := hS3.trans r2
        refine hK.out _ _ hS4 (fun _ => ?_)
        clear hK K
        try simp only [Act.put, List.setIfInBounds_toArray, List.set_cons_zero, List.set_cons_succ]
        refine wpAnyH_take (i := 12) (oi := { dst := some 4, op := Op.assign (Operand.tmp 38), type := 24, pos := _, after := _, guard := none }) (v := v38) rfl (by kernel_rfl) (by kernel_rfl) (by kernel_rfl) (fun _ _ _ h => h) (.inl ⟨by kernel_rfl, fun W' hW => by go_simp⟩) hS4 ?_
        try simp only [Act.put, List.setIfInBounds_toArray, List.set_cons_zero, List.set_cons_succ]
        refine wpAnyH_done (by kernel_rfl) ?_ _
        go_wp2_with fail
        go_ret
        exact ⟨v38, rfl, by rw [HM.out]; exact R38.out.mono hzz, HBZ.out.trans (hS4.mono hzz)⟩
      · go_simp
        have hS1 := hS.alloc hS.size (.cells (idL id).toArray 32)
        refine hK.out _ _ hS1 (fun _ => ?_)
        clear hK K
        try simp only [Act.put, List.setIfInBounds_toArray, List.set_cons_zero, List.set_cons_succ]
        refine wpAnyH_ready (rs := [4]) (by kernel_rfl) (by simp) (AllReadyH.cons (o := { dst := some 31, op := Op.call { callee := Callee.builtin Builtin.append, args := #[Operand.tmp 27, Operand.tmp 30], argTypes := #[24, 24] }, type := 24, pos := _, after := _, guard := none }) rfl (fun K hK => ?_) AllReadyH.nil)
        refine step24 rfl (.tmp 27) (.tmp 30) rfl wz.heap.size (.slice none 0 0) [] (ts.take k) rfl (OwnS.nil _ _ _ _ _) _ rfl (HTK.out.below hS1) (by simp; omega) hS1.size ?_
        intro v31 w31 r1 r2 r3
        have R31 : Hid (OwnS w31 wz.heap.size 32 32 idL v31 (ts.take k)) := Lib.hid r1
        have XI : Hid (obj w31 wz.heap.size = some (.cells (idL id).toArray 32 (0, 0))) := Lib.hid ((r3 _ (by simp) (by simp [Value.ownBlock])).trans (obj_alloc_at _ _ _ rfl))
        clear r1 r3
        have hS2 := hS1.trans r2
        refine hK.out _ _ hS2 (fun _ => ?_)
        clear hK K
        try simp only [Act.put, List.setIfInBounds_toArray, List.set_cons_zero, List.set_cons_succ]
        refine wpAnyH_ready (rs := [7]) (by kernel_rfl) (by simp) (AllReadyH.cons (o := { dst := some 34, op := Op.call { callee := Callee.builtin Builtin.append, args := #[Operand.tmp 31, Operand.tmp 33], argTypes := #[24, 24] }, type := 24, pos := _, after := _, guard := none }) rfl (fun K hK => ?_) AllReadyH.nil)
        refine step24 rfl (.tmp 31) (.tmp 33) rfl wz.heap.size v31 (ts.take k) [id] rfl R31.out _ rfl (SlIn.one idL_length id XI.out) (by simp; omega) hS2.size ?_
        intro v34 w34 r1 r2 r3
        have R34 : Hid (OwnS w34 wz.heap.size 32 32 idL v34 (ts.take k ++ [id])) := Lib.hid r1
        clear r1 r3
        have hS3 := hS2.trans r2
        refine hK.out _ _ hS3 (fun _ => ?_)
        clear hK K
        try simp only [Act.put, List.setIfInBounds_toArray, List.set_cons_zero, List.set_cons_succ]
        refine wpAnyH_ready (rs := [11]) (by kernel_rfl) (by simp) (AllReadyH.cons (o := { dst := some 38, op := Op.call { callee := Callee.builtin Builtin.append, args := #[Operand.tmp 34, Operand.tmp 37], argTypes := #[24, 24] }, type := 24, pos := _, after := _, guard := none }) rfl (fun K hK => ?_) AllReadyH.nil)
        refine step24 rfl (.tmp 34) (.tmp 37) rfl wz.heap.size v34 (ts.take k ++ [id]) (ts.drop k) rfl R34.out hv rfl (HSV.out _ (HSZ.out.below hS3)) (by simp; omega) hS3.size ?_
        intro v38 w38 r1 r2 r3
        have R38 : Hid (OwnC w38 wz.heap.size 32 32 idL v38 (ts.take k ++ [id] ++ ts.drop k)) := Lib.hid r1.1
        clear r1 r3
        have hS4 := hS3.trans r2
        refine hK.out _ _ hS4 (fun _ => ?_)
        clear hK K
        try simp only [Act.put, List.setIfInBounds_toArray, List.set_cons_zero, List.set_cons_succ]
        refine wpAnyH_take (i := 12) (oi := { dst := some 4, op := Op.assign (Operand.tmp 38), type := 24, pos := _, after := _, guard := none }) (v := v38) rfl (by kernel_rfl) (by kernel_rfl) (by kernel_rfl) (fun _ _ _ h => h) (.inl ⟨by kernel_rfl, fun W' hW => by go_simp⟩) hS4 ?_
        try simp only [Act.put, List.setIfInBounds_toArray, List.set_cons_zero, List.set_cons_succ]
        refine wpAnyH_done (by kernel_rfl) ?_ _
        go_wp2_with fail
        go_ret
        exact ⟨v38, rfl, by rw [HM.out]; exact R38.out.mono hzz, HBZ.out.trans (hS4.mono hzz)⟩
end Go.Proofs.YtmgpfmgmpmkkaaaGreat
namespace Go.Proofs.YtmgpfmgmpmkkaaaGreat
open Go.RowKit Go.Shelf Go.Sort

set_option maxRecDepth 100000 in
set_option maxHeartbeats 8000000 in
/-- the reference's closed -/
theorem closedR_any (w : World) (base : Nat) (v : Value) (l : List Vd) (d : FrD) (m : FrM) (node : Int) (hl : SlIn w v 2 vdL l) (h : FrOwn w base d m) (hb : base ≤ w.heap.size) (hph0 : m.phase = 1 ∨ m.phase = 2) (hlen : m.op.length ≤ 4096) (hn : l.length ≤ 4096) :
    Calls Tryz.prog 40 #[v, frV d, .int .i64 node] w fun e w' => ∃ d', e = .returned (frV d') ∧ FrOwn w' base d' (closedM l.length m node) ∧ Below base w w' := by
  obtain ⟨la, lc, rfl, -, -, -⟩ := hl
  have hb0 : Below w.heap.size w ((w.alloc (.cells (frC d) 27)).alloc (.cells #[.int .i64 0, .slice none 0 0, .slice none 0 0, .slice none 0 0] 27)) := ((Below.refl _ w).alloc (Nat.le_refl _) _).alloc (by simp) _
  have ob : obj ((w.alloc (.cells (frC d) 27)).alloc (.cells #[.int .i64 0, .slice none 0 0, .slice none 0 0, .slice none 0 0] 27)) w.heap.size = some (.cells (frC d) 27 (0, 0)) := (obj_alloc_past _ _ _ (by simp)).trans (fr_box w d)
  have orr : obj ((w.alloc (.cells (frC d) 27)).alloc (.cells #[.int .i64 0, .slice none 0 0, .slice none 0 0, .slice none 0 0] 27)) (w.heap.size + 1) = some (.cells #[.int .i64 0, .slice none 0 0, .slice none 0 0, .slice none 0 0] 27 (0, 0)) := obj_alloc_at _ _ _ (by simp)
  have hz : ((w.alloc (.cells (frC d) 27)).alloc (.cells #[.int .i64 0, .slice none 0 0, .slice none 0 0, .slice none 0 0] 27)).heap.size = w.heap.size + 2 := by simp
  have HF := Lib.hid (h.below hb0)
  have HOP := Lib.hid (HF.out.op.slIn intL_length)
  have hon := HOP.out.n
  have HPH := Lib.hid h.phase
  have HP12 : Hid (d.phase = 1 ∨ d.phase = 2) := Lib.hid (by rw [h.phase]; exact hph0)
  obtain ⟨dp, doa, don, doc, dta, dtn, dtc, dsa, dsn, dsc⟩ := d
  simp only at hon
  subst hon
  have B0 := Lib.hid hb0
  have OB := Lib.hid ob
  have OR := Lib.hid orr
  have HZ := Lib.hid hz
  obtain ⟨oo, oc, e1, g1, g2, g3⟩ := HOP.out
  injection e1 with e1 _ e2
  subst e1 e2
  unfold maxLen at g2
  have G3 := Lib.hid g3
  have HDN : Hid (closedM l.length m node = if delI m.op node ≠ [] then { m with op := delI m.op node } else if m.phase = 1 ∧ m.tips ≠ [] then { m with phase := 2, op := rangeI l.length } else { m with phase := 3, op := [] }) := Lib.hid rfl
  generalize closedM l.length m node = M at *
  clear hb0 ob orr hz h g3 hph0
  go_enter Tryz.func40, Tryz.ntmps40
  go_wp2_with fail
  generalize (w.alloc (.cells (frC ⟨dp, doa, m.op.length, doc, dta, dtn, dtc, dsa, dsn, dsc⟩) 27)).alloc (.cells #[.int .i64 0, .slice none 0 0, .slice none 0 0, .slice none 0 0] 27) = w1 at *
  have hz := HZ.out
  go_loopw [7, 8] (fun v7 v8 wr => ∃ (k : Nat) (a : Option Addr) (q c : Nat), k ≤ m.op.length ∧ v8 = .int .i64 k ∧ v7 = .slice a q c ∧ Hid (OwnC wr w1.heap.size 3 1 intL (.slice a q c) (delI (m.op.take k) node)) ∧ Hid (Below w1.heap.size w1 wr)) (fun _ i _ => m.op.length - (intOf i).toNat)
  case atStart => exact ⟨0, none, 0, 0, Nat.zero_le _, rfl, rfl, Lib.hid (World.ownsRow_nil _ _ _ _), Lib.hid (Below.refl _ _)⟩
  case round =>
  obtain ⟨k, aq, nq, cq, hk, rfl, rfl, HO, HB⟩ := hrel
  have hzr := HB.out.size
  have OBr := Lib.hid ((obj_below HB.out (by omega)).trans OB.out)
  have ORr := Lib.hid ((obj_below HB.out (by omega)).trans OR.out)
  have hbr := lt_of_obj OBr.out
  have bx1 := cell_at OBr.out 1
  simp at bx1
  by_cases hlt : k < m.op.length
  case pos =>
    obtain ⟨b, off, rfl, hbb, hrow⟩ := G3.out (by omega)
    have hs1 := hrow k hlt
    rw [← obj_below HB.out hbb] at hs1
    have hbl : b < wr.heap.size := by omega
    have cx := int_row_cell (w := w) hlt hs1
    have hki : (k : Int) < m.op.length := by omega
    have HTK : Hid (delI (m.op.take (k + 1)) node = delI (m.op.take k) node ++ delI [m.op[k]] node) := Lib.hid (by
      rw [List.take_succ_eq_append_getElem hlt]; unfold delI; rw [List.filter_append])
    have HQL : Hid ((delI (m.op.take k) node).length = nq) := Lib.hid ((HO.out.slIn intL_length).n).symm
    have HQ4 : Hid ((delI (m.op.take k) node).length ≤ 1048576) := Lib.hid (by
      have h1 : (delI (m.op.take k) node).length ≤ (m.op.take k).length := List.length_filter_le _ _
      rw [List.length_take] at h1
      omega)
    generalize m.op[k] = x at *
    clear hrow hs1
    by_cases hx : x = node
    · have HTK2 : Hid (delI (m.op.take (k + 1)) node = delI (m.op.take k) node) := Lib.hid (by rw [HTK.out]; simp [delI, hx])
      have HO2 : Hid (OwnC wr w1.heap.size 3 1 intL (.slice aq nq cq) (delI (m.op.take (k + 1)) node)) := Lib.hid (by rw [HTK2.out]; exact HO.out)
      have hxb : (x != node) = false := by simp [hx]
      clear HO
      subst hx
      go_wp2_with fail
      go_roundw
      case rel => exact ⟨k + 1, aq, nq, cq, by omega, by go_num, rfl, HO2, HB⟩
      case measure => first | exact meas_step' hlt | (simp [intOf]; omega)
    · have HTK2 : Hid (delI (m.op.take (k + 1)) node = delI (m.op.take k) node ++ [x]) := Lib.hid (by rw [HTK.out]; simp [delI, hx])
      have hxb : (x != node) = true := by simp [hx]
      have BA : Hid (Below wr.heap.size wr (wr.alloc (.cells #[.int .i64 x] 3))) := Lib.hid ((Below.refl _ _).alloc (Nat.le_refl _) _)
      have OA : Hid (obj (wr.alloc (.cells #[.int .i64 x] 3)) wr.heap.size = some (.cells (intL x).toArray 3 (0, 0))) := Lib.hid (obj_alloc_at _ _ _ rfl)
      have HOA := Lib.hid (HO.out.below BA.out)
      have HBA : Hid (Below w1.heap.size w1 (wr.alloc (.cells #[.int .i64 x] 3))) := Lib.hid (HB.out.alloc hzr _)
      have hza : (wr.alloc (.cells #[.int .i64 x] 3)).heap.size = wr.heap.size + 1 := by simp
      have HLQ : Hid (∀ (a : Option Addr) (c : Nat), Value.slice a (delI (m.op.take k) node ++ [x]).length c = .slice a (nq + 1) c) := Lib.hid (fun a c => by rw [List.length_append, HQL.out]; rfl)
      go_wp2_with (at_builtin; refine pushI rfl _ _ rfl w1.heap.size (.slice aq nq cq) (delI (m.op.take k) node) x rfl HOA.out wr.heap.size rfl OA.out HQ4.out (by rw [hza]; omega) ?_; intro v6 w6 r6 b6 g6; obtain ⟨a6, c6, e6⟩ := r6.slice; have e7 := e6.trans (HLQ.out a6 c6); subst e7; have HO6 : Hid (OwnC w6 w1.heap.size 3 1 intL (.slice a6 (nq + 1) c6) (delI (m.op.take (k + 1)) node)) := Lib.hid (by rw [HTK2.out]; exact r6); have HB6 : Hid (Below w1.heap.size w1 w6) := Lib.hid (HBA.out.trans b6); clear r6 b6 g6 e6)
      go_roundw
      case rel => exact ⟨k + 1, a6, nq + 1, c6, by omega, by go_num, rfl, HO6, HB6⟩
      case measure => first | exact meas_step' hlt | (simp [intOf]; omega)
  case neg =>
  obtain rfl : k = m.op.length := by omega
  rw [List.take_length] at HO
  have HLN : Hid ((delI m.op node).length = nq) := Lib.hid ((HO.out.slIn intL_length).n).symm
  obtain ⟨w2, hw2⟩ : ∃ w2, w2 = wr := ⟨_, rfl⟩
  rw [← hw2] at HO HB OBr ORr hbr bx1 hzr ⊢
  clear hw2
  clear wr
  generalize nq = n2 at *
  generalize aq = a2 at *
  generalize cq = c2 at *
  have hz2 := hzr
  have OB2 := OBr
  have OR2 := ORr
  have HF2 := Lib.hid ((HF.out.below HB.out).setOp (fun _ _ _ => rfl) (HO.out.mono (base := base) (by omega)) dp)
  have B2 : Hid (Below base w w2) := Lib.hid ((B0.out.mono hb).trans (HB.out.mono (by omega)))
  clear HO HB OB OR HF B0 bx1 hbr hzr OBr ORr
  generalize m.op.length = onn at *
  have x1 := cell_at OB2.out 1
  have f1 := frozen_at OB2.out 1
  have hb2 := lt_of_obj OB2.out
  simp at x1
  have OB3 : Hid (obj (w2.setCell ⟨w.heap.size, 1, none⟩ (.slice a2 n2 c2)) w.heap.size = some (.cells #[.int .i64 dp, .slice a2 n2 c2, .slice dta dtn dtc, .slice dsa dsn dsc] 27 (0, 0))) := Lib.hid (by rw [obj_setCell_at _ OB2.out]; rfl)
  have OR3 : Hid (obj (w2.setCell ⟨w.heap.size, 1, none⟩ (.slice a2 n2 c2)) (w.heap.size + 1) = _) := Lib.hid ((obj_setCell_ne _ ⟨w.heap.size, 1, none⟩ _ _ (by dsimp only; omega)).trans OR2.out)
  have B3 : Hid (Below base w (w2.setCell ⟨w.heap.size, 1, none⟩ (.slice a2 n2 c2))) := Lib.hid (B2.out.setCell hb _)
  have HF3 := Lib.hid (HF2.out.setBox OB2.out 1 (.slice a2 n2 c2))
  have hz3 : (w2.setCell ⟨w.heap.size, 1, none⟩ (.slice a2 n2 c2)).heap.size = w2.heap.size := by simp
  have y1 := cell_at OB3.out 1
  simp at y1
  by_cases hp : 0 < n2
  case pos =>
    have HM : Hid (M = { m with op := delI m.op node }) := Lib.hid (by rw [HDN.out, if_pos (by intro e; have := HLN.out; rw [e] at this; simp at this; omega)])
    have x0 := cell_at OB3.out 0
    have x1 := cell_at OB3.out 1
    have x2 := cell_at OB3.out 2
    have x3 := cell_at OB3.out 3
    have y0 := cell_at OR3.out 0
    have y1 := cell_at OR3.out 1
    have y2 := cell_at OR3.out 2
    have y3 := cell_at OR3.out 3
    have yf := frozen_at OR3.out
    simp at x0 x1 x2 x3 y0 y1 y2 y3 yf
    go_wp2_with fail
    have q := obj_setCell_at (.slice dsa dsn dsc) (i := 3) (obj_setCell_at (.slice dta dtn dtc) (i := 2) (obj_setCell_at (.slice a2 n2 c2) (i := 1) (obj_setCell_at (.int .i64 dp) (i := 0) OR3.out)))
    have z0 := cell_at q 0
    have z1 := cell_at q 1
    have z2 := cell_at q 2
    have z3 := cell_at q 3
    have HQ := Lib.hid q
    clear q
    simp at z0 z1 z2 z3
    have HFE := Lib.hid ((((HF3.out.setBox OR3.out 0 (.int .i64 dp)).setBox (obj_setCell_at (.int .i64 dp) (i := 0) OR3.out) 1 (.slice a2 n2 c2)).setBox (obj_setCell_at (.slice a2 n2 c2) (i := 1) (obj_setCell_at (.int .i64 dp) (i := 0) OR3.out)) 2 (.slice dta dtn dtc)).setBox (obj_setCell_at (.slice dta dtn dtc) (i := 2) (obj_setCell_at (.slice a2 n2 c2) (i := 1) (obj_setCell_at (.int .i64 dp) (i := 0) OR3.out))) 3 (.slice dsa dsn dsc))
    have BE : Hid (Below base w (((((w2.setCell ⟨w.heap.size, 1, none⟩ (.slice a2 n2 c2)).setCell ⟨w.heap.size + 1, 0, none⟩ (.int .i64 dp)).setCell ⟨w.heap.size + 1, 1, none⟩ (.slice a2 n2 c2)).setCell ⟨w.heap.size + 1, 2, none⟩ (.slice dta dtn dtc)).setCell ⟨w.heap.size + 1, 3, none⟩ (.slice dsa dsn dsc))) := Lib.hid ((((B3.out.setCell (by dsimp only; omega) _).setCell (by dsimp only; omega) _).setCell (by dsimp only; omega) _).setCell (by dsimp only; omega) _)
    generalize ((((w2.setCell ⟨w.heap.size, 1, none⟩ (.slice a2 n2 c2)).setCell ⟨w.heap.size + 1, 0, none⟩ (.int .i64 dp)).setCell ⟨w.heap.size + 1, 1, none⟩ (.slice a2 n2 c2)).setCell ⟨w.heap.size + 1, 2, none⟩ (.slice dta dtn dtc)).setCell ⟨w.heap.size + 1, 3, none⟩ (.slice dsa dsn dsc) = wE at *
    refine bodyPost_ret (v := frV ⟨dp, a2, n2, c2, dta, dtn, dtc, dsa, dsn, dsc⟩) (by simp [results, Tryz.results40, go_sem, z0, z1, z2, z3]) rfl ⟨_, rfl, by rw [HM.out]; exact ⟨HPH.out, HFE.out.op, HFE.out.tips, HFE.out.said⟩, BE.out⟩
  case neg =>
    obtain rfl : n2 = 0 := by omega
    have HOP : Hid (delI m.op node = []) := Lib.hid (List.length_eq_zero_iff.1 HLN.out)
    have HTL : Hid (m.tips.length = dtn) := Lib.hid (HF3.out.tips.slIn idL_length).n.symm
    by_cases hph : dp = 1 ∧ 0 < dtn
    case neg =>
      have HM : Hid (M = { m with phase := 3, op := [] }) := Lib.hid (by rw [HDN.out, HOP.out, if_neg (by simp), if_neg (by rintro ⟨e1, e2⟩; refine hph ⟨HPH.out.trans e1, ?_⟩; rw [← HTL.out]; exact List.length_pos_iff.2 e2)])
      have OB4 : Hid (obj ((w2.setCell ⟨w.heap.size, 1, none⟩ (.slice a2 0 c2)).setCell ⟨w.heap.size, 0, none⟩ (.int .i64 3)) w.heap.size = some (.cells #[.int .i64 3, .slice a2 0 c2, .slice dta dtn dtc, .slice dsa dsn dsc] 27 (0, 0))) := Lib.hid (by rw [obj_setCell_at _ OB3.out]; rfl)
      have OR4 : Hid (obj ((w2.setCell ⟨w.heap.size, 1, none⟩ (.slice a2 0 c2)).setCell ⟨w.heap.size, 0, none⟩ (.int .i64 3)) (w.heap.size + 1) = _) := Lib.hid ((obj_setCell_ne _ ⟨w.heap.size, 0, none⟩ _ _ (by dsimp only; omega)).trans OR3.out)
      have B4 : Hid (Below base w ((w2.setCell ⟨w.heap.size, 1, none⟩ (.slice a2 0 c2)).setCell ⟨w.heap.size, 0, none⟩ (.int .i64 3))) := Lib.hid (B3.out.setCell hb _)
      have HF4 := Lib.hid (HF3.out.setBox OB3.out 0 (.int .i64 3))
      have v0 := cell_at OB3.out 0
      have v2 := cell_at OB3.out 2
      have vf := frozen_at OB3.out 0
      simp at v0 v2 vf
      by_cases h1 : dp = 1
      · have htp : ¬ 0 < dtn := fun e => hph ⟨h1, e⟩
        subst h1
        have ht0 : (dtn : Int) = 0 := by omega
        have ht1 : ((dtn : Int) == 0) = true := by rw [beq_iff_eq]; exact ht0
        have x0 := cell_at OB4.out 0
        have x1 := cell_at OB4.out 1
        have x2 := cell_at OB4.out 2
        have x3 := cell_at OB4.out 3
        have y0 := cell_at OR4.out 0
        have y1 := cell_at OR4.out 1
        have y2 := cell_at OR4.out 2
        have y3 := cell_at OR4.out 3
        have yf := frozen_at OR4.out
        simp at x0 x1 x2 x3 y0 y1 y2 y3 yf
        go_wp2_with fail
        have q := obj_setCell_at (.slice dsa dsn dsc) (i := 3) (obj_setCell_at (.slice dta dtn dtc) (i := 2) (obj_setCell_at (.slice a2 0 c2) (i := 1) (obj_setCell_at (.int .i64 3) (i := 0) OR4.out)))
        have z0 := cell_at q 0
        have z1 := cell_at q 1
        have z2 := cell_at q 2
        have z3 := cell_at q 3
        have HQ := Lib.hid q
        clear q
        simp at z0 z1 z2 z3
        have HFE := Lib.hid ((((HF4.out.setBox OR4.out 0 (.int .i64 3)).setBox (obj_setCell_at (.int .i64 3) (i := 0) OR4.out) 1 (.slice a2 0 c2)).setBox (obj_setCell_at (.slice a2 0 c2) (i := 1) (obj_setCell_at (.int .i64 3) (i := 0) OR4.out)) 2 (.slice dta dtn dtc)).setBox (obj_setCell_at (.slice dta dtn dtc) (i := 2) (obj_setCell_at (.slice a2 0 c2) (i := 1) (obj_setCell_at (.int .i64 3) (i := 0) OR4.out))) 3 (.slice dsa dsn dsc))
        have BE : Hid (Below base w ((((((w2.setCell ⟨w.heap.size, 1, none⟩ (.slice a2 0 c2)).setCell ⟨w.heap.size, 0, none⟩ (.int .i64 3)).setCell ⟨w.heap.size + 1, 0, none⟩ (.int .i64 3)).setCell ⟨w.heap.size + 1, 1, none⟩ (.slice a2 0 c2)).setCell ⟨w.heap.size + 1, 2, none⟩ (.slice dta dtn dtc)).setCell ⟨w.heap.size + 1, 3, none⟩ (.slice dsa dsn dsc))) := Lib.hid ((((B4.out.setCell (by dsimp only; omega) _).setCell (by dsimp only; omega) _).setCell (by dsimp only; omega) _).setCell (by dsimp only; omega) _)
        generalize (((((w2.setCell ⟨w.heap.size, 1, none⟩ (.slice a2 0 c2)).setCell ⟨w.heap.size, 0, none⟩ (.int .i64 3)).setCell ⟨w.heap.size + 1, 0, none⟩ (.int .i64 3)).setCell ⟨w.heap.size + 1, 1, none⟩ (.slice a2 0 c2)).setCell ⟨w.heap.size + 1, 2, none⟩ (.slice dta dtn dtc)).setCell ⟨w.heap.size + 1, 3, none⟩ (.slice dsa dsn dsc) = wE at *
        refine bodyPost_ret (v := frV ⟨3, a2, 0, c2, dta, dtn, dtc, dsa, dsn, dsc⟩) (by simp [results, Tryz.results40, go_sem, z0, z1, z2, z3]) rfl ⟨_, rfl, by rw [HM.out]; exact ⟨rfl, by have := HFE.out.op; rw [HOP.out] at this; exact this, HFE.out.tips, HFE.out.said⟩, BE.out⟩
      · obtain rfl : dp = 2 := by have := HP12.out; omega
        clear hph
        have x0 := cell_at OB4.out 0
        have x1 := cell_at OB4.out 1
        have x2 := cell_at OB4.out 2
        have x3 := cell_at OB4.out 3
        have y0 := cell_at OR4.out 0
        have y1 := cell_at OR4.out 1
        have y2 := cell_at OR4.out 2
        have y3 := cell_at OR4.out 3
        have yf := frozen_at OR4.out
        simp at x0 x1 x2 x3 y0 y1 y2 y3 yf
        go_wp2_with fail
        have q := obj_setCell_at (.slice dsa dsn dsc) (i := 3) (obj_setCell_at (.slice dta dtn dtc) (i := 2) (obj_setCell_at (.slice a2 0 c2) (i := 1) (obj_setCell_at (.int .i64 3) (i := 0) OR4.out)))
        have z0 := cell_at q 0
        have z1 := cell_at q 1
        have z2 := cell_at q 2
        have z3 := cell_at q 3
        have HQ := Lib.hid q
        clear q
        simp at z0 z1 z2 z3
        have HFE := Lib.hid ((((HF4.out.setBox OR4.out 0 (.int .i64 3)).setBox (obj_setCell_at (.int .i64 3) (i := 0) OR4.out) 1 (.slice a2 0 c2)).setBox (obj_setCell_at (.slice a2 0 c2) (i := 1) (obj_setCell_at (.int .i64 3) (i := 0) OR4.out)) 2 (.slice dta dtn dtc)).setBox (obj_setCell_at (.slice dta dtn dtc) (i := 2) (obj_setCell_at (.slice a2 0 c2) (i := 1) (obj_setCell_at (.int .i64 3) (i := 0) OR4.out))) 3 (.slice dsa dsn dsc))
        have BE : Hid (Below base w ((((((w2.setCell ⟨w.heap.size, 1, none⟩ (.slice a2 0 c2)).setCell ⟨w.heap.size, 0, none⟩ (.int .i64 3)).setCell ⟨w.heap.size + 1, 0, none⟩ (.int .i64 3)).setCell ⟨w.heap.size + 1, 1, none⟩ (.slice a2 0 c2)).setCell ⟨w.heap.size + 1, 2, none⟩ (.slice dta dtn dtc)).setCell ⟨w.heap.size + 1, 3, none⟩ (.slice dsa dsn dsc))) := Lib.hid ((((B4.out.setCell (by dsimp only; omega) _).setCell (by dsimp only; omega) _).setCell (by dsimp only; omega) _).setCell (by dsimp only; omega) _)
        generalize (((((w2.setCell ⟨w.heap.size, 1, none⟩ (.slice a2 0 c2)).setCell ⟨w.heap.size, 0, none⟩ (.int .i64 3)).setCell ⟨w.heap.size + 1, 0, none⟩ (.int .i64 3)).setCell ⟨w.heap.size + 1, 1, none⟩ (.slice a2 0 c2)).setCell ⟨w.heap.size + 1, 2, none⟩ (.slice dta dtn dtc)).setCell ⟨w.heap.size + 1, 3, none⟩ (.slice dsa dsn dsc) = wE at *
        refine bodyPost_ret (v := frV ⟨3, a2, 0, c2, dta, dtn, dtc, dsa, dsn, dsc⟩) (by simp [results, Tryz.results40, go_sem, z0, z1, z2, z3]) rfl ⟨_, rfl, by rw [HM.out]; exact ⟨rfl, by have := HFE.out.op; rw [HOP.out] at this; exact this, HFE.out.tips, HFE.out.said⟩, BE.out⟩
    obtain ⟨rfl, htp⟩ := hph
    have ht0 : ¬ (dtn : Int) = 0 := by omega
    have ht1 : ((dtn : Int) == 0) = false := by rw [beq_eq_false_iff_ne]; omega
    have HM : Hid (M = { m with phase := 2, op := rangeI l.length }) := Lib.hid (by rw [HDN.out, HOP.out, if_neg (by simp), if_pos ⟨HPH.out.symm, by intro e; have := HTL.out; rw [e] at this; simp at this; omega⟩])
    have OB4 : Hid (obj ((w2.setCell ⟨w.heap.size, 1, none⟩ (.slice a2 0 c2)).setCell ⟨w.heap.size, 0, none⟩ (.int .i64 2)) w.heap.size = some (.cells #[.int .i64 2, .slice a2 0 c2, .slice dta dtn dtc, .slice dsa dsn dsc] 27 (0, 0))) := Lib.hid (by rw [obj_setCell_at _ OB3.out]; rfl)
    have OR4 : Hid (obj ((w2.setCell ⟨w.heap.size, 1, none⟩ (.slice a2 0 c2)).setCell ⟨w.heap.size, 0, none⟩ (.int .i64 2)) (w.heap.size + 1) = _) := Lib.hid ((obj_setCell_ne _ ⟨w.heap.size, 0, none⟩ _ _ (by dsimp only; omega)).trans OR3.out)
    have B4 : Hid (Below base w ((w2.setCell ⟨w.heap.size, 1, none⟩ (.slice a2 0 c2)).setCell ⟨w.heap.size, 0, none⟩ (.int .i64 2))) := Lib.hid (B3.out.setCell hb _)
    have HF4 := Lib.hid (HF3.out.setBox OB3.out 0 (.int .i64 2))
    have v0 := cell_at OB3.out 0
    have v2 := cell_at OB3.out 2
    have vf := frozen_at OB3.out 0
    simp at v0 v2 vf
    have HF5 : Hid (FrOwn ((w2.setCell ⟨w.heap.size, 1, none⟩ (.slice a2 0 c2)).setCell ⟨w.heap.size, 0, none⟩ (.int .i64 2)) base ⟨2, a2, 0, c2, dta, dtn, dtc, dsa, dsn, dsc⟩ ⟨2, rangeI 0, m.tips, m.said⟩) := Lib.hid ⟨rfl, by have := HF4.out.op; rw [HOP.out] at this; exact this, HF4.out.tips, HF4.out.said⟩
    have HNL : Hid (∀ k : Nat, k = l.length → M = ⟨2, rangeI k, m.tips, m.said⟩) := Lib.hid (fun k e => by subst e; exact HM.out)
    have hz5 : ((w2.setCell ⟨w.heap.size, 1, none⟩ (.slice a2 0 c2)).setCell ⟨w.heap.size, 0, none⟩ (.int .i64 2)).heap.size = w2.heap.size := by simp
    have hzb : w.heap.size + 2 ≤ w2.heap.size := by omega
    clear HM HDN HF4
    have HLL : Hid (l.length = l.length) := Lib.hid rfl
    generalize l.length = n at *
    go_wp2_with fail
    generalize (w2.setCell ⟨w.heap.size, 1, none⟩ (.slice a2 0 c2)).setCell ⟨w.heap.size, 0, none⟩ (.int .i64 2) = w5 at *
    have HSZ5 : Hid (w.heap.size + 2 ≤ w5.heap.size) := Lib.hid (by omega)
    clear hz5
    go_loopw [9] (fun v9 wr => ∃ (k : Nat) (a : Option Addr) (c : Nat), k ≤ n ∧ v9 = .int .i64 k ∧ Hid (FrOwn wr base ⟨2, a, k, c, dta, dtn, dtc, dsa, dsn, dsc⟩ ⟨2, rangeI k, m.tips, m.said⟩) ∧ Hid (obj wr w.heap.size = some (.cells #[.int .i64 2, .slice a k c, .slice dta dtn dtc, .slice dsa dsn dsc] 27 (0, 0))) ∧ Hid (obj wr (w.heap.size + 1) = some (.cells #[.int .i64 0, .slice none 0 0, .slice none 0 0, .slice none 0 0] 27 (0, 0))) ∧ Hid (Below base w wr) ∧ Hid (w.heap.size + 2 ≤ wr.heap.size)) (fun i _ => n - (intOf i).toNat)
    case atStart => exact ⟨0, a2, c2, Nat.zero_le _, rfl, HF5, OB4, OR4, B4, HSZ5⟩
    case round =>
      clear HF5 OB4 OR4 B4 HSZ5
      obtain ⟨k, a, c, hk, rfl, HF, OB, OR, HB, HSZ⟩ := hrel
      have hzr := HSZ.out
      by_cases hlt : k < n
      case neg =>
        obtain rfl : k = n := by omega
        have HM := Lib.hid (HNL.out k)
        have x0 := cell_at OB.out 0
        have x1 := cell_at OB.out 1
        have x2 := cell_at OB.out 2
        have x3 := cell_at OB.out 3
        have y0 := cell_at OR.out 0
        have y1 := cell_at OR.out 1
        have y2 := cell_at OR.out 2
        have y3 := cell_at OR.out 3
        have yf := frozen_at OR.out
        simp at x0 x1 x2 x3 y0 y1 y2 y3 yf
        go_wp2_with fail
        have q := obj_setCell_at (.slice dsa dsn dsc) (i := 3) (obj_setCell_at (.slice dta dtn dtc) (i := 2) (obj_setCell_at (.slice a k c) (i := 1) (obj_setCell_at (.int .i64 2) (i := 0) OR.out)))
        have z0 := cell_at q 0
        have z1 := cell_at q 1
        have z2 := cell_at q 2
        have z3 := cell_at q 3
        have HQ := Lib.hid q
        clear q
        simp at z0 z1 z2 z3
        have HFE := Lib.hid ((((HF.out.setBox OR.out 0 (.int .i64 2)).setBox (obj_setCell_at (.int .i64 2) (i := 0) OR.out) 1 (.slice a k c)).setBox (obj_setCell_at (.slice a k c) (i := 1) (obj_setCell_at (.int .i64 2) (i := 0) OR.out)) 2 (.slice dta dtn dtc)).setBox (obj_setCell_at (.slice dta dtn dtc) (i := 2) (obj_setCell_at (.slice a k c) (i := 1) (obj_setCell_at (.int .i64 2) (i := 0) OR.out))) 3 (.slice dsa dsn dsc))
        have BE : Hid (Below base w ((((wr.setCell ⟨w.heap.size + 1, 0, none⟩ (.int .i64 2)).setCell ⟨w.heap.size + 1, 1, none⟩ (.slice a k c)).setCell ⟨w.heap.size + 1, 2, none⟩ (.slice dta dtn dtc)).setCell ⟨w.heap.size + 1, 3, none⟩ (.slice dsa dsn dsc))) := Lib.hid ((((HB.out.setCell (by dsimp only; omega) _).setCell (by dsimp only; omega) _).setCell (by dsimp only; omega) _).setCell (by dsimp only; omega) _)
        generalize (((wr.setCell ⟨w.heap.size + 1, 0, none⟩ (.int .i64 2)).setCell ⟨w.heap.size + 1, 1, none⟩ (.slice a k c)).setCell ⟨w.heap.size + 1, 2, none⟩ (.slice dta dtn dtc)).setCell ⟨w.heap.size + 1, 3, none⟩ (.slice dsa dsn dsc) = wE at *
        refine bodyPost_ret (v := frV ⟨2, a, k, c, dta, dtn, dtc, dsa, dsn, dsc⟩) (by simp [results, Tryz.results40, go_sem, z0, z1, z2, z3]) rfl ⟨_, rfl, by rw [HM.out HLL.out]; exact HFE.out, BE.out⟩
      have BA : Hid (Below wr.heap.size wr (wr.alloc (.cells #[.int .i64 k] 3))) := Lib.hid ((Below.refl _ _).alloc (Nat.le_refl _) _)
      have OA : Hid (obj (wr.alloc (.cells #[.int .i64 k] 3)) wr.heap.size = some (.cells (intL k).toArray 3 (0, 0))) := Lib.hid (obj_alloc_at _ _ _ rfl)
      have HFA := Lib.hid (HF.out.below BA.out)
      have OBA := Lib.hid ((obj_below BA.out (lt_of_obj OB.out)).trans OB.out)
      have ORA := Lib.hid ((obj_below BA.out (lt_of_obj OR.out)).trans OR.out)
      have HBA : Hid (Below base w (wr.alloc (.cells #[.int .i64 k] 3))) := Lib.hid (HB.out.trans (BA.out.mono (by omega)))
      have hza : (wr.alloc (.cells #[.int .i64 k] 3)).heap.size = wr.heap.size + 1 := by simp
      have HNB : Hid ((Value.slice a k c).ownBlock ≠ some w.heap.size) := Lib.hid (HF.out.op.ne OB.out (fun cur h => by injection h with h1 h2; cases h2))
      have HNR : Hid ((Value.slice a k c).ownBlock ≠ some (w.heap.size + 1)) := Lib.hid (HF.out.op.ne OR.out (fun cur h => by injection h with h1 h2; cases h2))
      have x1 := cell_at OB.out 1
      simp at x1
      have hkn : (k : Int) < n := by omega
      have hww := wrapN (k + 1) (by omega)
      have HLQ : Hid (∀ (a : Option Addr) (c : Nat), Value.slice a (rangeI k ++ [(k : Int)]).length c = .slice a (k + 1) c) := Lib.hid (fun a c => by rw [← rangeI_succ, len_rangeI])
      have hll : (rangeI k).length ≤ 1048576 := by rw [len_rangeI]; omega
      go_wp2_with (at_builtin; refine pushI rfl _ _ rfl base (.slice a k c) (rangeI k) (k : Int) rfl HFA.out.op wr.heap.size rfl OA.out hll (by rw [hza]; omega) ?_; intro v6 w6 r6 b6 g6; obtain ⟨a6, c6, e6⟩ := r6.slice; have HO6 : Hid (OwnC w6 base 3 1 intL v6 (rangeI (k + 1))) := Lib.hid (by rw [rangeI_succ]; exact r6); have e7 := e6.trans (HLQ.out a6 c6); subst e7; have OB6 : Hid (obj w6 w.heap.size = some (.cells #[.int .i64 2, .slice a k c, .slice dta dtn dtc, .slice dsa dsn dsc] 27 (0, 0))) := Lib.hid ((g6 _ (by rw [hza]; omega) HNB.out).trans OBA.out); have OR6 : Hid (obj w6 (w.heap.size + 1) = some (.cells #[.int .i64 0, .slice none 0 0, .slice none 0 0, .slice none 0 0] 27 (0, 0))) := Lib.hid ((g6 _ (by rw [hza]; omega) HNR.out).trans ORA.out); have HF6 : Hid (FrOwn w6 base ⟨2, a6, k + 1, c6, dta, dtn, dtc, dsa, dsn, dsc⟩ ⟨2, rangeI (k + 1), m.tips, m.said⟩) := Lib.hid (HFA.out.setOp g6 HO6.out 2); have HB6 : Hid (Below base w w6) := Lib.hid (HBA.out.trans (b6.mono (Nat.le_refl _))); have hz6 : w.heap.size + 2 ≤ w6.heap.size := (by have := b6.size; omega); have u1 := cell_at OB6.out 1; have uf := frozen_at OB6.out 1; clear r6 b6 g6 e6; simp at u1)
      have HF7 := Lib.hid (HF6.out.setBox OB6.out 1 (.slice a6 (k + 1) c6))
      have OB7 : Hid (obj (w6.setCell ⟨w.heap.size, 1, none⟩ (.slice a6 (k + 1) c6)) w.heap.size = some (.cells #[.int .i64 2, .slice a6 (k + 1) c6, .slice dta dtn dtc, .slice dsa dsn dsc] 27 (0, 0))) := Lib.hid (by rw [obj_setCell_at _ OB6.out]; rfl)
      have OR7 : Hid (obj (w6.setCell ⟨w.heap.size, 1, none⟩ (.slice a6 (k + 1) c6)) (w.heap.size + 1) = _) := Lib.hid ((obj_setCell_ne _ ⟨w.heap.size, 1, none⟩ _ _ (by dsimp only; omega)).trans OR6.out)
      have HB7 : Hid (Below base w (w6.setCell ⟨w.heap.size, 1, none⟩ (.slice a6 (k + 1) c6))) := Lib.hid (HB6.out.setCell hb _)
      have HZ7 : Hid (w.heap.size + 2 ≤ (w6.setCell ⟨w.heap.size, 1, none⟩ (.slice a6 (k + 1) c6)).heap.size) := Lib.hid (by simpa using hz6)
      go_roundw
      case rel => exact ⟨k + 1, a6, c6, by omega, by go_num, HF7, OB7, OR7, HB7, HZ7⟩
      case measure => exact meas_step' hlt
end Go.Proofs.YtmgpfmgmpmkkaaaGreat
namespace Go.Proofs.YtmgpfmgmpmkkaaaGreat
open Go.RowKit Go.Shelf Go.Sort

theorem mayE_dec {l : List Vd} {m : FrM} : mayE l m = 0 ∨ mayE l m = 210 := by unfold mayE; split <;> simp
theorem mayE_ok {l : List Vd} {m : FrM} : mayE l m = 0 ↔ mayB l m = true := by
  unfold mayE
  by_cases h : mayB l m = true
  · simp [h]
  · simp [h]
theorem mayB_op {l : List Vd} {m : FrM} (h : mayB l m = true) {x : Int} (hx : x ∈ m.op) : m.phase = 1 ∨ m.phase = 2 := by
  unfold mayB at h
  have hp : phaseB m = true := by
    rw [Bool.and_eq_true] at h
    exact h.2
  unfold phaseB at hp
  by_cases h1 : m.phase = 1
  · exact .inl h1
  by_cases h2 : m.phase = 2
  · exact .inr h2
  rw [if_neg h1, if_neg h2] at hp
  by_cases h3 : m.phase = 3
  · rw [if_pos h3] at hp
    have h4 : m.op.length = 0 := of_decide_eq_true hp
    rw [List.length_eq_zero_iff.1 h4] at hx
    simp at hx
  · rw [if_neg h3] at hp; cases hp
theorem mayB_tips {l : List Vd} {m : FrM} (h : mayB l m = true) : risB m.tips = true ∧ m.tips.length ≤ 32 := by
  unfold mayB at h
  simp only [Bool.and_eq_true, decide_eq_true_eq] at h
  exact ⟨h.1.1.1.2, h.1.1.2⟩
theorem asksE_may {l : List Vd} {m : FrM} {ph node : Int} (h : mayE l m = 210) : asksE l m ph node = 210 := by
  unfold asksE
  rw [if_neg (fun e => by rw [mayE_ok.2 e] at h; cases h)]
theorem asksE_no {l : List Vd} {m : FrM} {ph node : Int} (h : mayE l m = 0) (h2 : (ph ≠ 0 ∧ m.phase ≠ ph) ∨ node ∉ m.op) : asksE l m ph node = 4 := by
  unfold asksE
  rw [if_pos (mayE_ok.1 h), if_pos h2]
theorem asksE_yes {l : List Vd} {m : FrM} {ph node : Int} (h : mayE l m = 0) (h2 : ¬ ((ph ≠ 0 ∧ m.phase ≠ ph) ∨ node ∉ m.op)) : asksE l m ph node = 0 := by
  unfold asksE
  rw [if_pos (mayE_ok.1 h), if_neg h2]
theorem tipR_full {l : List Vd} {m : FrM} {node : Int} {id : ID} (h : asksE l m 1 node = 0) (h1 : 32 < (addT m.tips id).length) : tipR l m node id = (zeroM, 1) := by
  unfold tipR
  rw [h, if_neg (by decide), if_pos]
  have hm := mayB_tips (asksE_op h).1
  by_cases hi : id ∈ m.tips
  · rw [addT_in hi] at h1; omega
  · have := len_addT m.tips id
    exact ⟨hi, by omega⟩
theorem tipR_yes {l : List Vd} {m : FrM} {node : Int} {id : ID} (h : asksE l m 1 node = 0) (h1 : (addT m.tips id).length ≤ 32) : tipR l m node id = (closedM l.length { m with tips := addT m.tips id } node, 0) := by
  unfold tipR
  rw [h, if_neg (by decide), if_neg]
  · rfl
  · rintro ⟨hi, h2⟩
    have : (addT m.tips id).length = m.tips.length + 1 := by
      unfold addT
      rw [if_neg hi, (sortI_perm _).length_eq]; simp
    omega
set_option maxRecDepth 100000 in
set_option maxHeartbeats 8000000 in
/-- the reference's Failed -/
theorem refFailed_any (w : World) (v : Value) (l : List Vd) (d : FrD) (m : FrM) (node : Int) (hl : SlIn w v 2 vdL l) (hN : ∀ x ∈ l, x.name.size ≤ 300) (hln : l.length ≤ 4096) (h : FrAt w d m) (hs : FrSm m) :
    Calls Tryz.prog 14 #[v, frV d, .int .i64 node] w (RetFr w (failR l m node).1 (failR l m node).2) := by
  have hb0 : Below w.heap.size w ((w.alloc (.cells (frC d) 27)).alloc (.cells #[.int .i64 0, .slice none 0 0, .slice none 0 0, .slice none 0 0] 27)) := ((Below.refl _ w).alloc (Nat.le_refl _) _).alloc (by simp) _
  have ob : obj ((w.alloc (.cells (frC d) 27)).alloc (.cells #[.int .i64 0, .slice none 0 0, .slice none 0 0, .slice none 0 0] 27)) w.heap.size = some (.cells (frC d) 27 (0, 0)) := (obj_alloc_past _ _ _ (by simp)).trans (fr_box w d)
  have orr : obj ((w.alloc (.cells (frC d) 27)).alloc (.cells #[.int .i64 0, .slice none 0 0, .slice none 0 0, .slice none 0 0] 27)) (w.heap.size + 1) = some (.cells #[.int .i64 0, .slice none 0 0, .slice none 0 0, .slice none 0 0] 27 (0, 0)) := obj_alloc_at _ _ _ (by simp)
  have hz : ((w.alloc (.cells (frC d) 27)).alloc (.cells #[.int .i64 0, .slice none 0 0, .slice none 0 0, .slice none 0 0] 27)).heap.size = w.heap.size + 2 := by simp
  have HM := Lib.hid (mayR_any _ v l d m (hl.below hb0) hN (h.below hb0) hs.op (by have := hs.tips; omega) hs.said (fun s q => by have := hs.ids s q; omega))
  have HL := Lib.hid hl
  have HF := Lib.hid h
  have HS := Lib.hid hs
  have HD := Lib.hid (mayE_dec (l := l) (m := m))
  have HOPP : Hid (mayE l m = 0 → ∀ x ∈ m.op, m.phase = 1 ∨ m.phase = 2) := Lib.hid (fun h x hx => mayB_op (mayE_ok.1 h) hx)
  have HT1 : Hid (mayE l m = 210 → failR l m node = (zeroM, 210)) := Lib.hid (fun h => by unfold failR; rw [asksE_may h, if_pos (by decide)])
  have HT2 : Hid (mayE l m = 0 → node ∉ m.op → failR l m node = (zeroM, 4)) := Lib.hid (fun h h2 => by unfold failR; rw [asksE_no h (.inr h2), if_pos (by decide)])
  have HT3 : Hid (mayE l m = 0 → node ∈ m.op → failR l m node = (closedM l.length m node, 0)) := Lib.hid (fun h h2 => by unfold failR; rw [asksE_yes h (by simp [h2]), if_neg (by decide)])
  generalize failR l m node = T at *
  generalize mayE l m = ME at *
  have B0 := Lib.hid hb0
  have OB := Lib.hid ob
  have OR := Lib.hid orr
  have HZ := Lib.hid hz
  obtain ⟨la, lc, rfl, -, -, -⟩ := hl
  obtain ⟨dp, doa, don, doc, dta, dtn, dtc, dsa, dsn, dsc⟩ := d
  clear hb0 ob orr hz h hs
  have x0 := cell_at OB.out 0
  have x1 := cell_at OB.out 1
  have x2 := cell_at OB.out 2
  have x3 := cell_at OB.out 3
  simp at x0 x1 x2 x3
  go_enter Tryz.func14, Tryz.ntmps14
  go_wp2_with fail
  generalize (w.alloc (.cells (frC ⟨dp, doa, don, doc, dta, dtn, dtc, dsa, dsn, dsc⟩) 27)).alloc (.cells #[.int .i64 0, .slice none 0 0, .slice none 0 0, .slice none 0 0] 27) = w1 at *
  have hz := HZ.out
  clear x0 x1 x2 x3
  refine HM.out.mono ?_
  rintro e w2 ⟨rfl, b2⟩
  have hz2 := b2.size
  have OB2 := Lib.hid ((obj_below b2 (lt_of_obj OB.out)).trans OB.out)
  have OR2 := Lib.hid ((obj_below b2 (lt_of_obj OR.out)).trans OR.out)
  have B2 : Hid (Below w.heap.size w w2) := Lib.hid (B0.out.trans (b2.mono B0.out.size))
  clear b2 HM OB OR B0
  rcases HD.out with rfl | rfl
  case inr =>
    obtain rfl : T = (zeroM, 210) := HT1.out (by first | rfl | trivial)
    have y0 := cell_at OR2.out 0
    have y1 := cell_at OR2.out 1
    have y2 := cell_at OR2.out 2
    have y3 := cell_at OR2.out 3
    have yf := frozen_at OR2.out
    simp at y0 y1 y2 y3 yf
    go_wp2_with fail
    have q := obj_setCell_at (.slice none 0 0) (i := 3) (obj_setCell_at (.slice none 0 0) (i := 2) (obj_setCell_at (.slice none 0 0) (i := 1) (obj_setCell_at (.int .i64 0) (i := 0) OR2.out)))
    have z0 := cell_at q 0
    have z1 := cell_at q 1
    have z2 := cell_at q 2
    have z3 := cell_at q 3
    have HQ := Lib.hid q
    clear q
    simp at z0 z1 z2 z3
    have BE : Hid (Below w.heap.size w ((((w2.setCell ⟨w.heap.size + 1, 0, none⟩ (.int .i64 0)).setCell ⟨w.heap.size + 1, 1, none⟩ (.slice none 0 0)).setCell ⟨w.heap.size + 1, 2, none⟩ (.slice none 0 0)).setCell ⟨w.heap.size + 1, 3, none⟩ (.slice none 0 0))) := Lib.hid ((((B2.out.setCell (by dsimp only; omega) _).setCell (by dsimp only; omega) _).setCell (by dsimp only; omega) _).setCell (by dsimp only; omega) _)
    generalize (((w2.setCell ⟨w.heap.size + 1, 0, none⟩ (.int .i64 0)).setCell ⟨w.heap.size + 1, 1, none⟩ (.slice none 0 0)).setCell ⟨w.heap.size + 1, 2, none⟩ (.slice none 0 0)).setCell ⟨w.heap.size + 1, 3, none⟩ (.slice none 0 0) = wE at *
    refine bodyPost_ret (v := .tuple #[frV zeroD, .int .i64 210]) (by simp [results, Tryz.results14, go_sem, z0, z1, z2, z3]) rfl ⟨_, rfl, frOwn_zero _ _, BE.out⟩
  have HI := Lib.hid (hasInt_any w2 (.slice doa don doc) m.op node (HF.out.op.below B2.out))
  have x1 := cell_at OB2.out 1
  simp at x1
  go_wp2_with fail
  refine HI.out.mono ?_
  rintro e w9 ⟨rfl, hw9⟩
  cases hw9
  clear HI x1
  by_cases hin : node ∈ m.op
  case neg =>
    obtain rfl : T = (zeroM, 4) := HT2.out (by first | rfl | trivial) hin
    have hd : decide (node ∈ m.op) = false := decide_eq_false hin
    generalize decide (node ∈ m.op) = DD at *
    subst hd
    clear hin
    have y0 := cell_at OR2.out 0
    have y1 := cell_at OR2.out 1
    have y2 := cell_at OR2.out 2
    have y3 := cell_at OR2.out 3
    have yf := frozen_at OR2.out
    simp at y0 y1 y2 y3 yf
    go_wp2_with fail
    have q := obj_setCell_at (.slice none 0 0) (i := 3) (obj_setCell_at (.slice none 0 0) (i := 2) (obj_setCell_at (.slice none 0 0) (i := 1) (obj_setCell_at (.int .i64 0) (i := 0) OR2.out)))
    have z0 := cell_at q 0
    have z1 := cell_at q 1
    have z2 := cell_at q 2
    have z3 := cell_at q 3
    have HQ := Lib.hid q
    clear q
    simp at z0 z1 z2 z3
    have BE : Hid (Below w.heap.size w ((((w2.setCell ⟨w.heap.size + 1, 0, none⟩ (.int .i64 0)).setCell ⟨w.heap.size + 1, 1, none⟩ (.slice none 0 0)).setCell ⟨w.heap.size + 1, 2, none⟩ (.slice none 0 0)).setCell ⟨w.heap.size + 1, 3, none⟩ (.slice none 0 0))) := Lib.hid ((((B2.out.setCell (by dsimp only; omega) _).setCell (by dsimp only; omega) _).setCell (by dsimp only; omega) _).setCell (by dsimp only; omega) _)
    generalize (((w2.setCell ⟨w.heap.size + 1, 0, none⟩ (.int .i64 0)).setCell ⟨w.heap.size + 1, 1, none⟩ (.slice none 0 0)).setCell ⟨w.heap.size + 1, 2, none⟩ (.slice none 0 0)).setCell ⟨w.heap.size + 1, 3, none⟩ (.slice none 0 0) = wE at *
    refine bodyPost_ret (v := .tuple #[frV zeroD, .int .i64 4]) (by simp [results, Tryz.results14, go_sem, z0, z1, z2, z3]) rfl ⟨_, rfl, frOwn_zero _ _, BE.out⟩
  obtain rfl : T = (closedM l.length m node, 0) := HT3.out (by first | rfl | trivial) hin
  have hph := HOPP.out (by first | rfl | trivial) node hin
  have hd : decide (node ∈ m.op) = true := decide_eq_true hin
  generalize decide (node ∈ m.op) = DD at *
  subst hd
  clear hin HT1 HT2 HT3 HOPP
  have HCL := Lib.hid (cloneR_any w2 ⟨dp, doa, don, doc, dta, dtn, dtc, dsa, dsn, dsc⟩ m (HF.out.below B2.out) HS.out)
  have x0 := cell_at OB2.out 0
  have x1 := cell_at OB2.out 1
  have x2 := cell_at OB2.out 2
  have x3 := cell_at OB2.out 3
  simp at x0 x1 x2 x3
  go_wp2_with fail
  refine HCL.out.mono ?_
  rintro e w3 ⟨d3, rfl, hf3, b3⟩
  have hz3 := b3.size
  have OR3 := Lib.hid ((obj_below b3 (lt_of_obj OR2.out)).trans OR2.out)
  have B3 : Hid (Below w.heap.size w w3) := Lib.hid (B2.out.trans (b3.mono B2.out.size))
  have HCD := Lib.hid (closedR_any w3 (w.heap.size + 2) (.slice la l.length lc) l d3 m node (HL.out.below B3.out) (hf3.mono (by omega)) (by omega) hph HS.out.op hln)
  clear b3 hf3 HCL OB2 OR2 B2 x0 x1 x2 x3
  go_wp2_with fail
  refine HCD.out.mono ?_
  rintro e w4 ⟨⟨ep, eoa, eon, eoc, eta, etn, etc, esa, esn, esc⟩, rfl, hf4, b4⟩
  have hz4 := b4.size
  have OR4 := Lib.hid ((obj_below b4 (by omega)).trans OR3.out)
  have B4 : Hid (Below w.heap.size w w4) := Lib.hid (B3.out.trans (b4.mono (by omega)))
  have HF4 := Lib.hid (hf4.mono (base := w.heap.size) (by omega))
  clear b4 hf4 HCD OR3 B3
  have y0 := cell_at OR4.out 0
  have y1 := cell_at OR4.out 1
  have y2 := cell_at OR4.out 2
  have y3 := cell_at OR4.out 3
  have yf := frozen_at OR4.out
  simp at y0 y1 y2 y3 yf
  go_wp2_with fail
  have q := obj_setCell_at (.slice esa esn esc) (i := 3) (obj_setCell_at (.slice eta etn etc) (i := 2) (obj_setCell_at (.slice eoa eon eoc) (i := 1) (obj_setCell_at (.int .i64 ep) (i := 0) OR4.out)))
  have z0 := cell_at q 0
  have z1 := cell_at q 1
  have z2 := cell_at q 2
  have z3 := cell_at q 3
  have HQ := Lib.hid q
  clear q
  simp at z0 z1 z2 z3
  have HFE := Lib.hid ((((HF4.out.setBox OR4.out 0 (.int .i64 ep)).setBox (obj_setCell_at (.int .i64 ep) (i := 0) OR4.out) 1 (.slice eoa eon eoc)).setBox (obj_setCell_at (.slice eoa eon eoc) (i := 1) (obj_setCell_at (.int .i64 ep) (i := 0) OR4.out)) 2 (.slice eta etn etc)).setBox (obj_setCell_at (.slice eta etn etc) (i := 2) (obj_setCell_at (.slice eoa eon eoc) (i := 1) (obj_setCell_at (.int .i64 ep) (i := 0) OR4.out))) 3 (.slice esa esn esc))
  have BE : Hid (Below w.heap.size w ((((w4.setCell ⟨w.heap.size + 1, 0, none⟩ (.int .i64 ep)).setCell ⟨w.heap.size + 1, 1, none⟩ (.slice eoa eon eoc)).setCell ⟨w.heap.size + 1, 2, none⟩ (.slice eta etn etc)).setCell ⟨w.heap.size + 1, 3, none⟩ (.slice esa esn esc))) := Lib.hid ((((B4.out.setCell (by dsimp only; omega) _).setCell (by dsimp only; omega) _).setCell (by dsimp only; omega) _).setCell (by dsimp only; omega) _)
  generalize (((w4.setCell ⟨w.heap.size + 1, 0, none⟩ (.int .i64 ep)).setCell ⟨w.heap.size + 1, 1, none⟩ (.slice eoa eon eoc)).setCell ⟨w.heap.size + 1, 2, none⟩ (.slice eta etn etc)).setCell ⟨w.heap.size + 1, 3, none⟩ (.slice esa esn esc) = wE at *
  refine bodyPost_ret (v := .tuple #[frV ⟨ep, eoa, eon, eoc, eta, etn, etc, esa, esn, esc⟩, .int .i64 0]) (by simp [results, Tryz.results14, go_sem, z0, z1, z2, z3]) rfl ⟨_, rfl, HFE.out, BE.out⟩
set_option maxRecDepth 100000 in
set_option maxHeartbeats 8000000 in
/-- the reference's Tip -/
theorem refTip_any (w : World) (v : Value) (l : List Vd) (d : FrD) (m : FrM) (node : Int) (id : ID) (hl : SlIn w v 2 vdL l) (hN : ∀ x ∈ l, x.name.size ≤ 300) (hln : l.length ≤ 4096) (h : FrAt w d m) (hs : FrSm m) :
    Calls Tryz.prog 10 #[v, frV d, .int .i64 node, .agg (idL id).toArray] w (RetFr w (tipR l m node id).1 (tipR l m node id).2) := by
  have hb0 : Below w.heap.size w (((w.alloc (.cells (frC d) 27)).alloc (.cells (idL id).toArray 32)).alloc (.cells #[.int .i64 0, .slice none 0 0, .slice none 0 0, .slice none 0 0] 27)) := (((Below.refl _ w).alloc (Nat.le_refl _) _).alloc (by simp) _).alloc (by simp; omega) _
  have ob : obj (((w.alloc (.cells (frC d) 27)).alloc (.cells (idL id).toArray 32)).alloc (.cells #[.int .i64 0, .slice none 0 0, .slice none 0 0, .slice none 0 0] 27)) w.heap.size = some (.cells (frC d) 27 (0, 0)) := (obj_alloc_past _ _ _ (by simp; omega)).trans ((obj_alloc_past _ _ _ (by simp)).trans (fr_box w d))
  have oi : obj (((w.alloc (.cells (frC d) 27)).alloc (.cells (idL id).toArray 32)).alloc (.cells #[.int .i64 0, .slice none 0 0, .slice none 0 0, .slice none 0 0] 27)) (w.heap.size + 1) = some (.cells (idL id).toArray 32 (0, 0)) := (obj_alloc_past _ _ _ (by simp)).trans (obj_alloc_at _ _ _ (by simp))
  have orr : obj (((w.alloc (.cells (frC d) 27)).alloc (.cells (idL id).toArray 32)).alloc (.cells #[.int .i64 0, .slice none 0 0, .slice none 0 0, .slice none 0 0] 27)) (w.heap.size + 2) = some (.cells #[.int .i64 0, .slice none 0 0, .slice none 0 0, .slice none 0 0] 27 (0, 0)) := obj_alloc_at _ _ _ (by simp)
  have hz : (((w.alloc (.cells (frC d) 27)).alloc (.cells (idL id).toArray 32)).alloc (.cells #[.int .i64 0, .slice none 0 0, .slice none 0 0, .slice none 0 0] 27)).heap.size = w.heap.size + 3 := by simp
  have HM := Lib.hid (mayR_any _ v l d m (hl.below hb0) hN (h.below hb0) hs.op (by have := hs.tips; omega) hs.said (fun s q => by have := hs.ids s q; omega))
  have HL := Lib.hid hl
  have HF := Lib.hid h
  have HS := Lib.hid hs
  have HD := Lib.hid (mayE_dec (l := l) (m := m))
  have HRT : Hid (mayE l m = 0 → risB m.tips = true ∧ m.tips.length ≤ 32) := Lib.hid (fun h => mayB_tips (mayE_ok.1 h))
  have HT1 : Hid (mayE l m = 210 → tipR l m node id = (zeroM, 210)) := Lib.hid (fun h => by unfold tipR; rw [asksE_may h, if_pos (by decide)])
  have HT2 : Hid (mayE l m = 0 → (m.phase ≠ 1 ∨ node ∉ m.op) → tipR l m node id = (zeroM, 4)) := Lib.hid (fun h h2 => by
    have e : asksE l m 1 node = 4 := asksE_no h (by rcases h2 with h2 | h2; exact .inl ⟨by decide, h2⟩; exact .inr h2)
    unfold tipR; rw [e, if_pos (by decide)])
  have HT3 : Hid (mayE l m = 0 → m.phase = 1 → node ∈ m.op → 32 < (addT m.tips id).length → tipR l m node id = (zeroM, 1)) := Lib.hid (fun h h1 h2 h3 => tipR_full (asksE_yes h (by simp [h1, h2])) h3)
  have HT4 : Hid (mayE l m = 0 → m.phase = 1 → node ∈ m.op → (addT m.tips id).length ≤ 32 → tipR l m node id = (closedM l.length { m with tips := addT m.tips id } node, 0)) := Lib.hid (fun h h1 h2 h3 => tipR_yes (asksE_yes h (by simp [h1, h2])) h3)
  generalize tipR l m node id = T at *
  generalize mayE l m = ME at *
  have HPH := Lib.hid h.phase
  have B0 := Lib.hid hb0
  have OB := Lib.hid ob
  have OI := Lib.hid oi
  have OR := Lib.hid orr
  have HZ := Lib.hid hz
  obtain ⟨la, lc, rfl, -, -, -⟩ := hl
  obtain ⟨dp, doa, don, doc, dta, dtn, dtc, dsa, dsn, dsc⟩ := d
  clear hb0 ob oi orr hz h hs
  have x0 := cell_at OB.out 0
  have x1 := cell_at OB.out 1
  have x2 := cell_at OB.out 2
  have x3 := cell_at OB.out 3
  simp at x0 x1 x2 x3
  go_enter Tryz.func10, Tryz.ntmps10
  go_wp2_with fail
  generalize ((w.alloc (.cells (frC ⟨dp, doa, don, doc, dta, dtn, dtc, dsa, dsn, dsc⟩) 27)).alloc (.cells (idL id).toArray 32)).alloc (.cells #[.int .i64 0, .slice none 0 0, .slice none 0 0, .slice none 0 0] 27) = w1 at *
  have hz := HZ.out
  clear x0 x1 x2 x3
  refine HM.out.mono ?_
  rintro e w2 ⟨rfl, b2⟩
  have hz2 := b2.size
  have OB2 := Lib.hid ((obj_below b2 (lt_of_obj OB.out)).trans OB.out)
  have OI2 := Lib.hid ((obj_below b2 (lt_of_obj OI.out)).trans OI.out)
  have OR2 := Lib.hid ((obj_below b2 (lt_of_obj OR.out)).trans OR.out)
  have B2 : Hid (Below w.heap.size w w2) := Lib.hid (B0.out.trans (b2.mono B0.out.size))
  clear b2 HM OB OI OR B0
  rcases HD.out with rfl | rfl
  case inr =>
    obtain rfl : T = (zeroM, 210) := HT1.out (by first | rfl | trivial)
    have y0 := cell_at OR2.out 0
    have y1 := cell_at OR2.out 1
    have y2 := cell_at OR2.out 2
    have y3 := cell_at OR2.out 3
    have yf := frozen_at OR2.out
    simp at y0 y1 y2 y3 yf
    go_wp2_with fail
    have q := obj_setCell_at (.slice none 0 0) (i := 3) (obj_setCell_at (.slice none 0 0) (i := 2) (obj_setCell_at (.slice none 0 0) (i := 1) (obj_setCell_at (.int .i64 0) (i := 0) OR2.out)))
    have z0 := cell_at q 0
    have z1 := cell_at q 1
    have z2 := cell_at q 2
    have z3 := cell_at q 3
    have HQ := Lib.hid q
    clear q
    simp at z0 z1 z2 z3
    have BE : Hid (Below w.heap.size w ((((w2.setCell ⟨w.heap.size + 2, 0, none⟩ (.int .i64 0)).setCell ⟨w.heap.size + 2, 1, none⟩ (.slice none 0 0)).setCell ⟨w.heap.size + 2, 2, none⟩ (.slice none 0 0)).setCell ⟨w.heap.size + 2, 3, none⟩ (.slice none 0 0))) := Lib.hid ((((B2.out.setCell (by dsimp only; omega) _).setCell (by dsimp only; omega) _).setCell (by dsimp only; omega) _).setCell (by dsimp only; omega) _)
    generalize (((w2.setCell ⟨w.heap.size + 2, 0, none⟩ (.int .i64 0)).setCell ⟨w.heap.size + 2, 1, none⟩ (.slice none 0 0)).setCell ⟨w.heap.size + 2, 2, none⟩ (.slice none 0 0)).setCell ⟨w.heap.size + 2, 3, none⟩ (.slice none 0 0) = wE at *
    refine bodyPost_ret (v := .tuple #[frV zeroD, .int .i64 210]) (by simp [results, Tryz.results10, go_sem, z0, z1, z2, z3]) rfl ⟨_, rfl, frOwn_zero _ _, BE.out⟩
  obtain ⟨hris, htl⟩ := HRT.out (by first | rfl | trivial)
  by_cases hp1 : dp = 1
  case neg =>
    obtain rfl : T = (zeroM, 4) := HT2.out (by first | rfl | trivial) (.inl (by rw [← HPH.out]; exact hp1))
    have hpb : (dp != 1) = true := by simp [hp1]
    have x0 := cell_at OB2.out 0
    simp at x0
    have y0 := cell_at OR2.out 0
    have y1 := cell_at OR2.out 1
    have y2 := cell_at OR2.out 2
    have y3 := cell_at OR2.out 3
    have yf := frozen_at OR2.out
    simp at y0 y1 y2 y3 yf
    go_wp2_with fail
    have q := obj_setCell_at (.slice none 0 0) (i := 3) (obj_setCell_at (.slice none 0 0) (i := 2) (obj_setCell_at (.slice none 0 0) (i := 1) (obj_setCell_at (.int .i64 0) (i := 0) OR2.out)))
    have z0 := cell_at q 0
    have z1 := cell_at q 1
    have z2 := cell_at q 2
    have z3 := cell_at q 3
    have HQ := Lib.hid q
    clear q
    simp at z0 z1 z2 z3
    have BE : Hid (Below w.heap.size w ((((w2.setCell ⟨w.heap.size + 2, 0, none⟩ (.int .i64 0)).setCell ⟨w.heap.size + 2, 1, none⟩ (.slice none 0 0)).setCell ⟨w.heap.size + 2, 2, none⟩ (.slice none 0 0)).setCell ⟨w.heap.size + 2, 3, none⟩ (.slice none 0 0))) := Lib.hid ((((B2.out.setCell (by dsimp only; omega) _).setCell (by dsimp only; omega) _).setCell (by dsimp only; omega) _).setCell (by dsimp only; omega) _)
    generalize (((w2.setCell ⟨w.heap.size + 2, 0, none⟩ (.int .i64 0)).setCell ⟨w.heap.size + 2, 1, none⟩ (.slice none 0 0)).setCell ⟨w.heap.size + 2, 2, none⟩ (.slice none 0 0)).setCell ⟨w.heap.size + 2, 3, none⟩ (.slice none 0 0) = wE at *
    refine bodyPost_ret (v := .tuple #[frV zeroD, .int .i64 4]) (by simp [results, Tryz.results10, go_sem, z0, z1, z2, z3]) rfl ⟨_, rfl, frOwn_zero _ _, BE.out⟩
  subst hp1
  have HI := Lib.hid (hasInt_any w2 (.slice doa don doc) m.op node (HF.out.op.below B2.out))
  have x0 := cell_at OB2.out 0
  have x1 := cell_at OB2.out 1
  simp at x0 x1
  go_wp2_with fail
  refine HI.out.mono ?_
  rintro e w9 ⟨rfl, hw9⟩
  cases hw9
  clear HI x0 x1
  by_cases hin : node ∈ m.op
  case neg =>
    obtain rfl : T = (zeroM, 4) := HT2.out (by first | rfl | trivial) (.inr hin)
    have hd : decide (node ∈ m.op) = false := decide_eq_false hin
    generalize decide (node ∈ m.op) = DD at *
    subst hd
    clear hin
    have y0 := cell_at OR2.out 0
    have y1 := cell_at OR2.out 1
    have y2 := cell_at OR2.out 2
    have y3 := cell_at OR2.out 3
    have yf := frozen_at OR2.out
    simp at y0 y1 y2 y3 yf
    go_wp2_with fail
    have q := obj_setCell_at (.slice none 0 0) (i := 3) (obj_setCell_at (.slice none 0 0) (i := 2) (obj_setCell_at (.slice none 0 0) (i := 1) (obj_setCell_at (.int .i64 0) (i := 0) OR2.out)))
    have z0 := cell_at q 0
    have z1 := cell_at q 1
    have z2 := cell_at q 2
    have z3 := cell_at q 3
    have HQ := Lib.hid q
    clear q
    simp at z0 z1 z2 z3
    have BE : Hid (Below w.heap.size w ((((w2.setCell ⟨w.heap.size + 2, 0, none⟩ (.int .i64 0)).setCell ⟨w.heap.size + 2, 1, none⟩ (.slice none 0 0)).setCell ⟨w.heap.size + 2, 2, none⟩ (.slice none 0 0)).setCell ⟨w.heap.size + 2, 3, none⟩ (.slice none 0 0))) := Lib.hid ((((B2.out.setCell (by dsimp only; omega) _).setCell (by dsimp only; omega) _).setCell (by dsimp only; omega) _).setCell (by dsimp only; omega) _)
    generalize (((w2.setCell ⟨w.heap.size + 2, 0, none⟩ (.int .i64 0)).setCell ⟨w.heap.size + 2, 1, none⟩ (.slice none 0 0)).setCell ⟨w.heap.size + 2, 2, none⟩ (.slice none 0 0)).setCell ⟨w.heap.size + 2, 3, none⟩ (.slice none 0 0) = wE at *
    refine bodyPost_ret (v := .tuple #[frV zeroD, .int .i64 4]) (by simp [results, Tryz.results10, go_sem, z0, z1, z2, z3]) rfl ⟨_, rfl, frOwn_zero _ _, BE.out⟩
  have HT5 : Hid (32 < (addT m.tips id).length → T = (zeroM, 1)) := Lib.hid (HT3.out (by first | rfl | trivial) HPH.out.symm hin)
  have HT6 : Hid ((addT m.tips id).length ≤ 32 → T = (closedM l.length { m with tips := addT m.tips id } node, 0)) := Lib.hid (HT4.out (by first | rfl | trivial) HPH.out.symm hin)
  have hd : decide (node ∈ m.op) = true := decide_eq_true hin
  generalize decide (node ∈ m.op) = DD at *
  subst hd
  clear hin HT1 HT2 HT3 HT4
  have HPU := Lib.hid (putR_any w2 (.slice dta dtn dtc) m.tips id (HF.out.tips.below B2.out) hris (by omega))
  have x2 := cell_at OB2.out 2
  have pi : subOf (obj w2 (w.heap.size + 1)) 0 32 = some (idL id).toArray := by rw [OI2.out, subOf_cells (by simp), subA_all (by simp)]
  simp at x2
  go_wp2_with fail
  refine HPU.out.mono ?_
  rintro e w3 ⟨v3, rfl, ho3, b3⟩
  obtain ⟨a3, c3, e3⟩ := ho3.slice
  generalize hln3 : (addT m.tips id).length = n3 at *
  subst e3
  have hz3 := b3.size
  have OB3 := Lib.hid ((obj_below b3 (lt_of_obj OB2.out)).trans OB2.out)
  have OI3 := Lib.hid ((obj_below b3 (lt_of_obj OI2.out)).trans OI2.out)
  have OR3 := Lib.hid ((obj_below b3 (lt_of_obj OR2.out)).trans OR2.out)
  have B3 : Hid (Below w.heap.size w w3) := Lib.hid (B2.out.trans (b3.mono B2.out.size))
  clear b3 HPU x2 pi OB2 OI2 OR2 B2 ho3
  by_cases h32 : n3 ≤ 32
  case neg =>
    obtain rfl : T = (zeroM, 1) := HT5.out (by omega)
    have hi : (32 : Int) < n3 := by omega
    have y0 := cell_at OR3.out 0
    have y1 := cell_at OR3.out 1
    have y2 := cell_at OR3.out 2
    have y3 := cell_at OR3.out 3
    have yf := frozen_at OR3.out
    simp at y0 y1 y2 y3 yf
    go_wp2_with fail
    have q := obj_setCell_at (.slice none 0 0) (i := 3) (obj_setCell_at (.slice none 0 0) (i := 2) (obj_setCell_at (.slice none 0 0) (i := 1) (obj_setCell_at (.int .i64 0) (i := 0) OR3.out)))
    have z0 := cell_at q 0
    have z1 := cell_at q 1
    have z2 := cell_at q 2
    have z3 := cell_at q 3
    have HQ := Lib.hid q
    clear q
    simp at z0 z1 z2 z3
    have BE : Hid (Below w.heap.size w ((((w3.setCell ⟨w.heap.size + 2, 0, none⟩ (.int .i64 0)).setCell ⟨w.heap.size + 2, 1, none⟩ (.slice none 0 0)).setCell ⟨w.heap.size + 2, 2, none⟩ (.slice none 0 0)).setCell ⟨w.heap.size + 2, 3, none⟩ (.slice none 0 0))) := Lib.hid ((((B3.out.setCell (by dsimp only; omega) _).setCell (by dsimp only; omega) _).setCell (by dsimp only; omega) _).setCell (by dsimp only; omega) _)
    generalize (((w3.setCell ⟨w.heap.size + 2, 0, none⟩ (.int .i64 0)).setCell ⟨w.heap.size + 2, 1, none⟩ (.slice none 0 0)).setCell ⟨w.heap.size + 2, 2, none⟩ (.slice none 0 0)).setCell ⟨w.heap.size + 2, 3, none⟩ (.slice none 0 0) = wE at *
    refine bodyPost_ret (v := .tuple #[frV zeroD, .int .i64 1]) (by simp [results, Tryz.results10, go_sem, z0, z1, z2, z3]) rfl ⟨_, rfl, frOwn_zero _ _, BE.out⟩
  obtain rfl := HT6.out h32
  have hi : ¬ (32 : Int) < n3 := by omega
  have HCL := Lib.hid (cloneR_any w3 ⟨1, doa, don, doc, dta, dtn, dtc, dsa, dsn, dsc⟩ m (HF.out.below B3.out) HS.out)
  have x0 := cell_at OB3.out 0
  have x1 := cell_at OB3.out 1
  have x2 := cell_at OB3.out 2
  have x3 := cell_at OB3.out 3
  simp at x0 x1 x2 x3
  go_wp2_with fail
  refine HCL.out.mono ?_
  rintro e w4 ⟨d4, rfl, hf4, b4⟩
  have hz4 := b4.size
  have OI4 := Lib.hid ((obj_below b4 (lt_of_obj OI3.out)).trans OI3.out)
  have OR4 := Lib.hid ((obj_below b4 (lt_of_obj OR3.out)).trans OR3.out)
  have B4 : Hid (Below w.heap.size w w4) := Lib.hid (B3.out.trans (b4.mono B3.out.size))
  have HF4 := Lib.hid (hf4.mono (base := w.heap.size + 3) (by omega))
  clear b4 hf4 HCL OB3 OI3 OR3 B3 x0 x1 x2 x3
  have b5 : Below w4.heap.size w4 (w4.alloc (.cells (frC d4) 27)) := (Below.refl _ _).alloc (Nat.le_refl _) _
  have OX5 := Lib.hid (fr_box w4 d4)
  have OI5 := Lib.hid ((obj_below b5 (lt_of_obj OI4.out)).trans OI4.out)
  have OR5 := Lib.hid ((obj_below b5 (lt_of_obj OR4.out)).trans OR4.out)
  have HF5 := Lib.hid (HF4.out.below b5)
  have B5 : Hid (Below w.heap.size w (w4.alloc (.cells (frC d4) 27))) := Lib.hid (B4.out.trans (b5.mono B4.out.size))
  have hz5 : (w4.alloc (.cells (frC d4) 27)).heap.size = w4.heap.size + 1 := by simp
  obtain ⟨ep, eoa, eon, eoc, eta, etn, etc, esa, esn, esc⟩ := d4
  have HPU := Lib.hid (putR_any _ (.slice eta etn etc) m.tips id (HF5.out.tips.slIn idL_length) hris (by omega))
  have x2 := cell_at OX5.out 2
  have pi : subOf (obj (w4.alloc (.cells (frC ⟨ep, eoa, eon, eoc, eta, etn, etc, esa, esn, esc⟩) 27)) (w.heap.size + 1)) 0 32 = some (idL id).toArray := by rw [OI5.out, subOf_cells (by simp), subA_all (by simp)]
  simp at x2
  go_wp2_with fail
  generalize w4.alloc (.cells (frC ⟨ep, eoa, eon, eoc, eta, etn, etc, esa, esn, esc⟩) 27) = w5 at *
  clear x2 pi OI4 OR4 HF4 B4 b5
  have HBX : Hid (w.heap.size + 3 ≤ w4.heap.size) := Lib.hid (by omega)
  generalize w4.heap.size = bx at *
  refine HPU.out.mono ?_
  rintro e w6 ⟨v6, rfl, ho6, b6⟩
  obtain ⟨a6, c6, e6⟩ := ho6.slice
  rw [hln3] at e6
  subst e6
  have hz6 := b6.size
  have hbx := HBX.out
  have OX6 := Lib.hid ((obj_below b6 (lt_of_obj OX5.out)).trans OX5.out)
  have OR6 := Lib.hid ((obj_below b6 (lt_of_obj OR5.out)).trans OR5.out)
  have B6 : Hid (Below w.heap.size w w6) := Lib.hid (B5.out.trans (b6.mono B5.out.size))
  have HF6' := Lib.hid (HF5.out.below b6)
  have HF6 : Hid (FrOwn w6 (w.heap.size + 3) ⟨ep, eoa, eon, eoc, a6, n3, c6, esa, esn, esc⟩ { m with tips := addT m.tips id }) := Lib.hid ⟨HF6'.out.phase, HF6'.out.op, ho6.mono (by omega), HF6'.out.said⟩
  clear b6 HPU OX5 OI5 OR5 HF5 B5 ho6 HF6'
  have x2 := cell_at OX6.out 2
  have f2 := frozen_at OX6.out 2
  have hxl := lt_of_obj OX6.out
  simp at x2
  have OX7 : Hid (obj (w6.setCell ⟨bx, 2, none⟩ (.slice a6 n3 c6)) bx = some (.cells #[.int .i64 ep, .slice eoa eon eoc, .slice a6 n3 c6, .slice esa esn esc] 27 (0, 0))) := Lib.hid (obj_setCell_at _ OX6.out)
  have OR7 := Lib.hid ((obj_setCell_ne w6 ⟨bx, 2, none⟩ (.slice a6 n3 c6) (w.heap.size + 2) (by dsimp only; omega)).trans OR6.out)
  have HF7 := Lib.hid (HF6.out.setBox OX6.out 2 (.slice a6 n3 c6))
  have B7 : Hid (Below w.heap.size w (w6.setCell ⟨bx, 2, none⟩ (.slice a6 n3 c6))) := Lib.hid (B6.out.setCell (by dsimp only; omega) _)
  have hz7 : (w6.setCell ⟨bx, 2, none⟩ (.slice a6 n3 c6)).heap.size = w6.heap.size := by simp
  have y0 := cell_at OX7.out 0
  have y1 := cell_at OX7.out 1
  have y2 := cell_at OX7.out 2
  have y3 := cell_at OX7.out 3
  simp at y0 y1 y2 y3
  have HCD := Lib.hid (closedR_any (w6.setCell ⟨bx, 2, none⟩ (.slice a6 n3 c6)) (w.heap.size + 3) (.slice la l.length lc) l ⟨ep, eoa, eon, eoc, a6, n3, c6, esa, esn, esc⟩ { m with tips := addT m.tips id } node (HL.out.below B7.out) HF7.out (by omega) (.inl HPH.out.symm) HS.out.op hln)
  go_wp2_with fail
  generalize w6.setCell ⟨bx, 2, none⟩ (.slice a6 n3 c6) = w7 at *
  clear x2 f2 y0 y1 y2 y3 OX6 OR6 HF6 B6
  refine HCD.out.mono ?_
  rintro e w8 ⟨⟨gp, goa, gon, goc, gta, gtn, gtc, gsa, gsn, gsc⟩, rfl, hf8, b8⟩
  have hz8 := b8.size
  have OR8 := Lib.hid ((obj_below b8 (by omega)).trans OR7.out)
  have B8 : Hid (Below w.heap.size w w8) := Lib.hid (B7.out.trans (b8.mono (by omega)))
  have HF8 := Lib.hid (hf8.mono (base := w.heap.size) (by omega))
  clear b8 hf8 HCD OR7 B7 HF7 OX7
  have y0 := cell_at OR8.out 0
  have y1 := cell_at OR8.out 1
  have y2 := cell_at OR8.out 2
  have y3 := cell_at OR8.out 3
  have yf := frozen_at OR8.out
  simp at y0 y1 y2 y3 yf
  go_wp2_with fail
  have q := obj_setCell_at (.slice gsa gsn gsc) (i := 3) (obj_setCell_at (.slice gta gtn gtc) (i := 2) (obj_setCell_at (.slice goa gon goc) (i := 1) (obj_setCell_at (.int .i64 gp) (i := 0) OR8.out)))
  have z0 := cell_at q 0
  have z1 := cell_at q 1
  have z2 := cell_at q 2
  have z3 := cell_at q 3
  have HQ := Lib.hid q
  clear q
  simp at z0 z1 z2 z3
  have HFE := Lib.hid ((((HF8.out.setBox OR8.out 0 (.int .i64 gp)).setBox (obj_setCell_at (.int .i64 gp) (i := 0) OR8.out) 1 (.slice goa gon goc)).setBox (obj_setCell_at (.slice goa gon goc) (i := 1) (obj_setCell_at (.int .i64 gp) (i := 0) OR8.out)) 2 (.slice gta gtn gtc)).setBox (obj_setCell_at (.slice gta gtn gtc) (i := 2) (obj_setCell_at (.slice goa gon goc) (i := 1) (obj_setCell_at (.int .i64 gp) (i := 0) OR8.out))) 3 (.slice gsa gsn gsc))
  have BE : Hid (Below w.heap.size w ((((w8.setCell ⟨w.heap.size + 2, 0, none⟩ (.int .i64 gp)).setCell ⟨w.heap.size + 2, 1, none⟩ (.slice goa gon goc)).setCell ⟨w.heap.size + 2, 2, none⟩ (.slice gta gtn gtc)).setCell ⟨w.heap.size + 2, 3, none⟩ (.slice gsa gsn gsc))) := Lib.hid ((((B8.out.setCell (by dsimp only; omega) _).setCell (by dsimp only; omega) _).setCell (by dsimp only; omega) _).setCell (by dsimp only; omega) _)
  generalize (((w8.setCell ⟨w.heap.size + 2, 0, none⟩ (.int .i64 gp)).setCell ⟨w.heap.size + 2, 1, none⟩ (.slice goa gon goc)).setCell ⟨w.heap.size + 2, 2, none⟩ (.slice gta gtn gtc)).setCell ⟨w.heap.size + 2, 3, none⟩ (.slice gsa gsn gsc) = wE at *
  refine bodyPost_ret (v := .tuple #[frV ⟨gp, goa, gon, goc, gta, gtn, gtc, gsa, gsn, gsc⟩, .int .i64 0]) (by simp [results, Tryz.results10, go_sem, z0, z1, z2, z3]) rfl ⟨_, rfl, HFE.out, BE.out⟩
end Go.Proofs.YtmgpfmgmpmkkaaaGreat
namespace Go.Proofs.YtmgpfmgmpmkkaaaGreat
open Go.RowKit Go.Shelf Go.Sort

theorem sdOwn_app {w : World} {base : Nat} {r1 r2 : List SdD} {l1 l2 : List SaidM} (h1 : SdOwn w base r1 l1) (h2 : SdOwn w base r2 l2) : SdOwn w base (r1 ++ r2) (l1 ++ l2) := by
  refine ⟨by rw [List.length_append, List.length_append, h1.1, h2.1], fun i r s g1 g2 => ?_⟩
  by_cases hi : i < r1.length
  · rw [List.getElem?_append_left hi] at g1
    rw [List.getElem?_append_left (by rw [← h1.1]; exact hi)] at g2
    exact h1.2 i r s g1 g2
  · rw [List.getElem?_append_right (by omega)] at g1
    rw [List.getElem?_append_right (by rw [← h1.1]; omega), ← h1.1] at g2
    exact h2.2 _ r s g1 g2
theorem sdOwn_take {w : World} {base : Nat} {r : List SdD} {l : List SaidM} (h : SdOwn w base r l) (k : Nat) : SdOwn w base (r.take k) (l.take k) := by
  refine ⟨by rw [List.length_take, List.length_take, h.1], fun i x s g1 g2 => ?_⟩
  rw [List.getElem?_take] at g1 g2
  split at g1
  · rename_i hi
    rw [if_pos hi] at g2
    exact h.2 i x s g1 g2
  · cases g1
theorem sdOwn_drop {w : World} {base : Nat} {r : List SdD} {l : List SaidM} (h : SdOwn w base r l) (k : Nat) : SdOwn w base (r.drop k) (l.drop k) := by
  refine ⟨by rw [List.length_drop, List.length_drop, h.1], fun i x s g1 g2 => ?_⟩
  rw [List.getElem?_drop] at g1 g2
  exact h.2 _ x s g1 g2
theorem sdOwn_one {w : World} {base : Nat} {r : SdD} {s : SaidM} (h1 : r.node = s.node) (h2 : OwnC w base 32 32 idL (.slice r.oa r.n r.cap) s.ids) : SdOwn w base [r] [s] :=
  ⟨rfl, fun i x y g1 g2 => by
    cases i with
    | zero => simp at g1 g2; subst g1 g2; exact ⟨h1, h2⟩
    | succ i => simp at g1⟩
def filI (m : FrM) (ids : List ID) (k : Nat) : List ID := (m.tips.take k).filter fun id => decide (id ∈ ids)
theorem addS_split {m : FrM} {node : Int} {ids : List ID} {k : Nat} (ha : AscS m.said) (hn : ∀ s ∈ m.said, s.node ≠ node) (h1 : ∀ x ∈ m.said.take k, x.node < node) (h2 : ∀ h : k < m.said.length, ¬ m.said[k].node < node) :
    addS m node ids = m.said.take k ++ [⟨node, m.tips.filter fun id => decide (id ∈ ids)⟩] ++ m.said.drop k := by
  have e : m.said = m.said.take k ++ m.said.drop k := (List.take_append_drop k m.said).symm
  have h3 : ∀ x ∈ m.said.drop k, node < x.node := by
    intro x hx
    by_cases hk : k < m.said.length
    · have hlt : node < m.said[k].node := by
        have := h2 hk
        have := hn _ (List.getElem_mem hk)
        omega
      rw [List.drop_eq_getElem_cons hk] at hx
      rcases List.mem_cons.1 hx with rfl | hx
      · exact hlt
      · have hq : (m.said.drop k).Pairwise fun a b => a.node < b.node := ha.sublist (List.drop_sublist _ _)
        rw [List.drop_eq_getElem_cons hk, List.pairwise_cons] at hq
        have := hq.1 x hx
        omega
    · rw [List.drop_eq_nil_of_le (by omega)] at hx; simp at hx
  have hr : AscS (m.said.take k ++ [⟨node, m.tips.filter fun id => decide (id ∈ ids)⟩] ++ m.said.drop k) := by
    unfold AscS at *
    rw [e, List.pairwise_append] at ha
    rw [List.pairwise_append, List.pairwise_append]
    refine ⟨⟨ha.1, by simp, fun a hx b hb => ?_⟩, ha.2.1, fun a hx b hb => ?_⟩
    · simp at hb; subst hb; exact h1 a hx
    · rcases List.mem_append.1 hx with hx | hx
      · exact ha.2.2 a hx b hb
      · simp at hx; subst hx; exact h3 b hb
  unfold addS
  refine ascS_uniq (sortS_lt ?_) hr fun x => ?_
  · rw [List.map_append, List.nodup_append]
    refine ⟨ascS_nodup ha, by simp, fun a hx b hb => ?_⟩
    obtain ⟨s, hs, rfl⟩ := List.mem_map.1 hx
    simp at hb
    subst hb
    exact hn s hs
  · rw [(sortS_perm _).mem_iff, List.mem_append, List.mem_append, List.mem_append]
    constructor
    · rintro (h | h)
      · rw [e] at h
        rcases List.mem_append.1 h with h | h
        · exact .inl (.inl h)
        · exact .inr h
      · exact .inl (.inr h)
    · rintro ((h | h) | h)
      · exact .inl (List.mem_of_mem_take h)
      · exact .inr h
      · exact .inl (List.mem_of_mem_drop h)
theorem mayB_saidO {l : List Vd} {m : FrM} (h : mayB l m = true) : AscS m.said ∧ ∀ s ∈ m.said, s.node ∉ m.op := by
  unfold mayB at h
  simp only [Bool.and_eq_true, decide_eq_true_eq] at h
  have hs := h.1.2
  unfold saidB at hs
  rw [Bool.and_eq_true] at hs
  refine ⟨?_, fun s hx => ?_⟩
  · have := (placesB_iff.1 hs.2).2
    rw [List.pairwise_map] at this
    exact this
  · have := List.all_eq_true.1 hs.1 s hx
    simp only [Bool.and_eq_true, Bool.not_eq_true', decide_eq_false_iff_not] at this
    exact this.1.1
set_option maxRecDepth 100000 in
set_option maxHeartbeats 8000000 in
/-- the reference's Accepted -/
theorem refAcc_any (w : World) (v vi : Value) (l : List Vd) (d : FrD) (m : FrM) (node : Int) (ids : List ID) (hl : SlIn w v 2 vdL l) (hi : SlIn w vi 32 idL ids) (hN : ∀ x ∈ l, x.name.size ≤ 300) (hln : l.length ≤ 4096) (h : FrAt w d m) (hs : FrSm m) :
    Calls Tryz.prog 12 #[v, frV d, .int .i64 node, vi] w (RetFr w (accR l m node ids).1 (accR l m node ids).2) := by
  have hb0 : Below w.heap.size w ((w.alloc (.cells (frC d) 27)).alloc (.cells #[.int .i64 0, .slice none 0 0, .slice none 0 0, .slice none 0 0] 27)) := ((Below.refl _ w).alloc (Nat.le_refl _) _).alloc (by simp) _
  have ob : obj ((w.alloc (.cells (frC d) 27)).alloc (.cells #[.int .i64 0, .slice none 0 0, .slice none 0 0, .slice none 0 0] 27)) w.heap.size = some (.cells (frC d) 27 (0, 0)) := (obj_alloc_past _ _ _ (by simp)).trans (fr_box w d)
  have orr : obj ((w.alloc (.cells (frC d) 27)).alloc (.cells #[.int .i64 0, .slice none 0 0, .slice none 0 0, .slice none 0 0] 27)) (w.heap.size + 1) = some (.cells #[.int .i64 0, .slice none 0 0, .slice none 0 0, .slice none 0 0] 27 (0, 0)) := obj_alloc_at _ _ _ (by simp)
  have hz : ((w.alloc (.cells (frC d) 27)).alloc (.cells #[.int .i64 0, .slice none 0 0, .slice none 0 0, .slice none 0 0] 27)).heap.size = w.heap.size + 2 := by simp
  have HM := Lib.hid (mayR_any _ v l d m (hl.below hb0) hN (h.below hb0) hs.op (by have := hs.tips; omega) hs.said (fun s q => by have := hs.ids s q; omega))
  have HL := Lib.hid hl
  have HIW := Lib.hid hi
  have HF := Lib.hid h
  have HS := Lib.hid hs
  have HD := Lib.hid (mayE_dec (l := l) (m := m))
  have HSD0 : Hid (mayE l m = 0 → AscS m.said ∧ ∀ s ∈ m.said, s.node ∉ m.op) := Lib.hid (fun h => mayB_saidO (mayE_ok.1 h))
  have HT1 : Hid (mayE l m = 210 → accR l m node ids = (zeroM, 210)) := Lib.hid (fun h => by unfold accR; rw [asksE_may h, if_pos (by decide)])
  have HT2 : Hid (mayE l m = 0 → (m.phase ≠ 2 ∨ node ∉ m.op) → accR l m node ids = (zeroM, 4)) := Lib.hid (fun h h2 => by
    have e : asksE l m 2 node = 4 := asksE_no h (by rcases h2 with h2 | h2; exact .inl ⟨by decide, h2⟩; exact .inr h2)
    unfold accR; rw [e, if_pos (by decide)])
  have HT4 : Hid (mayE l m = 0 → m.phase = 2 → node ∈ m.op → accR l m node ids = (closedM l.length { m with said := addS m node ids } node, 0)) := Lib.hid (fun h h1 h2 => by
    unfold accR; rw [asksE_yes h (by simp [h1, h2]), if_neg (by decide)]; rfl)
  generalize accR l m node ids = T at *
  generalize mayE l m = ME at *
  have HPH := Lib.hid h.phase
  have B0 := Lib.hid hb0
  have OB := Lib.hid ob
  have OR := Lib.hid orr
  have HZ := Lib.hid hz
  obtain ⟨la, lc, rfl, -, -, -⟩ := hl
  obtain ⟨ia, ic, rfl, -, -, -⟩ := hi
  obtain ⟨dp, doa, don, doc, dta, dtn, dtc, dsa, dsn, dsc⟩ := d
  clear hb0 ob orr hz h hs
  have x0 := cell_at OB.out 0
  have x1 := cell_at OB.out 1
  have x2 := cell_at OB.out 2
  have x3 := cell_at OB.out 3
  simp at x0 x1 x2 x3
  go_enter Tryz.func12, Tryz.ntmps12
  go_wp2_with fail
  generalize (w.alloc (.cells (frC ⟨dp, doa, don, doc, dta, dtn, dtc, dsa, dsn, dsc⟩) 27)).alloc (.cells #[.int .i64 0, .slice none 0 0, .slice none 0 0, .slice none 0 0] 27) = w1 at *
  have hz := HZ.out
  clear x0 x1 x2 x3
  refine HM.out.mono ?_
  rintro e w2 ⟨rfl, b2⟩
  have hz2 := b2.size
  have OB2 := Lib.hid ((obj_below b2 (lt_of_obj OB.out)).trans OB.out)
  have OR2 := Lib.hid ((obj_below b2 (lt_of_obj OR.out)).trans OR.out)
  have B2 : Hid (Below w.heap.size w w2) := Lib.hid (B0.out.trans (b2.mono B0.out.size))
  clear b2 HM OB OR B0
  rcases HD.out with rfl | rfl
  case inr =>
    obtain rfl : T = (zeroM, 210) := HT1.out (by first | rfl | trivial)
    have y0 := cell_at OR2.out 0
    have y1 := cell_at OR2.out 1
    have y2 := cell_at OR2.out 2
    have y3 := cell_at OR2.out 3
    have yf := frozen_at OR2.out
    simp at y0 y1 y2 y3 yf
    go_wp2_with fail
    have q := obj_setCell_at (.slice none 0 0) (i := 3) (obj_setCell_at (.slice none 0 0) (i := 2) (obj_setCell_at (.slice none 0 0) (i := 1) (obj_setCell_at (.int .i64 0) (i := 0) OR2.out)))
    have z0 := cell_at q 0
    have z1 := cell_at q 1
    have z2 := cell_at q 2
    have z3 := cell_at q 3
    have HQ := Lib.hid q
    clear q
    simp at z0 z1 z2 z3
    have BE : Hid (Below w.heap.size w ((((w2.setCell ⟨w.heap.size + 1, 0, none⟩ (.int .i64 0)).setCell ⟨w.heap.size + 1, 1, none⟩ (.slice none 0 0)).setCell ⟨w.heap.size + 1, 2, none⟩ (.slice none 0 0)).setCell ⟨w.heap.size + 1, 3, none⟩ (.slice none 0 0))) := Lib.hid ((((B2.out.setCell (by dsimp only; omega) _).setCell (by dsimp only; omega) _).setCell (by dsimp only; omega) _).setCell (by dsimp only; omega) _)
    generalize (((w2.setCell ⟨w.heap.size + 1, 0, none⟩ (.int .i64 0)).setCell ⟨w.heap.size + 1, 1, none⟩ (.slice none 0 0)).setCell ⟨w.heap.size + 1, 2, none⟩ (.slice none 0 0)).setCell ⟨w.heap.size + 1, 3, none⟩ (.slice none 0 0) = wE at *
    refine bodyPost_ret (v := .tuple #[frV zeroD, .int .i64 210]) (by simp [results, Tryz.results12, go_sem, z0, z1, z2, z3]) rfl ⟨_, rfl, frOwn_zero _ _, BE.out⟩
  obtain ⟨hasc, hnop⟩ := HSD0.out (by first | rfl | trivial)
  by_cases hp1 : dp = 2
  case neg =>
    obtain rfl : T = (zeroM, 4) := HT2.out (by first | rfl | trivial) (.inl (by rw [← HPH.out]; exact hp1))
    have hpb : (dp != 2) = true := by simp [hp1]
    have x0 := cell_at OB2.out 0
    simp at x0
    have y0 := cell_at OR2.out 0
    have y1 := cell_at OR2.out 1
    have y2 := cell_at OR2.out 2
    have y3 := cell_at OR2.out 3
    have yf := frozen_at OR2.out
    simp at y0 y1 y2 y3 yf
    go_wp2_with fail
    have q := obj_setCell_at (.slice none 0 0) (i := 3) (obj_setCell_at (.slice none 0 0) (i := 2) (obj_setCell_at (.slice none 0 0) (i := 1) (obj_setCell_at (.int .i64 0) (i := 0) OR2.out)))
    have z0 := cell_at q 0
    have z1 := cell_at q 1
    have z2 := cell_at q 2
    have z3 := cell_at q 3
    have HQ := Lib.hid q
    clear q
    simp at z0 z1 z2 z3
    have BE : Hid (Below w.heap.size w ((((w2.setCell ⟨w.heap.size + 1, 0, none⟩ (.int .i64 0)).setCell ⟨w.heap.size + 1, 1, none⟩ (.slice none 0 0)).setCell ⟨w.heap.size + 1, 2, none⟩ (.slice none 0 0)).setCell ⟨w.heap.size + 1, 3, none⟩ (.slice none 0 0))) := Lib.hid ((((B2.out.setCell (by dsimp only; omega) _).setCell (by dsimp only; omega) _).setCell (by dsimp only; omega) _).setCell (by dsimp only; omega) _)
    generalize (((w2.setCell ⟨w.heap.size + 1, 0, none⟩ (.int .i64 0)).setCell ⟨w.heap.size + 1, 1, none⟩ (.slice none 0 0)).setCell ⟨w.heap.size + 1, 2, none⟩ (.slice none 0 0)).setCell ⟨w.heap.size + 1, 3, none⟩ (.slice none 0 0) = wE at *
    refine bodyPost_ret (v := .tuple #[frV zeroD, .int .i64 4]) (by simp [results, Tryz.results12, go_sem, z0, z1, z2, z3]) rfl ⟨_, rfl, frOwn_zero _ _, BE.out⟩
  subst hp1
  have HI := Lib.hid (hasInt_any w2 (.slice doa don doc) m.op node (HF.out.op.below B2.out))
  have x0 := cell_at OB2.out 0
  have x1 := cell_at OB2.out 1
  simp at x0 x1
  go_wp2_with fail
  refine HI.out.mono ?_
  rintro e w9 ⟨rfl, hw9⟩
  cases hw9
  clear HI x0 x1
  by_cases hin : node ∈ m.op
  case neg =>
    obtain rfl : T = (zeroM, 4) := HT2.out (by first | rfl | trivial) (.inr hin)
    have hd : decide (node ∈ m.op) = false := decide_eq_false hin
    generalize decide (node ∈ m.op) = DD at *
    subst hd
    clear hin
    have y0 := cell_at OR2.out 0
    have y1 := cell_at OR2.out 1
    have y2 := cell_at OR2.out 2
    have y3 := cell_at OR2.out 3
    have yf := frozen_at OR2.out
    simp at y0 y1 y2 y3 yf
    go_wp2_with fail
    have q := obj_setCell_at (.slice none 0 0) (i := 3) (obj_setCell_at (.slice none 0 0) (i := 2) (obj_setCell_at (.slice none 0 0) (i := 1) (obj_setCell_at (.int .i64 0) (i := 0) OR2.out)))
    have z0 := cell_at q 0
    have z1 := cell_at q 1
    have z2 := cell_at q 2
    have z3 := cell_at q 3
    have HQ := Lib.hid q
    clear q
    simp at z0 z1 z2 z3
    have BE : Hid (Below w.heap.size w ((((w2.setCell ⟨w.heap.size + 1, 0, none⟩ (.int .i64 0)).setCell ⟨w.heap.size + 1, 1, none⟩ (.slice none 0 0)).setCell ⟨w.heap.size + 1, 2, none⟩ (.slice none 0 0)).setCell ⟨w.heap.size + 1, 3, none⟩ (.slice none 0 0))) := Lib.hid ((((B2.out.setCell (by dsimp only; omega) _).setCell (by dsimp only; omega) _).setCell (by dsimp only; omega) _).setCell (by dsimp only; omega) _)
    generalize (((w2.setCell ⟨w.heap.size + 1, 0, none⟩ (.int .i64 0)).setCell ⟨w.heap.size + 1, 1, none⟩ (.slice none 0 0)).setCell ⟨w.heap.size + 1, 2, none⟩ (.slice none 0 0)).setCell ⟨w.heap.size + 1, 3, none⟩ (.slice none 0 0) = wE at *
    refine bodyPost_ret (v := .tuple #[frV zeroD, .int .i64 4]) (by simp [results, Tryz.results12, go_sem, z0, z1, z2, z3]) rfl ⟨_, rfl, frOwn_zero _ _, BE.out⟩
  obtain rfl := HT4.out (by first | rfl | trivial) HPH.out.symm hin
  have HNE : Hid (∀ s ∈ m.said, s.node ≠ node) := Lib.hid (fun s hs e => hnop s hs (by rw [e]; exact hin))
  have HASC := Lib.hid hasc
  have hd : decide (node ∈ m.op) = true := decide_eq_true hin
  generalize decide (node ∈ m.op) = DD at *
  subst hd
  clear hin HT1 HT2 HT4 hasc hnop HSD0
  have HCL := Lib.hid (cloneR_any w2 ⟨2, doa, don, doc, dta, dtn, dtc, dsa, dsn, dsc⟩ m (HF.out.below B2.out) HS.out)
  have x0 := cell_at OB2.out 0
  have x1 := cell_at OB2.out 1
  have x2 := cell_at OB2.out 2
  have x3 := cell_at OB2.out 3
  simp at x0 x1 x2 x3
  go_wp2_with fail
  refine HCL.out.mono ?_
  rintro e w3 ⟨⟨ep, eoa, eon, eoc, eta, etn, etc, esa, esn, esc⟩, rfl, hf3, b3⟩
  have hz3 := b3.size
  have OR3 := Lib.hid ((obj_below b3 (lt_of_obj OR2.out)).trans OR2.out)
  have B3 : Hid (Below w.heap.size w w3) := Lib.hid (B2.out.trans (b3.mono B2.out.size))
  have HF3 := Lib.hid (hf3.mono (base := w.heap.size + 2) (by omega))
  clear b3 hf3 HCL OB2 OR2 B2 x0 x1 x2 x3
  have b4 : Below w3.heap.size w3 (w3.alloc (.cells #[.int .i64 ep, .slice eoa eon eoc, .slice eta etn etc, .slice esa esn esc] 27)) := (Below.refl _ _).alloc (Nat.le_refl _) _
  have OX4 : Hid (obj (w3.alloc (.cells #[.int .i64 ep, .slice eoa eon eoc, .slice eta etn etc, .slice esa esn esc] 27)) w3.heap.size = some (.cells #[.int .i64 ep, .slice eoa eon eoc, .slice eta etn etc, .slice esa esn esc] 27 (0, 0))) := Lib.hid (obj_alloc_at _ _ _ rfl)
  have OR4 := Lib.hid ((obj_below b4 (lt_of_obj OR3.out)).trans OR3.out)
  have HF4 := Lib.hid (HF3.out.below b4)
  have B4 : Hid (Below w.heap.size w (w3.alloc (.cells #[.int .i64 ep, .slice eoa eon eoc, .slice eta etn etc, .slice esa esn esc] 27))) := Lib.hid (B3.out.trans (b4.mono B3.out.size))
  have hz4 : (w3.alloc (.cells #[.int .i64 ep, .slice eoa eon eoc, .slice eta etn etc, .slice esa esn esc] 27)).heap.size = w3.heap.size + 1 := by simp
  have HBX : Hid (w.heap.size + 2 ≤ w3.heap.size) := Lib.hid (by omega)
  have hbx := HBX.out
  obtain ⟨w4, hw4⟩ : ∃ w4, w4 = w3.alloc (.cells #[.int .i64 ep, .slice eoa eon eoc, .slice eta etn etc, .slice esa esn esc] 27) := ⟨_, rfl⟩
  have HW4 := Lib.hid hw4
  rw [← hw4] at OX4 OR4 HF4 B4 hz4
  clear b4 hw4
  have OS5 : Hid (obj (w4.alloc (.cells #[.int .i64 node, .slice none 0 0] 42)) w4.heap.size = some (.cells #[.int .i64 node, .slice none 0 0] 42 (0, 0))) := Lib.hid (obj_alloc_at _ _ _ rfl)
  have B5 : Hid (Below w4.heap.size w4 (w4.alloc (.cells #[.int .i64 node, .slice none 0 0] 42))) := Lib.hid ((Below.refl _ _).alloc (Nat.le_refl _) _)
  have hz5 : (w4.alloc (.cells #[.int .i64 node, .slice none 0 0] 42)).heap.size = w4.heap.size + 1 := by simp
  obtain ⟨w5, hw5⟩ : ∃ w5, w5 = w4.alloc (.cells #[.int .i64 node, .slice none 0 0] 42) := ⟨_, rfl⟩
  rw [← hw5] at OS5 B5 hz5
  have HW5 : Hid (w5 = (w3.alloc (.cells #[.int .i64 ep, .slice eoa eon eoc, .slice eta etn etc, .slice esa esn esc] 27)).alloc (.cells #[.int .i64 node, .slice none 0 0] 42)) := Lib.hid (by rw [hw5, HW4.out])
  clear hw5
  have HTL := Lib.hid (HF4.out.tips.slIn idL_length)
  obtain ⟨rows, hrw, hsd⟩ := HF4.out.said
  have HRW := Lib.hid hrw
  have HSD := Lib.hid hsd
  have htn := HTL.out.n
  have hsn := (HRW.out.slIn sdL_length).n
  subst htn hsn
  obtain ⟨ta', tc', e1, g1, g2, g3⟩ := HTL.out
  injection e1 with e1 _ e2
  subst e1 e2
  unfold maxLen at g2
  have G3 := Lib.hid g3
  have htl := HS.out.tips
  clear hrw hsd g3
  go_wp2_with fail
  rw [← HW5.out]
  have hz45 : w3.heap.size + 1 = w4.heap.size := hz4.symm
  have hz3w : (w3.alloc (.cells #[.int .i64 ep, .slice eoa eon eoc, .slice eta m.tips.length etc, .slice esa rows.length esc] 27)).heap.size = w4.heap.size := by rw [← HW4.out]
  try rw [hz3w]
  clear hz3w
  generalize w3.heap.size = bx at *
  clear OR3 HF3 B3
  have HZ45 : Hid (bx + 1 = w4.heap.size) := Lib.hid hz45
  have HZ5 : Hid (w5.heap.size = w4.heap.size + 1) := Lib.hid hz5
  clear hz4 hz45 hz5 hz hz2 hz3
  go_loopw [12] (fun v12 wr => ∃ (k : Nat) (a : Option Addr) (q c : Nat), k ≤ m.tips.length ∧ v12 = .int .i64 k ∧ Hid (OwnS wr w5.heap.size 32 32 idL (.slice a q c) (filI m ids k)) ∧ Hid (obj wr (bx + 1) = some (.cells #[.int .i64 node, .slice a q c] 42 (0, 0))) ∧ Hid (Below w4.heap.size w4 wr)) (fun i _ => m.tips.length - (intOf i).toNat)
  case atStart => exact ⟨0, none, 0, 0, Nat.zero_le _, rfl, Lib.hid (OwnS.nil _ _ _ _ _), by rw [HZ45.out]; exact OS5, B5⟩
  case round =>
  obtain ⟨k, aq, nq, cq, hk, rfl, HO, OS, HB⟩ := hrel
  have hzr := HB.out.size
  have OXr := Lib.hid ((obj_below HB.out (lt_of_obj OX4.out)).trans OX4.out)
  have BW : Hid (Below w.heap.size w wr) := Lib.hid (B4.out.trans (HB.out.mono B4.out.size))
  have hxl := lt_of_obj OXr.out
  have hsl := lt_of_obj OS.out
  have x2 := cell_at OXr.out 2
  simp at x2
  by_cases hlt : k < m.tips.length
  case pos =>
    obtain ⟨b, off, rfl, hbb, hrow⟩ := G3.out (by omega)
    have hs1 := hrow k hlt
    rw [← obj_below HB.out hbb] at hs1
    have hbl : b < wr.heap.size := by omega
    have hki : (k : Int) < m.tips.length := by omega
    have HFI : Hid (filI m ids (k + 1) = if m.tips[k] ∈ ids then filI m ids k ++ [m.tips[k]] else filI m ids k) := Lib.hid (by
      unfold filI
      rw [List.take_succ_eq_append_getElem hlt, List.filter_append]
      by_cases e : m.tips[k] ∈ ids
      · rw [if_pos e]; simp [e]
      · rw [if_neg e]; simp [e])
    have HQ4 : Hid ((filI m ids k).length ≤ 4096) := Lib.hid (by
      have h1 : (filI m ids k).length ≤ (m.tips.take k).length := List.length_filter_le _ _
      rw [List.length_take] at h1
      omega)
    have HQN : Hid ((filI m ids k).length = nq) := Lib.hid ((HO.out.slIn idL_length).n).symm
    generalize m.tips[k] = x at *
    have HH := Lib.hid (has_any wr (.slice ia ids.length ic) ids x (HIW.out.below BW.out))
    have HXI : Hid (decide (x ∈ ids) = true → x ∈ ids) := Lib.hid of_decide_eq_true
    have HXN : Hid (decide (x ∈ ids) = false → x ∉ ids) := Lib.hid of_decide_eq_false
    generalize decide (x ∈ ids) = DD at *
    clear hrow
    go_wp2_with fail
    refine HH.out.mono ?_
    rintro e wz ⟨rfl, bz⟩
    have hzz := bz.size
    have OXz := Lib.hid ((obj_below bz hxl).trans OXr.out)
    have OSz := Lib.hid ((obj_below bz hsl).trans OS.out)
    have HBz : Hid (Below w4.heap.size w4 wz) := Lib.hid (HB.out.trans (bz.mono hzr))
    have HOz := Lib.hid (HO.out.below bz)
    have hs2 := hs1
    rw [← obj_below bz hbl] at hs2
    clear HH bz hs1 OXr OS HB HO BW
    cases DD with
    | false =>
      have hx := HXN.out rfl
      have HF2 : Hid (filI m ids (k + 1) = filI m ids k) := Lib.hid (by rw [HFI.out, if_neg hx])
      have HO2 : Hid (OwnS wz w5.heap.size 32 32 idL (.slice aq nq cq) (filI m ids (k + 1))) := Lib.hid (by rw [HF2.out]; exact HOz.out)
      clear hx
      go_wp2_with fail
      go_roundw
      case rel => exact ⟨k + 1, aq, nq, cq, by omega, by go_num, HO2, OSz, HBz⟩
      case measure => first | exact meas_step' hlt | (simp [intOf]; omega)
    | true =>
    have hx := HXI.out rfl
    have HF2 : Hid (filI m ids (k + 1) = filI m ids k ++ [x]) := Lib.hid (by rw [HFI.out, if_pos hx])
    clear hx
    have hxz := lt_of_obj OXz.out
    have hsz := lt_of_obj OSz.out
    have hbz : b < wz.heap.size := by omega
    have HLO : ∀ g, (Value.slice aq nq cq).ownBlock = some g → w5.heap.size ≤ g ∧ g < wz.heap.size := fun g hg => HOz.out.1.lt g hg
    have HNX : Hid ((Value.slice aq nq cq).ownBlock ≠ some bx) := Lib.hid (fun e => by have := (HLO _ e).1; have := HZ45.out; have := HZ5.out; omega)
    have HNS : Hid ((Value.slice aq nq cq).ownBlock ≠ some (bx + 1)) := Lib.hid (fun e => by have := (HLO _ e).1; have := HZ45.out; have := HZ5.out; omega)
    have HNB : Hid ((Value.slice aq nq cq).ownBlock ≠ some b) := Lib.hid (fun e => by have := (HLO _ e).1; have := HZ45.out; have := HZ5.out; omega)
    clear HLO
    have HSC : Hid (∀ wx : World, Keeps (fun n => (Value.slice aq nq cq).ownBlock = some n) wz wx → wx.cell? ⟨bx, 2, none⟩ = some (.slice (some ⟨b, off, none⟩) m.tips.length etc) ∧ wx.cell? ⟨bx + 1, 1, none⟩ = some (.slice aq nq cq)) := Lib.hid (fun wx h => ⟨cell_at ((h.block _ hxz HNX.out).trans OXz.out) 2, cell_at ((h.block _ hsz HNS.out).trans OSz.out) 1⟩)
    have YID : ∀ W, Keeps (fun n => (Value.slice aq nq cq).ownBlock = some n) wz W → (loadAgg 32 ⟨b, off + k * 32, none⟩).run Tryz.prog W = .ok (.agg (idL x).toArray) W := fun W hW => by
      rw [run_load45, hW.block _ hbz HNB.out, hs2]; rfl
    go_wp2_with fail
    have HB4 : Hid (w4.heap.size ≤ wz.heap.size) := Lib.hid (by omega)
    have HLQ : Hid (∀ (a : Option Addr) (c : Nat), Value.slice a (filI m ids k ++ [x]).length c = .slice a (nq + 1) c) := Lib.hid (fun a c => by rw [List.length_append, HQN.out]; rfl)
    have hS : Keeps (fun n => (Value.slice aq nq cq).ownBlock = some n) wz wz.drew := (Keeps.refl _ _).drew
    refine wp_region_heldT 10 (Keeps (fun n => (Value.slice aq nq cq).ownBlock = some n) wz) (by kernel_rfl) ?_
    refine wpAnyT_take (i := 0) (oi := { dst := some 51, op := Op.fieldAddr 42 (Operand.tmp 11) 1, type := 0, pos := _, after := _, guard := none }) (v := (.pointer (some ⟨bx + 1, 1, none⟩))) rfl (by kernel_rfl) (by kernel_rfl) (by kernel_rfl) (by kernel_rfl) (fun _ _ _ h => h) (.inl ⟨by kernel_rfl, fun W' hW => by go_simp⟩) hS ?_
    try simp only [Act.put, List.setIfInBounds_toArray, List.set_cons_zero, List.set_cons_succ]
    refine wpAnyT_take (i := 1) (oi := { dst := some 52, op := Op.load 24 (Operand.tmp 51), type := 24, pos := _, after := _, guard := none }) (v := (.slice aq nq cq)) rfl (by kernel_rfl) (by kernel_rfl) (by kernel_rfl) (by kernel_rfl) (fun _ _ _ h => h) (.inl ⟨by kernel_rfl, fun W' hW => by obtain ⟨f1, f2⟩ := HSC.out W' hW; go_simp⟩) hS ?_
    try simp only [Act.put, List.setIfInBounds_toArray, List.set_cons_zero, List.set_cons_succ]
    refine wpAnyT_take (i := 2) (oi := { dst := some 53, op := Op.fieldAddr 27 (Operand.tmp 10) 2, type := 0, pos := _, after := _, guard := none }) (v := (.pointer (some ⟨bx, 2, none⟩))) rfl (by kernel_rfl) (by kernel_rfl) (by kernel_rfl) (by kernel_rfl) (fun _ _ _ h => h) (.inl ⟨by kernel_rfl, fun W' hW => by go_simp⟩) hS ?_
    try simp only [Act.put, List.setIfInBounds_toArray, List.set_cons_zero, List.set_cons_succ]
    refine wpAnyT_take (i := 3) (oi := { dst := some 54, op := Op.load 24 (Operand.tmp 53), type := 24, pos := _, after := _, guard := none }) (v := (.slice (some ⟨b, off, none⟩) m.tips.length etc)) rfl (by kernel_rfl) (by kernel_rfl) (by kernel_rfl) (by kernel_rfl) (fun _ _ _ h => h) (.inl ⟨by kernel_rfl, fun W' hW => by obtain ⟨f1, f2⟩ := HSC.out W' hW; go_simp⟩) hS ?_
    try simp only [Act.put, List.setIfInBounds_toArray, List.set_cons_zero, List.set_cons_succ]
    refine wpAnyT_take (i := 4) (oi := { dst := some 55, op := Op.move (Operand.tmp 12), type := 3, pos := _, after := _, guard := none }) (v := (.int .i64 (k : Int))) rfl (by kernel_rfl) (by kernel_rfl) (by kernel_rfl) (by kernel_rfl) (fun _ _ _ h => h) (yieldsIf_mv (by kernel_rfl) (.tmp 12) (by kernel_rfl) (by kernel_rfl)) hS ?_
    try simp only [Act.put, List.setIfInBounds_toArray, List.set_cons_zero, List.set_cons_succ]
    refine wpAnyT_take (i := 5) (oi := { dst := some 56, op := Op.indexAddr 24 (Operand.tmp 54) (Operand.tmp 55), type := 0, pos := _, after := _, guard := none }) (v := (.pointer (some ⟨b, off + k * 32, none⟩))) rfl (by kernel_rfl) (by kernel_rfl) (by kernel_rfl) (by kernel_rfl) (fun _ _ _ h => h) (.inl ⟨by kernel_rfl, fun W' hW => by go_simp⟩) hS ?_
    try simp only [Act.put, List.setIfInBounds_toArray, List.set_cons_zero, List.set_cons_succ]
    refine wpAnyT_take (i := 6) (oi := { dst := some 57, op := Op.load 32 (Operand.tmp 56), type := 32, pos := _, after := _, guard := none }) (v := (.agg (idL x).toArray)) rfl (by kernel_rfl) (by kernel_rfl) (by kernel_rfl) (by kernel_rfl) (fun _ _ _ h => h) (yieldsIf_agg (by kernel_rfl) 32 (.tmp 56) (by kernel_rfl) (b) (off + k * 32) (by kernel_rfl) YID) hS ?_
    try simp only [Act.put, List.setIfInBounds_toArray, List.set_cons_zero, List.set_cons_succ]
    refine wpAnyT_ready (rs := [7]) (by kernel_rfl) (by simp) (AllReadyT.cons (o := { dst := some 58, op := Op.buildSlice 24 1 #[(0, Operand.tmp 57)], type := 24, pos := _, after := _, guard := none }) rfl (fun K hK => ?_) AllReadyT.nil)
    go_simp
    have hS4 := (hS.alloc (.cells (idL x).toArray 32) : Keeps (fun n => (Value.slice aq nq cq).ownBlock = some n) wz _)
    refine hK.out _ _ (.inr hS4) ?_
    clear hK K
    try simp only [Act.put, List.setIfInBounds_toArray, List.set_cons_zero, List.set_cons_succ]
    refine wpAnyT_ready (rs := [8]) (by kernel_rfl) (by simp) (AllReadyT.cons (o := { dst := some 59, op := Op.call { callee := Callee.builtin Builtin.append, args := #[Operand.tmp 52, Operand.tmp 58], argTypes := #[24, 24] }, type := 24, pos := _, after := _, guard := none }) rfl (fun K hK => ?_) AllReadyT.nil)
    refine step24 rfl (.tmp 52) (.tmp 58) rfl w5.heap.size (.slice aq nq cq) (filI m ids k) [x] rfl (HOz.out.alloc _) _ rfl (SlIn.one idL_length x (obj_alloc_at _ _ _ rfl)) (by have := HQ4.out; simp; omega) (by have := HZ5.out; have := HB4.out; simp; omega) ?_
    intro v6 w6 q1 q2 q3
    obtain ⟨a6, c6, e6⟩ := q1.slice
    replace e6 : v6 = .slice a6 (nq + 1) c6 := e6.trans (HLQ.out a6 c6)
    subst e6
    have HO6 : Hid (OwnS w6 w5.heap.size 32 32 idL (.slice a6 (nq + 1) c6) (filI m ids (k + 1))) := Lib.hid (by rw [HF2.out]; exact q1)
    have K6 : Keeps (fun n => (Value.slice aq nq cq).ownBlock = some n) (wz.drew.alloc (.cells (idL x).toArray 32)) w6 := ⟨q2.os, q2.tape, q2.output, q2.size, fun j hj hne => q3 j hj hne⟩
    have B6 : Hid (Below w4.heap.size w4 w6) := Lib.hid ((HBz.out.drew.alloc (by have := HB4.out; exact this) _).trans (q2.mono (by have := HZ5.out; omega)))
    clear q1 q2 q3
    have hS5 := hS4.trans K6
    refine hK.out _ _ (.inr hS5) ?_
    clear hK K
    try simp only [Act.put, List.setIfInBounds_toArray, List.set_cons_zero, List.set_cons_succ]
    refine wpAnyT_take (i := 9) (oi := { dst := some 60, op := Op.fieldAddr 42 (Operand.tmp 11) 1, type := 0, pos := _, after := _, guard := none }) (v := (.pointer (some ⟨bx + 1, 1, none⟩))) rfl (by kernel_rfl) (by kernel_rfl) (by kernel_rfl) (by kernel_rfl) (fun _ _ _ h => h) (.inl ⟨by kernel_rfl, fun W' hW => by go_simp⟩) hS5 ?_
    try simp only [Act.put, List.setIfInBounds_toArray, List.set_cons_zero, List.set_cons_succ]
    refine wpAnyT_ready (rs := [10]) (by kernel_rfl) (by simp) (AllReadyT.cons (o := { dst := none, op := Op.store 24 (Operand.tmp 60) (Operand.tmp 59), type := 0, pos := _, after := _, guard := none }) rfl (fun K hK => ?_) AllReadyT.nil)
    have OS6 : Hid (obj w6 (bx + 1) = some (.cells #[.int .i64 node, .slice aq nq cq] 42 (0, 0))) := Lib.hid ((hS5.block _ hsz HNS.out).trans OSz.out)
    have z6 := lt_of_obj OS6.out
    have t1' := cell_at OS6.out 1
    have t2' := frozen_at OS6.out 1
    simp at t1'
    go_simp
    refine hK.out _ _ (.inl rfl) ?_
    clear hK K
    try simp only [Act.put, List.setIfInBounds_toArray, List.set_cons_zero, List.set_cons_succ]
    refine wpAnyT_done (by kernel_rfl) ?_ _
    have OS7 : Hid (obj (w6.setCell ⟨bx + 1, 1, none⟩ (.slice a6 (nq + 1) c6)) (bx + 1) = some (.cells #[.int .i64 node, .slice a6 (nq + 1) c6] 42 (0, 0))) := Lib.hid (obj_setCell_at _ OS6.out)
    have HO7 : Hid (OwnS (w6.setCell ⟨bx + 1, 1, none⟩ (.slice a6 (nq + 1) c6)) w5.heap.size 32 32 idL (.slice a6 (nq + 1) c6) (filI m ids (k + 1))) := Lib.hid (HO6.out.keeps (fun g hg => obj_setCell_ne _ _ _ _ (fun e => HO6.out.ne OS6.out (fun cur h => by injection h with h1 h2; cases h2) (by rw [hg, e]))))
    have HB7 : Hid (Below w4.heap.size w4 (w6.setCell ⟨bx + 1, 1, none⟩ (.slice a6 (nq + 1) c6))) := Lib.hid (B6.out.setCell (by have := HZ45.out; dsimp only; omega) _)
    go_wp2_with fail
    go_roundw
    case rel => exact ⟨k + 1, a6, nq + 1, c6, by omega, by go_num, HO7, OS7, HB7⟩
    case measure => first | exact meas_step' hlt | (simp [intOf]; omega)
  case neg =>
  obtain rfl : k = m.tips.length := by omega
  have HFL : Hid (filI m ids m.tips.length = m.tips.filter fun id => decide (id ∈ ids)) := Lib.hid (by unfold filI; rw [List.take_length])
  have HIO : Hid (OwnC wr (w.heap.size + 2) 32 32 idL (.slice aq nq cq) (m.tips.filter fun id => decide (id ∈ ids))) := Lib.hid (by
    rw [← HFL.out]
    have h1 : OwnC wr w5.heap.size 32 32 idL (.slice aq nq cq) (filI m ids m.tips.length) := HO.out.1
    exact h1.mono (by have := HZ5.out; have := HZ45.out; omega))
  have HFr := Lib.hid (HF4.out.below HB.out)
  have HRr := Lib.hid (HRW.out.below HB.out)
  have HSr := Lib.hid (HSD.out.below HB.out)
  have ORr := Lib.hid ((obj_below HB.out (lt_of_obj OR4.out)).trans OR4.out)
  have x3 := cell_at OXr.out 3
  simp at x3
  obtain ⟨w8, hw8⟩ : ∃ w8, w8 = wr := ⟨_, rfl⟩
  rw [← hw8] at HIO HFr HRr HSr ORr x2 x3 OXr OS BW hxl hsl ⊢
  clear HO HB hzr hw8
  clear wr
  have HADD : Hid (∀ j, (∀ x ∈ m.said.take j, x.node < node) → (∀ h : j < m.said.length, ¬ m.said[j].node < node) → addS m node ids = m.said.take j ++ [⟨node, m.tips.filter fun id => decide (id ∈ ids)⟩] ++ m.said.drop j) := Lib.hid (fun j h1 h2 => addS_split HASC.out HNE.out h1 h2)
  generalize addS m node ids = AD at *
  generalize (m.tips.filter fun id => decide (id ∈ ids)) = FI at *
  have HRL : Hid (rows.length = m.said.length) := Lib.hid HSr.out.1
  have HRX := Lib.hid (HRr.out.slIn sdL_length)
  obtain ⟨sa', sc', e1, k1, k2, k3⟩ := HRX.out
  injection e1 with e1 _ e2
  subst e1 e2
  unfold maxLen at k2
  have K3 := Lib.hid k3
  have hsl4 := HS.out.said
  have hrl4 : rows.length ≤ 4096 := by rw [HRL.out]; exact hsl4
  clear k3
  go_wp2_with fail
  go_loopw [14] (fun v14 wr => ∃ j : Nat, j ≤ rows.length ∧ v14 = .int .i64 j ∧ Hid (∀ x ∈ m.said.take j, x.node < node) ∧ wr = w8) (fun i _ => rows.length - (intOf i).toNat)
  case atStart => exact ⟨0, Nat.zero_le _, rfl, Lib.hid (by simp), rfl⟩
  case round =>
  obtain ⟨j, hj, rfl, HMJ, rfl⟩ := hrel
  by_cases hlj : j < rows.length
  case neg =>
    obtain rfl : j = rows.length := by omega
    have HAJ := Lib.hid (HADD.out rows.length HMJ.out (fun h => by rw [HRL.out] at h; omega))
    have hnj : ¬ (rows.length : Int) < rows.length := by omega
    have HLO := Lib.hid (fun W => run_loS (k := rows.length) HRX.out (by omega) W)
    have HHI := Lib.hid (run_hiS (k := rows.length) HRX.out (by omega))
    obtain ⟨hv, hhv, hsv⟩ := HHI.out
    have HHV := Lib.hid hhv
    have HSV := Lib.hid hsv
    have HTK := Lib.hid (HRX.out.take (n := rows.length) (by omega))
    have htk : (rows.take rows.length).length = rows.length := by simp; try omega
    clear hhv hsv HHI
    have HSC : Hid (∀ wx : World, Below wr.heap.size wr wx → wx.cell? ⟨bx, 3, none⟩ = some (.slice esa rows.length esc) ∧ wx.cell? ⟨bx + 1, 0, none⟩ = some (.int .i64 node) ∧ wx.cell? ⟨bx + 1, 1, none⟩ = some (.slice aq nq cq)) := Lib.hid (fun wx h => ⟨cell_at ((obj_below h hxl).trans OXr.out) 3, cell_at ((obj_below h hsl).trans OS.out) 0, cell_at ((obj_below h hsl).trans OS.out) 1⟩)
    go_wp2_with fail
    have hS : Below wr.heap.size wr wr.drew := (Below.refl _ _).drew
    refine wp_region_heldT 15 (fun W => Below wr.heap.size wr W) (by kernel_rfl) ?_
    refine wpAnyT_take (i := 0) (oi := { dst := some 78, op := Op.move (Operand.tmp 13), type := 25, pos := _, after := _, guard := none }) (v := (.slice none 0 0)) rfl (by kernel_rfl) (by kernel_rfl) (by kernel_rfl) (by kernel_rfl) (fun _ _ _ h => h) (yieldsIf_mv (by kernel_rfl) (.tmp 13) (by kernel_rfl) (by kernel_rfl)) hS ?_
    try simp only [Act.put, List.setIfInBounds_toArray, List.set_cons_zero, List.set_cons_succ]
    refine wpAnyT_take (i := 1) (oi := { dst := some 79, op := Op.fieldAddr 27 (Operand.tmp 10) 3, type := 0, pos := _, after := _, guard := none }) (v := (.pointer (some ⟨bx, 3, none⟩))) rfl (by kernel_rfl) (by kernel_rfl) (by kernel_rfl) (by kernel_rfl) (fun _ _ _ h => h) (.inl ⟨by kernel_rfl, fun W' hW => by go_simp⟩) hS ?_
    try simp only [Act.put, List.setIfInBounds_toArray, List.set_cons_zero, List.set_cons_succ]
    refine wpAnyT_take (i := 2) (oi := { dst := some 80, op := Op.load 25 (Operand.tmp 79), type := 25, pos := _, after := _, guard := none }) (v := (.slice esa rows.length esc)) rfl (by kernel_rfl) (by kernel_rfl) (by kernel_rfl) (by kernel_rfl) (fun _ _ _ h => h) (.inl ⟨by kernel_rfl, fun W' hW => by obtain ⟨f1, f2, f3⟩ := HSC.out W' hW; go_simp⟩) hS ?_
    try simp only [Act.put, List.setIfInBounds_toArray, List.set_cons_zero, List.set_cons_succ]
    refine wpAnyT_take (i := 3) (oi := { dst := some 81, op := Op.move (Operand.tmp 14), type := 3, pos := _, after := _, guard := none }) (v := (.int .i64 (rows.length : Int))) rfl (by kernel_rfl) (by kernel_rfl) (by kernel_rfl) (by kernel_rfl) (fun _ _ _ h => h) (yieldsIf_mv (by kernel_rfl) (.tmp 14) (by kernel_rfl) (by kernel_rfl)) hS ?_
    try simp only [Act.put, List.setIfInBounds_toArray, List.set_cons_zero, List.set_cons_succ]
    refine wpAnyT_take (i := 4) (oi := { dst := some 82, op := Op.slice 25 (Operand.tmp 80) none (some (Operand.tmp 81)) none, type := 25, pos := _, after := _, guard := none }) (v := (.slice esa rows.length esc)) rfl (by kernel_rfl) (by kernel_rfl) (by kernel_rfl) (by kernel_rfl) (fun _ _ _ h => h) (.inl ⟨by kernel_rfl, fun W' hW => by have hlo := HLO.out W'; go_simp⟩) hS ?_
    try simp only [Act.put, List.setIfInBounds_toArray, List.set_cons_zero, List.set_cons_succ]
    refine wpAnyT_take (i := 6) (oi := { dst := some 84, op := Op.load 42 (Operand.tmp 11), type := 42, pos := _, after := _, guard := none }) (v := (.agg #[.int .i64 node, .slice aq nq cq])) rfl (by kernel_rfl) (by kernel_rfl) (by kernel_rfl) (by kernel_rfl) (fun _ _ _ h => h) (.inl ⟨by kernel_rfl, fun W' hW => by obtain ⟨f1, f2, f3⟩ := HSC.out W' hW; go_simp⟩) hS ?_
    try simp only [Act.put, List.setIfInBounds_toArray, List.set_cons_zero, List.set_cons_succ]
    refine wpAnyT_take (i := 9) (oi := { dst := some 87, op := Op.fieldAddr 27 (Operand.tmp 10) 3, type := 0, pos := _, after := _, guard := none }) (v := (.pointer (some ⟨bx, 3, none⟩))) rfl (by kernel_rfl) (by kernel_rfl) (by kernel_rfl) (by kernel_rfl) (fun _ _ _ h => h) (.inl ⟨by kernel_rfl, fun W' hW => by go_simp⟩) hS ?_
    try simp only [Act.put, List.setIfInBounds_toArray, List.set_cons_zero, List.set_cons_succ]
    refine wpAnyT_take (i := 10) (oi := { dst := some 88, op := Op.load 25 (Operand.tmp 87), type := 25, pos := _, after := _, guard := none }) (v := (.slice esa rows.length esc)) rfl (by kernel_rfl) (by kernel_rfl) (by kernel_rfl) (by kernel_rfl) (fun _ _ _ h => h) (.inl ⟨by kernel_rfl, fun W' hW => by obtain ⟨f1, f2, f3⟩ := HSC.out W' hW; go_simp⟩) hS ?_
    try simp only [Act.put, List.setIfInBounds_toArray, List.set_cons_zero, List.set_cons_succ]
    refine wpAnyT_take (i := 11) (oi := { dst := some 89, op := Op.move (Operand.tmp 14), type := 3, pos := _, after := _, guard := none }) (v := (.int .i64 (rows.length : Int))) rfl (by kernel_rfl) (by kernel_rfl) (by kernel_rfl) (by kernel_rfl) (fun _ _ _ h => h) (yieldsIf_mv (by kernel_rfl) (.tmp 14) (by kernel_rfl) (by kernel_rfl)) hS ?_
    try simp only [Act.put, List.setIfInBounds_toArray, List.set_cons_zero, List.set_cons_succ]
    refine wpAnyT_take (i := 12) (oi := { dst := some 90, op := Op.slice 25 (Operand.tmp 88) (some (Operand.tmp 89)) none none, type := 25, pos := _, after := _, guard := none }) (v := hv) rfl (by kernel_rfl) (by kernel_rfl) (by kernel_rfl) (by kernel_rfl) (fun _ _ _ h => h) (.inl ⟨by kernel_rfl, fun W' hW => by have hlo := HHV.out W'; go_simp⟩) hS ?_
    try simp only [Act.put, List.setIfInBounds_toArray, List.set_cons_zero, List.set_cons_succ]
    refine wpAnyT_ready (rs := [5, 7]) (by kernel_rfl) (by simp) (AllReadyT.cons (o := { dst := some 83, op := Op.call { callee := Callee.builtin Builtin.append, args := #[Operand.tmp 78, Operand.tmp 82], argTypes := #[25, 25] }, type := 25, pos := _, after := _, guard := none }) rfl (fun K hK => ?_) (AllReadyT.cons (o := { dst := some 85, op := Op.buildSlice 25 1 #[(0, Operand.tmp 84)], type := 25, pos := _, after := _, guard := none }) rfl (fun K hK => ?_) AllReadyT.nil))
    · refine step25 rfl (.tmp 78) (.tmp 82) rfl wr.heap.size (.slice none 0 0) [] (rows.take rows.length) rfl (OwnS.nil _ _ _ _ _) _ rfl (HTK.out.below hS) (by simp; omega) hS.size ?_
      intro v3 w3 r1 r2 r3
      have R3 : Hid (OwnS w3 wr.heap.size 42 2 sdL v3 (rows.take rows.length)) := Lib.hid r1
      clear r1 r3
      have hS1 := hS.trans r2
      refine hK.out _ _ (.inr hS1) ?_
      clear hK K
      try simp only [Act.put, List.setIfInBounds_toArray, List.set_cons_zero, List.set_cons_succ]
      refine wpAnyT_ready (rs := [7]) (by kernel_rfl) (by simp) (AllReadyT.cons (o := { dst := some 85, op := Op.buildSlice 25 1 #[(0, Operand.tmp 84)], type := 25, pos := _, after := _, guard := none }) rfl (fun K hK => ?_) AllReadyT.nil)
      go_simp
      have hS2 := hS1.alloc hS1.size (.cells #[.int .i64 node, .slice aq nq cq] 42)
      refine hK.out _ _ (.inr hS2) ?_
      clear hK K
      try simp only [Act.put, List.setIfInBounds_toArray, List.set_cons_zero, List.set_cons_succ]
      refine wpAnyT_ready (rs := [8]) (by kernel_rfl) (by simp) (AllReadyT.cons (o := { dst := some 86, op := Op.call { callee := Callee.builtin Builtin.append, args := #[Operand.tmp 83, Operand.tmp 85], argTypes := #[25, 25] }, type := 25, pos := _, after := _, guard := none }) rfl (fun K hK => ?_) AllReadyT.nil)
      refine step25 rfl (.tmp 83) (.tmp 85) rfl wr.heap.size v3 (rows.take rows.length) [⟨node, aq, nq, cq⟩] rfl (R3.out.alloc _) _ rfl (SlIn.one sdL_length ⟨node, aq, nq, cq⟩ (obj_alloc_at _ _ _ rfl)) (by simp; omega) hS2.size ?_
      intro v8 w8 r1 r2 r3
      have R8 : Hid (OwnS w8 wr.heap.size 42 2 sdL v8 (rows.take rows.length ++ [⟨node, aq, nq, cq⟩])) := Lib.hid r1
      clear r1 r3
      have hS3 := hS2.trans r2
      refine hK.out _ _ (.inr hS3) ?_
      clear hK K
      try simp only [Act.put, List.setIfInBounds_toArray, List.set_cons_zero, List.set_cons_succ]
      refine wpAnyT_ready (rs := [13]) (by kernel_rfl) (by simp) (AllReadyT.cons (o := { dst := some 91, op := Op.call { callee := Callee.builtin Builtin.append, args := #[Operand.tmp 86, Operand.tmp 90], argTypes := #[25, 25] }, type := 25, pos := _, after := _, guard := none }) rfl (fun K hK => ?_) AllReadyT.nil)
      refine step25 rfl (.tmp 86) (.tmp 90) rfl wr.heap.size v8 (rows.take rows.length ++ [⟨node, aq, nq, cq⟩]) (rows.drop rows.length) rfl R8.out hv rfl (HSV.out _ (HRX.out.below hS3)) (by simp; omega) hS3.size ?_
      intro v9 w9 r1 r2 r3
      obtain ⟨a9, c9, e9⟩ := r1.slice
      have R9 : Hid (OwnC w9 wr.heap.size 42 2 sdL v9 (rows.take rows.length ++ [⟨node, aq, nq, cq⟩] ++ rows.drop rows.length)) := Lib.hid r1.1
      generalize (rows.take rows.length ++ [(⟨node, aq, nq, cq⟩ : SdD)] ++ rows.drop rows.length).length = n9 at e9
      subst e9
      clear r1 r3
      have hS4 := hS3.trans r2
      refine hK.out _ _ (.inr hS4) ?_
      clear hK K
      try simp only [Act.put, List.setIfInBounds_toArray, List.set_cons_zero, List.set_cons_succ]
      refine wpAnyT_take (i := 14) (oi := { dst := some 92, op := Op.fieldAddr 27 (Operand.tmp 10) 3, type := 0, pos := _, after := _, guard := none }) (v := (.pointer (some ⟨bx, 3, none⟩))) rfl (by kernel_rfl) (by kernel_rfl) (by kernel_rfl) (by kernel_rfl) (fun _ _ _ h => h) (.inl ⟨by kernel_rfl, fun W' hW => by go_simp⟩) hS4 ?_
      try simp only [Act.put, List.setIfInBounds_toArray, List.set_cons_zero, List.set_cons_succ]
      refine wpAnyT_ready (rs := [15]) (by kernel_rfl) (by simp) (AllReadyT.cons (o := { dst := none, op := Op.store 25 (Operand.tmp 92) (Operand.tmp 91), type := 0, pos := _, after := _, guard := none }) rfl (fun K hK => ?_) AllReadyT.nil)
      have OX9 := Lib.hid ((obj_below hS4 hxl).trans OXr.out)
      have z9 := lt_of_obj OX9.out
      have t1' := cell_at OX9.out 3
      have t2' := frozen_at OX9.out 3
      simp at t1'
      go_simp
      refine hK.out _ _ (.inl rfl) ?_
      clear hK K
      try simp only [Act.put, List.setIfInBounds_toArray, List.set_cons_zero, List.set_cons_succ]
      refine wpAnyT_done (by kernel_rfl) ?_ _
      have HF9 : Hid (FrOwn w9 (w.heap.size + 2) ⟨ep, eoa, eon, eoc, eta, m.tips.length, etc, a9, n9, c9⟩ { m with said := AD }) := Lib.hid (by
        have h1 := HFr.out.below hS4
        have h2 := HSr.out.below hS4
        have h3 := HIO.out.below hS4
        refine ⟨h1.phase, h1.op, h1.tips, _, R9.out.mono (by have := BW.out.size; have := HZ45.out; omega), ?_⟩
        show SdOwn w9 _ _ AD
        rw [HAJ.out]
        exact sdOwn_app (sdOwn_app (sdOwn_take h2 _) (sdOwn_one rfl h3)) (sdOwn_drop h2 _))
      have OX10 : Hid (obj (w9.setCell ⟨bx, 3, none⟩ (.slice a9 n9 c9)) bx = some (.cells #[.int .i64 ep, .slice eoa eon eoc, .slice eta m.tips.length etc, .slice a9 n9 c9] 27 (0, 0))) := Lib.hid (obj_setCell_at _ OX9.out)
      have OR9 := Lib.hid ((obj_below hS4 (lt_of_obj ORr.out)).trans ORr.out)
      have OR10 := Lib.hid ((obj_setCell_ne w9 ⟨bx, 3, none⟩ (.slice a9 n9 c9) (w.heap.size + 1) (by dsimp only; omega)).trans OR9.out)
      have HF10 := Lib.hid (HF9.out.setBox OX9.out 3 (.slice a9 n9 c9))
      have B10 : Hid (Below w.heap.size w (w9.setCell ⟨bx, 3, none⟩ (.slice a9 n9 c9))) := Lib.hid ((BW.out.trans (hS4.mono BW.out.size)).setCell (by dsimp only; omega) _)
      have hz10 : (w9.setCell ⟨bx, 3, none⟩ (.slice a9 n9 c9)).heap.size = w9.heap.size := by simp
      have hw9 : w.heap.size + 2 ≤ w9.heap.size := by omega
      have y0 := cell_at OX10.out 0
      have y1 := cell_at OX10.out 1
      have y2 := cell_at OX10.out 2
      have y3 := cell_at OX10.out 3
      simp at y0 y1 y2 y3
      have HCD := Lib.hid (closedR_any (w9.setCell ⟨bx, 3, none⟩ (.slice a9 n9 c9)) (w.heap.size + 2) (.slice la l.length lc) l ⟨ep, eoa, eon, eoc, eta, m.tips.length, etc, a9, n9, c9⟩ { m with said := AD } node (HL.out.below B10.out) HF10.out (by rw [hz10]; exact hw9) (.inr HPH.out.symm) HS.out.op hln)
      have HW10 : Hid (w.heap.size + 2 ≤ (w9.setCell ⟨bx, 3, none⟩ (.slice a9 n9 c9)).heap.size) := Lib.hid (by rw [hz10]; exact hw9)
      clear hz10 hw9
      go_wp2_with fail
      generalize w9.setCell ⟨bx, 3, none⟩ (.slice a9 n9 c9) = w10 at *
      clear y0 y1 y2 y3 OX9 HF9 OR9
      refine HCD.out.mono ?_
      rintro e w11 ⟨⟨gp, goa, gon, goc, gta, gtn, gtc, gsa, gsn, gsc⟩, rfl, hf11, b11⟩
      have hz11 := b11.size
      have OR11 := Lib.hid ((obj_below b11 (by omega)).trans OR10.out)
      have B11 : Hid (Below w.heap.size w w11) := Lib.hid (B10.out.trans (b11.mono (by omega)))
      have HF11 := Lib.hid (hf11.mono (base := w.heap.size) (by omega))
      clear b11 hf11 HCD OR10 B10 HF10 OX10
      have y0 := cell_at OR11.out 0
      have y1 := cell_at OR11.out 1
      have y2 := cell_at OR11.out 2
      have y3 := cell_at OR11.out 3
      have yf := frozen_at OR11.out
      simp at y0 y1 y2 y3 yf
      go_wp2_with fail
      have q := obj_setCell_at (.slice gsa gsn gsc) (i := 3) (obj_setCell_at (.slice gta gtn gtc) (i := 2) (obj_setCell_at (.slice goa gon goc) (i := 1) (obj_setCell_at (.int .i64 gp) (i := 0) OR11.out)))
      have z0 := cell_at q 0
      have z1 := cell_at q 1
      have z2 := cell_at q 2
      have z3 := cell_at q 3
      have HQ := Lib.hid q
      clear q
      simp at z0 z1 z2 z3
      have HFE := Lib.hid ((((HF11.out.setBox OR11.out 0 (.int .i64 gp)).setBox (obj_setCell_at (.int .i64 gp) (i := 0) OR11.out) 1 (.slice goa gon goc)).setBox (obj_setCell_at (.slice goa gon goc) (i := 1) (obj_setCell_at (.int .i64 gp) (i := 0) OR11.out)) 2 (.slice gta gtn gtc)).setBox (obj_setCell_at (.slice gta gtn gtc) (i := 2) (obj_setCell_at (.slice goa gon goc) (i := 1) (obj_setCell_at (.int .i64 gp) (i := 0) OR11.out))) 3 (.slice gsa gsn gsc))
      have BE : Hid (Below w.heap.size w ((((w11.setCell ⟨w.heap.size + 1, 0, none⟩ (.int .i64 gp)).setCell ⟨w.heap.size + 1, 1, none⟩ (.slice goa gon goc)).setCell ⟨w.heap.size + 1, 2, none⟩ (.slice gta gtn gtc)).setCell ⟨w.heap.size + 1, 3, none⟩ (.slice gsa gsn gsc))) := Lib.hid ((((B11.out.setCell (by dsimp only; omega) _).setCell (by dsimp only; omega) _).setCell (by dsimp only; omega) _).setCell (by dsimp only; omega) _)
      generalize (((w11.setCell ⟨w.heap.size + 1, 0, none⟩ (.int .i64 gp)).setCell ⟨w.heap.size + 1, 1, none⟩ (.slice goa gon goc)).setCell ⟨w.heap.size + 1, 2, none⟩ (.slice gta gtn gtc)).setCell ⟨w.heap.size + 1, 3, none⟩ (.slice gsa gsn gsc) = wE at *
      refine bodyPost_ret (v := .tuple #[frV ⟨gp, goa, gon, goc, gta, gtn, gtc, gsa, gsn, gsc⟩, .int .i64 0]) (by simp [results, Tryz.results12, go_sem, z0, z1, z2, z3]) rfl ⟨_, rfl, HFE.out, BE.out⟩
    · go_simp
      have hS1 := hS.alloc hS.size (.cells #[.int .i64 node, .slice aq nq cq] 42)
      refine hK.out _ _ (.inr hS1) ?_
      clear hK K
      try simp only [Act.put, List.setIfInBounds_toArray, List.set_cons_zero, List.set_cons_succ]
      refine wpAnyT_ready (rs := [5]) (by kernel_rfl) (by simp) (AllReadyT.cons (o := { dst := some 83, op := Op.call { callee := Callee.builtin Builtin.append, args := #[Operand.tmp 78, Operand.tmp 82], argTypes := #[25, 25] }, type := 25, pos := _, after := _, guard := none }) rfl (fun K hK => ?_) AllReadyT.nil)
      refine step25 rfl (.tmp 78) (.tmp 82) rfl wr.heap.size (.slice none 0 0) [] (rows.take rows.length) rfl (OwnS.nil _ _ _ _ _) _ rfl (HTK.out.below hS1) (by simp; omega) hS1.size ?_
      intro v3 w3 r1 r2 r3
      have R3 : Hid (OwnS w3 wr.heap.size 42 2 sdL v3 (rows.take rows.length)) := Lib.hid r1
      have XI : Hid (obj w3 wr.heap.size = some (.cells #[.int .i64 node, .slice aq nq cq] 42 (0, 0))) := Lib.hid ((r3 _ (by simp) (by simp [Value.ownBlock])).trans (obj_alloc_at _ _ _ rfl))
      clear r1 r3
      have hS2 := hS1.trans r2
      refine hK.out _ _ (.inr hS2) ?_
      clear hK K
      try simp only [Act.put, List.setIfInBounds_toArray, List.set_cons_zero, List.set_cons_succ]
      refine wpAnyT_ready (rs := [8]) (by kernel_rfl) (by simp) (AllReadyT.cons (o := { dst := some 86, op := Op.call { callee := Callee.builtin Builtin.append, args := #[Operand.tmp 83, Operand.tmp 85], argTypes := #[25, 25] }, type := 25, pos := _, after := _, guard := none }) rfl (fun K hK => ?_) AllReadyT.nil)
      refine step25 rfl (.tmp 83) (.tmp 85) rfl wr.heap.size v3 (rows.take rows.length) [⟨node, aq, nq, cq⟩] rfl R3.out _ rfl (SlIn.one sdL_length ⟨node, aq, nq, cq⟩ XI.out) (by simp; omega) hS2.size ?_
      intro v8 w8 r1 r2 r3
      have R8 : Hid (OwnS w8 wr.heap.size 42 2 sdL v8 (rows.take rows.length ++ [⟨node, aq, nq, cq⟩])) := Lib.hid r1
      clear r1 r3
      have hS3 := hS2.trans r2
      refine hK.out _ _ (.inr hS3) ?_
      clear hK K
      try simp only [Act.put, List.setIfInBounds_toArray, List.set_cons_zero, List.set_cons_succ]
      refine wpAnyT_ready (rs := [13]) (by kernel_rfl) (by simp) (AllReadyT.cons (o := { dst := some 91, op := Op.call { callee := Callee.builtin Builtin.append, args := #[Operand.tmp 86, Operand.tmp 90], argTypes := #[25, 25] }, type := 25, pos := _, after := _, guard := none }) rfl (fun K hK => ?_) AllReadyT.nil)
      refine step25 rfl (.tmp 86) (.tmp 90) rfl wr.heap.size v8 (rows.take rows.length ++ [⟨node, aq, nq, cq⟩]) (rows.drop rows.length) rfl R8.out hv rfl (HSV.out _ (HRX.out.below hS3)) (by simp; omega) hS3.size ?_
      intro v9 w9 r1 r2 r3
      obtain ⟨a9, c9, e9⟩ := r1.slice
      have R9 : Hid (OwnC w9 wr.heap.size 42 2 sdL v9 (rows.take rows.length ++ [⟨node, aq, nq, cq⟩] ++ rows.drop rows.length)) := Lib.hid r1.1
      generalize (rows.take rows.length ++ [(⟨node, aq, nq, cq⟩ : SdD)] ++ rows.drop rows.length).length = n9 at e9
      subst e9
      clear r1 r3
      have hS4 := hS3.trans r2
      refine hK.out _ _ (.inr hS4) ?_
      clear hK K
      try simp only [Act.put, List.setIfInBounds_toArray, List.set_cons_zero, List.set_cons_succ]
      refine wpAnyT_take (i := 14) (oi := { dst := some 92, op := Op.fieldAddr 27 (Operand.tmp 10) 3, type := 0, pos := _, after := _, guard := none }) (v := (.pointer (some ⟨bx, 3, none⟩))) rfl (by kernel_rfl) (by kernel_rfl) (by kernel_rfl) (by kernel_rfl) (fun _ _ _ h => h) (.inl ⟨by kernel_rfl, fun W' hW => by go_simp⟩) hS4 ?_
      try simp only [Act.put, List.setIfInBounds_toArray, List.set_cons_zero, List.set_cons_succ]
      refine wpAnyT_ready (rs := [15]) (by kernel_rfl) (by simp) (AllReadyT.cons (o := { dst := none, op := Op.store 25 (Operand.tmp 92) (Operand.tmp 91), type := 0, pos := _, after := _, guard := none }) rfl (fun K hK => ?_) AllReadyT.nil)
      have OX9 := Lib.hid ((obj_below hS4 hxl).trans OXr.out)
      have z9 := lt_of_obj OX9.out
      have t1' := cell_at OX9.out 3
      have t2' := frozen_at OX9.out 3
      simp at t1'
      go_simp
      refine hK.out _ _ (.inl rfl) ?_
      clear hK K
      try simp only [Act.put, List.setIfInBounds_toArray, List.set_cons_zero, List.set_cons_succ]
      refine wpAnyT_done (by kernel_rfl) ?_ _
      have HF9 : Hid (FrOwn w9 (w.heap.size + 2) ⟨ep, eoa, eon, eoc, eta, m.tips.length, etc, a9, n9, c9⟩ { m with said := AD }) := Lib.hid (by
        have h1 := HFr.out.below hS4
        have h2 := HSr.out.below hS4
        have h3 := HIO.out.below hS4
        refine ⟨h1.phase, h1.op, h1.tips, _, R9.out.mono (by have := BW.out.size; have := HZ45.out; omega), ?_⟩
        show SdOwn w9 _ _ AD
        rw [HAJ.out]
        exact sdOwn_app (sdOwn_app (sdOwn_take h2 _) (sdOwn_one rfl h3)) (sdOwn_drop h2 _))
      have OX10 : Hid (obj (w9.setCell ⟨bx, 3, none⟩ (.slice a9 n9 c9)) bx = some (.cells #[.int .i64 ep, .slice eoa eon eoc, .slice eta m.tips.length etc, .slice a9 n9 c9] 27 (0, 0))) := Lib.hid (obj_setCell_at _ OX9.out)
      have OR9 := Lib.hid ((obj_below hS4 (lt_of_obj ORr.out)).trans ORr.out)
      have OR10 := Lib.hid ((obj_setCell_ne w9 ⟨bx, 3, none⟩ (.slice a9 n9 c9) (w.heap.size + 1) (by dsimp only; omega)).trans OR9.out)
      have HF10 := Lib.hid (HF9.out.setBox OX9.out 3 (.slice a9 n9 c9))
      have B10 : Hid (Below w.heap.size w (w9.setCell ⟨bx, 3, none⟩ (.slice a9 n9 c9))) := Lib.hid ((BW.out.trans (hS4.mono BW.out.size)).setCell (by dsimp only; omega) _)
      have hz10 : (w9.setCell ⟨bx, 3, none⟩ (.slice a9 n9 c9)).heap.size = w9.heap.size := by simp
      have hw9 : w.heap.size + 2 ≤ w9.heap.size := by omega
      have y0 := cell_at OX10.out 0
      have y1 := cell_at OX10.out 1
      have y2 := cell_at OX10.out 2
      have y3 := cell_at OX10.out 3
      simp at y0 y1 y2 y3
      have HCD := Lib.hid (closedR_any (w9.setCell ⟨bx, 3, none⟩ (.slice a9 n9 c9)) (w.heap.size + 2) (.slice la l.length lc) l ⟨ep, eoa, eon, eoc, eta, m.tips.length, etc, a9, n9, c9⟩ { m with said := AD } node (HL.out.below B10.out) HF10.out (by rw [hz10]; exact hw9) (.inr HPH.out.symm) HS.out.op hln)
      have HW10 : Hid (w.heap.size + 2 ≤ (w9.setCell ⟨bx, 3, none⟩ (.slice a9 n9 c9)).heap.size) := Lib.hid (by rw [hz10]; exact hw9)
      clear hz10 hw9
      go_wp2_with fail
      generalize w9.setCell ⟨bx, 3, none⟩ (.slice a9 n9 c9) = w10 at *
      clear y0 y1 y2 y3 OX9 HF9 OR9
      refine HCD.out.mono ?_
      rintro e w11 ⟨⟨gp, goa, gon, goc, gta, gtn, gtc, gsa, gsn, gsc⟩, rfl, hf11, b11⟩
      have hz11 := b11.size
      have OR11 := Lib.hid ((obj_below b11 (by omega)).trans OR10.out)
      have B11 : Hid (Below w.heap.size w w11) := Lib.hid (B10.out.trans (b11.mono (by omega)))
      have HF11 := Lib.hid (hf11.mono (base := w.heap.size) (by omega))
      clear b11 hf11 HCD OR10 B10 HF10 OX10
      have y0 := cell_at OR11.out 0
      have y1 := cell_at OR11.out 1
      have y2 := cell_at OR11.out 2
      have y3 := cell_at OR11.out 3
      have yf := frozen_at OR11.out
      simp at y0 y1 y2 y3 yf
      go_wp2_with fail
      have q := obj_setCell_at (.slice gsa gsn gsc) (i := 3) (obj_setCell_at (.slice gta gtn gtc) (i := 2) (obj_setCell_at (.slice goa gon goc) (i := 1) (obj_setCell_at (.int .i64 gp) (i := 0) OR11.out)))
      have z0 := cell_at q 0
      have z1 := cell_at q 1
      have z2 := cell_at q 2
      have z3 := cell_at q 3
      have HQ := Lib.hid q
      clear q
      simp at z0 z1 z2 z3
      have HFE := Lib.hid ((((HF11.out.setBox OR11.out 0 (.int .i64 gp)).setBox (obj_setCell_at (.int .i64 gp) (i := 0) OR11.out) 1 (.slice goa gon goc)).setBox (obj_setCell_at (.slice goa gon goc) (i := 1) (obj_setCell_at (.int .i64 gp) (i := 0) OR11.out)) 2 (.slice gta gtn gtc)).setBox (obj_setCell_at (.slice gta gtn gtc) (i := 2) (obj_setCell_at (.slice goa gon goc) (i := 1) (obj_setCell_at (.int .i64 gp) (i := 0) OR11.out))) 3 (.slice gsa gsn gsc))
      have BE : Hid (Below w.heap.size w ((((w11.setCell ⟨w.heap.size + 1, 0, none⟩ (.int .i64 gp)).setCell ⟨w.heap.size + 1, 1, none⟩ (.slice goa gon goc)).setCell ⟨w.heap.size + 1, 2, none⟩ (.slice gta gtn gtc)).setCell ⟨w.heap.size + 1, 3, none⟩ (.slice gsa gsn gsc))) := Lib.hid ((((B11.out.setCell (by dsimp only; omega) _).setCell (by dsimp only; omega) _).setCell (by dsimp only; omega) _).setCell (by dsimp only; omega) _)
      generalize (((w11.setCell ⟨w.heap.size + 1, 0, none⟩ (.int .i64 gp)).setCell ⟨w.heap.size + 1, 1, none⟩ (.slice goa gon goc)).setCell ⟨w.heap.size + 1, 2, none⟩ (.slice gta gtn gtc)).setCell ⟨w.heap.size + 1, 3, none⟩ (.slice gsa gsn gsc) = wE at *
      refine bodyPost_ret (v := .tuple #[frV ⟨gp, goa, gon, goc, gta, gtn, gtc, gsa, gsn, gsc⟩, .int .i64 0]) (by simp [results, Tryz.results12, go_sem, z0, z1, z2, z3]) rfl ⟨_, rfl, HFE.out, BE.out⟩
  have hjs : j < m.said.length := by have := HRL.out; omega
  obtain ⟨b2, off2, rfl, hbb2, hrow2⟩ := K3.out (by omega)
  have z1 := hrow2 j hlj
  have hji : (j : Int) < rows.length := by omega
  have hq := (HSr.out.2 j rows[j] m.said[j] (List.getElem?_eq_getElem hlj) (List.getElem?_eq_getElem hjs)).1
  have c0 : wr.cell? ⟨b2, off2 + j * 2, none⟩ = some (.int .i64 rows[j].node) := by have := subOf_cell z1 (j := 0) (by decide); simpa [sdL] using this
  rw [hq] at c0
  have HNX : Hid (m.said[j].node < node → ∀ x ∈ m.said.take (j + 1), x.node < node) := Lib.hid (fun h x hx => by
    rw [List.take_succ_eq_append_getElem hjs] at hx
    rcases List.mem_append.1 hx with hx | hx
    · exact HMJ.out x hx
    · simp at hx; subst hx; exact h)
  have HNN : Hid (¬ m.said[j].node < node → AD = m.said.take j ++ [⟨node, FI⟩] ++ m.said.drop j) := Lib.hid (fun h => HADD.out j HMJ.out (fun _ => by omega))
  generalize m.said[j].node = rn at *
  clear z1 hrow2 hq
  by_cases hrn : rn < node
  · have HNY := Lib.hid (HNX.out hrn)
    go_wp2_with fail
    go_roundw
    case rel => exact ⟨j + 1, by omega, by go_num, HNY, trivial⟩
    case measure => first | exact meas_step' hlj | (simp [intOf]; omega)
  · have HAJ := Lib.hid (HNN.out hrn)
    have HLO := Lib.hid (fun W => run_loS (k := j) HRX.out (by omega) W)
    have HHI := Lib.hid (run_hiS (k := j) HRX.out (by omega))
    obtain ⟨hv, hhv, hsv⟩ := HHI.out
    have HHV := Lib.hid hhv
    have HSV := Lib.hid hsv
    have HTK := Lib.hid (HRX.out.take (n := j) (by omega))
    have htk : (rows.take j).length = j := by simp; try omega
    clear hhv hsv HHI
    have HSC : Hid (∀ wx : World, Below wr.heap.size wr wx → wx.cell? ⟨bx, 3, none⟩ = some (.slice (some ⟨b2, off2, none⟩) rows.length esc) ∧ wx.cell? ⟨bx + 1, 0, none⟩ = some (.int .i64 node) ∧ wx.cell? ⟨bx + 1, 1, none⟩ = some (.slice aq nq cq)) := Lib.hid (fun wx h => ⟨cell_at ((obj_below h hxl).trans OXr.out) 3, cell_at ((obj_below h hsl).trans OS.out) 0, cell_at ((obj_below h hsl).trans OS.out) 1⟩)
    go_wp2_with fail
    have hS : Below wr.heap.size wr wr.drew := (Below.refl _ _).drew
    refine wp_region_heldT 15 (fun W => Below wr.heap.size wr W) (by kernel_rfl) ?_
    refine wpAnyT_take (i := 0) (oi := { dst := some 78, op := Op.move (Operand.tmp 13), type := 25, pos := _, after := _, guard := none }) (v := (.slice none 0 0)) rfl (by kernel_rfl) (by kernel_rfl) (by kernel_rfl) (by kernel_rfl) (fun _ _ _ h => h) (yieldsIf_mv (by kernel_rfl) (.tmp 13) (by kernel_rfl) (by kernel_rfl)) hS ?_
    try simp only [Act.put, List.setIfInBounds_toArray, List.set_cons_zero, List.set_cons_succ]
    refine wpAnyT_take (i := 1) (oi := { dst := some 79, op := Op.fieldAddr 27 (Operand.tmp 10) 3, type := 0, pos := _, after := _, guard := none }) (v := (.pointer (some ⟨bx, 3, none⟩))) rfl (by kernel_rfl) (by kernel_rfl) (by kernel_rfl) (by kernel_rfl) (fun _ _ _ h => h) (.inl ⟨by kernel_rfl, fun W' hW => by go_simp⟩) hS ?_
    try simp only [Act.put, List.setIfInBounds_toArray, List.set_cons_zero, List.set_cons_succ]
    refine wpAnyT_take (i := 2) (oi := { dst := some 80, op := Op.load 25 (Operand.tmp 79), type := 25, pos := _, after := _, guard := none }) (v := (.slice (some ⟨b2, off2, none⟩) rows.length esc)) rfl (by kernel_rfl) (by kernel_rfl) (by kernel_rfl) (by kernel_rfl) (fun _ _ _ h => h) (.inl ⟨by kernel_rfl, fun W' hW => by obtain ⟨f1, f2, f3⟩ := HSC.out W' hW; go_simp⟩) hS ?_
    try simp only [Act.put, List.setIfInBounds_toArray, List.set_cons_zero, List.set_cons_succ]
    refine wpAnyT_take (i := 3) (oi := { dst := some 81, op := Op.move (Operand.tmp 14), type := 3, pos := _, after := _, guard := none }) (v := (.int .i64 (j : Int))) rfl (by kernel_rfl) (by kernel_rfl) (by kernel_rfl) (by kernel_rfl) (fun _ _ _ h => h) (yieldsIf_mv (by kernel_rfl) (.tmp 14) (by kernel_rfl) (by kernel_rfl)) hS ?_
    try simp only [Act.put, List.setIfInBounds_toArray, List.set_cons_zero, List.set_cons_succ]
    refine wpAnyT_take (i := 4) (oi := { dst := some 82, op := Op.slice 25 (Operand.tmp 80) none (some (Operand.tmp 81)) none, type := 25, pos := _, after := _, guard := none }) (v := (.slice (some ⟨b2, off2, none⟩) j esc)) rfl (by kernel_rfl) (by kernel_rfl) (by kernel_rfl) (by kernel_rfl) (fun _ _ _ h => h) (.inl ⟨by kernel_rfl, fun W' hW => by have hlo := HLO.out W'; go_simp⟩) hS ?_
    try simp only [Act.put, List.setIfInBounds_toArray, List.set_cons_zero, List.set_cons_succ]
    refine wpAnyT_take (i := 6) (oi := { dst := some 84, op := Op.load 42 (Operand.tmp 11), type := 42, pos := _, after := _, guard := none }) (v := (.agg #[.int .i64 node, .slice aq nq cq])) rfl (by kernel_rfl) (by kernel_rfl) (by kernel_rfl) (by kernel_rfl) (fun _ _ _ h => h) (.inl ⟨by kernel_rfl, fun W' hW => by obtain ⟨f1, f2, f3⟩ := HSC.out W' hW; go_simp⟩) hS ?_
    try simp only [Act.put, List.setIfInBounds_toArray, List.set_cons_zero, List.set_cons_succ]
    refine wpAnyT_take (i := 9) (oi := { dst := some 87, op := Op.fieldAddr 27 (Operand.tmp 10) 3, type := 0, pos := _, after := _, guard := none }) (v := (.pointer (some ⟨bx, 3, none⟩))) rfl (by kernel_rfl) (by kernel_rfl) (by kernel_rfl) (by kernel_rfl) (fun _ _ _ h => h) (.inl ⟨by kernel_rfl, fun W' hW => by go_simp⟩) hS ?_
    try simp only [Act.put, List.setIfInBounds_toArray, List.set_cons_zero, List.set_cons_succ]
    refine wpAnyT_take (i := 10) (oi := { dst := some 88, op := Op.load 25 (Operand.tmp 87), type := 25, pos := _, after := _, guard := none }) (v := (.slice (some ⟨b2, off2, none⟩) rows.length esc)) rfl (by kernel_rfl) (by kernel_rfl) (by kernel_rfl) (by kernel_rfl) (fun _ _ _ h => h) (.inl ⟨by kernel_rfl, fun W' hW => by obtain ⟨f1, f2, f3⟩ := HSC.out W' hW; go_simp⟩) hS ?_
    try simp only [Act.put, List.setIfInBounds_toArray, List.set_cons_zero, List.set_cons_succ]
    refine wpAnyT_take (i := 11) (oi := { dst := some 89, op := Op.move (Operand.tmp 14), type := 3, pos := _, after := _, guard := none }) (v := (.int .i64 (j : Int))) rfl (by kernel_rfl) (by kernel_rfl) (by kernel_rfl) (by kernel_rfl) (fun _ _ _ h => h) (yieldsIf_mv (by kernel_rfl) (.tmp 14) (by kernel_rfl) (by kernel_rfl)) hS ?_
    try simp only [Act.put, List.setIfInBounds_toArray, List.set_cons_zero, List.set_cons_succ]
    refine wpAnyT_take (i := 12) (oi := { dst := some 90, op := Op.slice 25 (Operand.tmp 88) (some (Operand.tmp 89)) none none, type := 25, pos := _, after := _, guard := none }) (v := hv) rfl (by kernel_rfl) (by kernel_rfl) (by kernel_rfl) (by kernel_rfl) (fun _ _ _ h => h) (.inl ⟨by kernel_rfl, fun W' hW => by have hlo := HHV.out W'; go_simp⟩) hS ?_
    try simp only [Act.put, List.setIfInBounds_toArray, List.set_cons_zero, List.set_cons_succ]
    refine wpAnyT_ready (rs := [5, 7]) (by kernel_rfl) (by simp) (AllReadyT.cons (o := { dst := some 83, op := Op.call { callee := Callee.builtin Builtin.append, args := #[Operand.tmp 78, Operand.tmp 82], argTypes := #[25, 25] }, type := 25, pos := _, after := _, guard := none }) rfl (fun K hK => ?_) (AllReadyT.cons (o := { dst := some 85, op := Op.buildSlice 25 1 #[(0, Operand.tmp 84)], type := 25, pos := _, after := _, guard := none }) rfl (fun K hK => ?_) AllReadyT.nil))
    · refine step25 rfl (.tmp 78) (.tmp 82) rfl wr.heap.size (.slice none 0 0) [] (rows.take j) rfl (OwnS.nil _ _ _ _ _) _ rfl (HTK.out.below hS) (by simp; omega) hS.size ?_
      intro v3 w3 r1 r2 r3
      have R3 : Hid (OwnS w3 wr.heap.size 42 2 sdL v3 (rows.take j)) := Lib.hid r1
      clear r1 r3
      have hS1 := hS.trans r2
      refine hK.out _ _ (.inr hS1) ?_
      clear hK K
      try simp only [Act.put, List.setIfInBounds_toArray, List.set_cons_zero, List.set_cons_succ]
      refine wpAnyT_ready (rs := [7]) (by kernel_rfl) (by simp) (AllReadyT.cons (o := { dst := some 85, op := Op.buildSlice 25 1 #[(0, Operand.tmp 84)], type := 25, pos := _, after := _, guard := none }) rfl (fun K hK => ?_) AllReadyT.nil)
      go_simp
      have hS2 := hS1.alloc hS1.size (.cells #[.int .i64 node, .slice aq nq cq] 42)
      refine hK.out _ _ (.inr hS2) ?_
      clear hK K
      try simp only [Act.put, List.setIfInBounds_toArray, List.set_cons_zero, List.set_cons_succ]
      refine wpAnyT_ready (rs := [8]) (by kernel_rfl) (by simp) (AllReadyT.cons (o := { dst := some 86, op := Op.call { callee := Callee.builtin Builtin.append, args := #[Operand.tmp 83, Operand.tmp 85], argTypes := #[25, 25] }, type := 25, pos := _, after := _, guard := none }) rfl (fun K hK => ?_) AllReadyT.nil)
      refine step25 rfl (.tmp 83) (.tmp 85) rfl wr.heap.size v3 (rows.take j) [⟨node, aq, nq, cq⟩] rfl (R3.out.alloc _) _ rfl (SlIn.one sdL_length ⟨node, aq, nq, cq⟩ (obj_alloc_at _ _ _ rfl)) (by simp; omega) hS2.size ?_
      intro v8 w8 r1 r2 r3
      have R8 : Hid (OwnS w8 wr.heap.size 42 2 sdL v8 (rows.take j ++ [⟨node, aq, nq, cq⟩])) := Lib.hid r1
      clear r1 r3
      have hS3 := hS2.trans r2
      refine hK.out _ _ (.inr hS3) ?_
      clear hK K
      try simp only [Act.put, List.setIfInBounds_toArray, List.set_cons_zero, List.set_cons_succ]
      refine wpAnyT_ready (rs := [13]) (by kernel_rfl) (by simp) (AllReadyT.cons (o := { dst := some 91, op := Op.call { callee := Callee.builtin Builtin.append, args := #[Operand.tmp 86, Operand.tmp 90], argTypes := #[25, 25] }, type := 25, pos := _, after := _, guard := none }) rfl (fun K hK => ?_) AllReadyT.nil)
      refine step25 rfl (.tmp 86) (.tmp 90) rfl wr.heap.size v8 (rows.take j ++ [⟨node, aq, nq, cq⟩]) (rows.drop j) rfl R8.out hv rfl (HSV.out _ (HRX.out.below hS3)) (by simp; omega) hS3.size ?_
      intro v9 w9 r1 r2 r3
      obtain ⟨a9, c9, e9⟩ := r1.slice
      have R9 : Hid (OwnC w9 wr.heap.size 42 2 sdL v9 (rows.take j ++ [⟨node, aq, nq, cq⟩] ++ rows.drop j)) := Lib.hid r1.1
      generalize (rows.take j ++ [(⟨node, aq, nq, cq⟩ : SdD)] ++ rows.drop j).length = n9 at e9
      subst e9
      clear r1 r3
      have hS4 := hS3.trans r2
      refine hK.out _ _ (.inr hS4) ?_
      clear hK K
      try simp only [Act.put, List.setIfInBounds_toArray, List.set_cons_zero, List.set_cons_succ]
      refine wpAnyT_take (i := 14) (oi := { dst := some 92, op := Op.fieldAddr 27 (Operand.tmp 10) 3, type := 0, pos := _, after := _, guard := none }) (v := (.pointer (some ⟨bx, 3, none⟩))) rfl (by kernel_rfl) (by kernel_rfl) (by kernel_rfl) (by kernel_rfl) (fun _ _ _ h => h) (.inl ⟨by kernel_rfl, fun W' hW => by go_simp⟩) hS4 ?_
      try simp only [Act.put, List.setIfInBounds_toArray, List.set_cons_zero, List.set_cons_succ]
      refine wpAnyT_ready (rs := [15]) (by kernel_rfl) (by simp) (AllReadyT.cons (o := { dst := none, op := Op.store 25 (Operand.tmp 92) (Operand.tmp 91), type := 0, pos := _, after := _, guard := none }) rfl (fun K hK => ?_) AllReadyT.nil)
      have OX9 := Lib.hid ((obj_below hS4 hxl).trans OXr.out)
      have z9 := lt_of_obj OX9.out
      have t1' := cell_at OX9.out 3
      have t2' := frozen_at OX9.out 3
      simp at t1'
      go_simp
      refine hK.out _ _ (.inl rfl) ?_
      clear hK K
      try simp only [Act.put, List.setIfInBounds_toArray, List.set_cons_zero, List.set_cons_succ]
      refine wpAnyT_done (by kernel_rfl) ?_ _
      have HF9 : Hid (FrOwn w9 (w.heap.size + 2) ⟨ep, eoa, eon, eoc, eta, m.tips.length, etc, a9, n9, c9⟩ { m with said := AD }) := Lib.hid (by
        have h1 := HFr.out.below hS4
        have h2 := HSr.out.below hS4
        have h3 := HIO.out.below hS4
        refine ⟨h1.phase, h1.op, h1.tips, _, R9.out.mono (by have := BW.out.size; have := HZ45.out; omega), ?_⟩
        show SdOwn w9 _ _ AD
        rw [HAJ.out]
        exact sdOwn_app (sdOwn_app (sdOwn_take h2 _) (sdOwn_one rfl h3)) (sdOwn_drop h2 _))
      have OX10 : Hid (obj (w9.setCell ⟨bx, 3, none⟩ (.slice a9 n9 c9)) bx = some (.cells #[.int .i64 ep, .slice eoa eon eoc, .slice eta m.tips.length etc, .slice a9 n9 c9] 27 (0, 0))) := Lib.hid (obj_setCell_at _ OX9.out)
      have OR9 := Lib.hid ((obj_below hS4 (lt_of_obj ORr.out)).trans ORr.out)
      have OR10 := Lib.hid ((obj_setCell_ne w9 ⟨bx, 3, none⟩ (.slice a9 n9 c9) (w.heap.size + 1) (by dsimp only; omega)).trans OR9.out)
      have HF10 := Lib.hid (HF9.out.setBox OX9.out 3 (.slice a9 n9 c9))
      have B10 : Hid (Below w.heap.size w (w9.setCell ⟨bx, 3, none⟩ (.slice a9 n9 c9))) := Lib.hid ((BW.out.trans (hS4.mono BW.out.size)).setCell (by dsimp only; omega) _)
      have hz10 : (w9.setCell ⟨bx, 3, none⟩ (.slice a9 n9 c9)).heap.size = w9.heap.size := by simp
      have hw9 : w.heap.size + 2 ≤ w9.heap.size := by omega
      have y0 := cell_at OX10.out 0
      have y1 := cell_at OX10.out 1
      have y2 := cell_at OX10.out 2
      have y3 := cell_at OX10.out 3
      simp at y0 y1 y2 y3
      have HCD := Lib.hid (closedR_any (w9.setCell ⟨bx, 3, none⟩ (.slice a9 n9 c9)) (w.heap.size + 2) (.slice la l.length lc) l ⟨ep, eoa, eon, eoc, eta, m.tips.length, etc, a9, n9, c9⟩ { m with said := AD } node (HL.out.below B10.out) HF10.out (by rw [hz10]; exact hw9) (.inr HPH.out.symm) HS.out.op hln)
      have HW10 : Hid (w.heap.size + 2 ≤ (w9.setCell ⟨bx, 3, none⟩ (.slice a9 n9 c9)).heap.size) := Lib.hid (by rw [hz10]; exact hw9)
      clear hz10 hw9
      go_wp2_with fail
      generalize w9.setCell ⟨bx, 3, none⟩ (.slice a9 n9 c9) = w10 at *
      clear y0 y1 y2 y3 OX9 HF9 OR9
      refine HCD.out.mono ?_
      rintro e w11 ⟨⟨gp, goa, gon, goc, gta, gtn, gtc, gsa, gsn, gsc⟩, rfl, hf11, b11⟩
      have hz11 := b11.size
      have OR11 := Lib.hid ((obj_below b11 (by omega)).trans OR10.out)
      have B11 : Hid (Below w.heap.size w w11) := Lib.hid (B10.out.trans (b11.mono (by omega)))
      have HF11 := Lib.hid (hf11.mono (base := w.heap.size) (by omega))
      clear b11 hf11 HCD OR10 B10 HF10 OX10
      have y0 := cell_at OR11.out 0
      have y1 := cell_at OR11.out 1
      have y2 := cell_at OR11.out 2
      have y3 := cell_at OR11.out 3
      have yf := frozen_at OR11.out
      simp at y0 y1 y2 y3 yf
      go_wp2_with fail
      have q := obj_setCell_at (.slice gsa gsn gsc) (i := 3) (obj_setCell_at (.slice gta gtn gtc) (i := 2) (obj_setCell_at (.slice goa gon goc) (i := 1) (obj_setCell_at (.int .i64 gp) (i := 0) OR11.out)))
      have z0 := cell_at q 0
      have z1 := cell_at q 1
      have z2 := cell_at q 2
      have z3 := cell_at q 3
      have HQ := Lib.hid q
      clear q
      simp at z0 z1 z2 z3
      have HFE := Lib.hid ((((HF11.out.setBox OR11.out 0 (.int .i64 gp)).setBox (obj_setCell_at (.int .i64 gp) (i := 0) OR11.out) 1 (.slice goa gon goc)).setBox (obj_setCell_at (.slice goa gon goc) (i := 1) (obj_setCell_at (.int .i64 gp) (i := 0) OR11.out)) 2 (.slice gta gtn gtc)).setBox (obj_setCell_at (.slice gta gtn gtc) (i := 2) (obj_setCell_at (.slice goa gon goc) (i := 1) (obj_setCell_at (.int .i64 gp) (i := 0) OR11.out))) 3 (.slice gsa gsn gsc))
      have BE : Hid (Below w.heap.size w ((((w11.setCell ⟨w.heap.size + 1, 0, none⟩ (.int .i64 gp)).setCell ⟨w.heap.size + 1, 1, none⟩ (.slice goa gon goc)).setCell ⟨w.heap.size + 1, 2, none⟩ (.slice gta gtn gtc)).setCell ⟨w.heap.size + 1, 3, none⟩ (.slice gsa gsn gsc))) := Lib.hid ((((B11.out.setCell (by dsimp only; omega) _).setCell (by dsimp only; omega) _).setCell (by dsimp only; omega) _).setCell (by dsimp only; omega) _)
      generalize (((w11.setCell ⟨w.heap.size + 1, 0, none⟩ (.int .i64 gp)).setCell ⟨w.heap.size + 1, 1, none⟩ (.slice goa gon goc)).setCell ⟨w.heap.size + 1, 2, none⟩ (.slice gta gtn gtc)).setCell ⟨w.heap.size + 1, 3, none⟩ (.slice gsa gsn gsc) = wE at *
      refine bodyPost_ret (v := .tuple #[frV ⟨gp, goa, gon, goc, gta, gtn, gtc, gsa, gsn, gsc⟩, .int .i64 0]) (by simp [results, Tryz.results12, go_sem, z0, z1, z2, z3]) rfl ⟨_, rfl, HFE.out, BE.out⟩
    · go_simp
      have hS1 := hS.alloc hS.size (.cells #[.int .i64 node, .slice aq nq cq] 42)
      refine hK.out _ _ (.inr hS1) ?_
      clear hK K
      try simp only [Act.put, List.setIfInBounds_toArray, List.set_cons_zero, List.set_cons_succ]
      refine wpAnyT_ready (rs := [5]) (by kernel_rfl) (by simp) (AllReadyT.cons (o := { dst := some 83, op := Op.call { callee := Callee.builtin Builtin.append, args := #[Operand.tmp 78, Operand.tmp 82], argTypes := #[25, 25] }, type := 25, pos := _, after := _, guard := none }) rfl (fun K hK => ?_) AllReadyT.nil)
      refine step25 rfl (.tmp 78) (.tmp 82) rfl wr.heap.size (.slice none 0 0) [] (rows.take j) rfl (OwnS.nil _ _ _ _ _) _ rfl (HTK.out.below hS1) (by simp; omega) hS1.size ?_
      intro v3 w3 r1 r2 r3
      have R3 : Hid (OwnS w3 wr.heap.size 42 2 sdL v3 (rows.take j)) := Lib.hid r1
      have XI : Hid (obj w3 wr.heap.size = some (.cells #[.int .i64 node, .slice aq nq cq] 42 (0, 0))) := Lib.hid ((r3 _ (by simp) (by simp [Value.ownBlock])).trans (obj_alloc_at _ _ _ rfl))
      clear r1 r3
      have hS2 := hS1.trans r2
      refine hK.out _ _ (.inr hS2) ?_
      clear hK K
      try simp only [Act.put, List.setIfInBounds_toArray, List.set_cons_zero, List.set_cons_succ]
      refine wpAnyT_ready (rs := [8]) (by kernel_rfl) (by simp) (AllReadyT.cons (o := { dst := some 86, op := Op.call { callee := Callee.builtin Builtin.append, args := #[Operand.tmp 83, Operand.tmp 85], argTypes := #[25, 25] }, type := 25, pos := _, after := _, guard := none }) rfl (fun K hK => ?_) AllReadyT.nil)
      refine step25 rfl (.tmp 83) (.tmp 85) rfl wr.heap.size v3 (rows.take j) [⟨node, aq, nq, cq⟩] rfl R3.out _ rfl (SlIn.one sdL_length ⟨node, aq, nq, cq⟩ XI.out) (by simp; omega) hS2.size ?_
      intro v8 w8 r1 r2 r3
      have R8 : Hid (OwnS w8 wr.heap.size 42 2 sdL v8 (rows.take j ++ [⟨node, aq, nq, cq⟩])) := Lib.hid r1
      clear r1 r3
      have hS3 := hS2.trans r2
      refine hK.out _ _ (.inr hS3) ?_
      clear hK K
      try simp only [Act.put, List.setIfInBounds_toArray, List.set_cons_zero, List.set_cons_succ]
      refine wpAnyT_ready (rs := [13]) (by kernel_rfl) (by simp) (AllReadyT.cons (o := { dst := some 91, op := Op.call { callee := Callee.builtin Builtin.append, args := #[Operand.tmp 86, Operand.tmp 90], argTypes := #[25, 25] }, type := 25, pos := _, after := _, guard := none }) rfl (fun K hK => ?_) AllReadyT.nil)
      refine step25 rfl (.tmp 86) (.tmp 90) rfl wr.heap.size v8 (rows.take j ++ [⟨node, aq, nq, cq⟩]) (rows.drop j) rfl R8.out hv rfl (HSV.out _ (HRX.out.below hS3)) (by simp; omega) hS3.size ?_
      intro v9 w9 r1 r2 r3
      obtain ⟨a9, c9, e9⟩ := r1.slice
      have R9 : Hid (OwnC w9 wr.heap.size 42 2 sdL v9 (rows.take j ++ [⟨node, aq, nq, cq⟩] ++ rows.drop j)) := Lib.hid r1.1
      generalize (rows.take j ++ [(⟨node, aq, nq, cq⟩ : SdD)] ++ rows.drop j).length = n9 at e9
      subst e9
      clear r1 r3
      have hS4 := hS3.trans r2
      refine hK.out _ _ (.inr hS4) ?_
      clear hK K
      try simp only [Act.put, List.setIfInBounds_toArray, List.set_cons_zero, List.set_cons_succ]
      refine wpAnyT_take (i := 14) (oi := { dst := some 92, op := Op.fieldAddr 27 (Operand.tmp 10) 3, type := 0, pos := _, after := _, guard := none }) (v := (.pointer (some ⟨bx, 3, none⟩))) rfl (by kernel_rfl) (by kernel_rfl) (by kernel_rfl) (by kernel_rfl) (fun _ _ _ h => h) (.inl ⟨by kernel_rfl, fun W' hW => by go_simp⟩) hS4 ?_
      try simp only [Act.put, List.setIfInBounds_toArray, List.set_cons_zero, List.set_cons_succ]
      refine wpAnyT_ready (rs := [15]) (by kernel_rfl) (by simp) (AllReadyT.cons (o := { dst := none, op := Op.store 25 (Operand.tmp 92) (Operand.tmp 91), type := 0, pos := _, after := _, guard := none }) rfl (fun K hK => ?_) AllReadyT.nil)
      have OX9 := Lib.hid ((obj_below hS4 hxl).trans OXr.out)
      have z9 := lt_of_obj OX9.out
      have t1' := cell_at OX9.out 3
      have t2' := frozen_at OX9.out 3
      simp at t1'
      go_simp
      refine hK.out _ _ (.inl rfl) ?_
      clear hK K
      try simp only [Act.put, List.setIfInBounds_toArray, List.set_cons_zero, List.set_cons_succ]
      refine wpAnyT_done (by kernel_rfl) ?_ _
      have HF9 : Hid (FrOwn w9 (w.heap.size + 2) ⟨ep, eoa, eon, eoc, eta, m.tips.length, etc, a9, n9, c9⟩ { m with said := AD }) := Lib.hid (by
        have h1 := HFr.out.below hS4
        have h2 := HSr.out.below hS4
        have h3 := HIO.out.below hS4
        refine ⟨h1.phase, h1.op, h1.tips, _, R9.out.mono (by have := BW.out.size; have := HZ45.out; omega), ?_⟩
        show SdOwn w9 _ _ AD
        rw [HAJ.out]
        exact sdOwn_app (sdOwn_app (sdOwn_take h2 _) (sdOwn_one rfl h3)) (sdOwn_drop h2 _))
      have OX10 : Hid (obj (w9.setCell ⟨bx, 3, none⟩ (.slice a9 n9 c9)) bx = some (.cells #[.int .i64 ep, .slice eoa eon eoc, .slice eta m.tips.length etc, .slice a9 n9 c9] 27 (0, 0))) := Lib.hid (obj_setCell_at _ OX9.out)
      have OR9 := Lib.hid ((obj_below hS4 (lt_of_obj ORr.out)).trans ORr.out)
      have OR10 := Lib.hid ((obj_setCell_ne w9 ⟨bx, 3, none⟩ (.slice a9 n9 c9) (w.heap.size + 1) (by dsimp only; omega)).trans OR9.out)
      have HF10 := Lib.hid (HF9.out.setBox OX9.out 3 (.slice a9 n9 c9))
      have B10 : Hid (Below w.heap.size w (w9.setCell ⟨bx, 3, none⟩ (.slice a9 n9 c9))) := Lib.hid ((BW.out.trans (hS4.mono BW.out.size)).setCell (by dsimp only; omega) _)
      have hz10 : (w9.setCell ⟨bx, 3, none⟩ (.slice a9 n9 c9)).heap.size = w9.heap.size := by simp
      have hw9 : w.heap.size + 2 ≤ w9.heap.size := by omega
      have y0 := cell_at OX10.out 0
      have y1 := cell_at OX10.out 1
      have y2 := cell_at OX10.out 2
      have y3 := cell_at OX10.out 3
      simp at y0 y1 y2 y3
      have HCD := Lib.hid (closedR_any (w9.setCell ⟨bx, 3, none⟩ (.slice a9 n9 c9)) (w.heap.size + 2) (.slice la l.length lc) l ⟨ep, eoa, eon, eoc, eta, m.tips.length, etc, a9, n9, c9⟩ { m with said := AD } node (HL.out.below B10.out) HF10.out (by rw [hz10]; exact hw9) (.inr HPH.out.symm) HS.out.op hln)
      have HW10 : Hid (w.heap.size + 2 ≤ (w9.setCell ⟨bx, 3, none⟩ (.slice a9 n9 c9)).heap.size) := Lib.hid (by rw [hz10]; exact hw9)
      clear hz10 hw9
      go_wp2_with fail
      generalize w9.setCell ⟨bx, 3, none⟩ (.slice a9 n9 c9) = w10 at *
      clear y0 y1 y2 y3 OX9 HF9 OR9
      refine HCD.out.mono ?_
      rintro e w11 ⟨⟨gp, goa, gon, goc, gta, gtn, gtc, gsa, gsn, gsc⟩, rfl, hf11, b11⟩
      have hz11 := b11.size
      have OR11 := Lib.hid ((obj_below b11 (by omega)).trans OR10.out)
      have B11 : Hid (Below w.heap.size w w11) := Lib.hid (B10.out.trans (b11.mono (by omega)))
      have HF11 := Lib.hid (hf11.mono (base := w.heap.size) (by omega))
      clear b11 hf11 HCD OR10 B10 HF10 OX10
      have y0 := cell_at OR11.out 0
      have y1 := cell_at OR11.out 1
      have y2 := cell_at OR11.out 2
      have y3 := cell_at OR11.out 3
      have yf := frozen_at OR11.out
      simp at y0 y1 y2 y3 yf
      go_wp2_with fail
      have q := obj_setCell_at (.slice gsa gsn gsc) (i := 3) (obj_setCell_at (.slice gta gtn gtc) (i := 2) (obj_setCell_at (.slice goa gon goc) (i := 1) (obj_setCell_at (.int .i64 gp) (i := 0) OR11.out)))
      have z0 := cell_at q 0
      have z1 := cell_at q 1
      have z2 := cell_at q 2
      have z3 := cell_at q 3
      have HQ := Lib.hid q
      clear q
      simp at z0 z1 z2 z3
      have HFE := Lib.hid ((((HF11.out.setBox OR11.out 0 (.int .i64 gp)).setBox (obj_setCell_at (.int .i64 gp) (i := 0) OR11.out) 1 (.slice goa gon goc)).setBox (obj_setCell_at (.slice goa gon goc) (i := 1) (obj_setCell_at (.int .i64 gp) (i := 0) OR11.out)) 2 (.slice gta gtn gtc)).setBox (obj_setCell_at (.slice gta gtn gtc) (i := 2) (obj_setCell_at (.slice goa gon goc) (i := 1) (obj_setCell_at (.int .i64 gp) (i := 0) OR11.out))) 3 (.slice gsa gsn gsc))
      have BE : Hid (Below w.heap.size w ((((w11.setCell ⟨w.heap.size + 1, 0, none⟩ (.int .i64 gp)).setCell ⟨w.heap.size + 1, 1, none⟩ (.slice goa gon goc)).setCell ⟨w.heap.size + 1, 2, none⟩ (.slice gta gtn gtc)).setCell ⟨w.heap.size + 1, 3, none⟩ (.slice gsa gsn gsc))) := Lib.hid ((((B11.out.setCell (by dsimp only; omega) _).setCell (by dsimp only; omega) _).setCell (by dsimp only; omega) _).setCell (by dsimp only; omega) _)
      generalize (((w11.setCell ⟨w.heap.size + 1, 0, none⟩ (.int .i64 gp)).setCell ⟨w.heap.size + 1, 1, none⟩ (.slice goa gon goc)).setCell ⟨w.heap.size + 1, 2, none⟩ (.slice gta gtn gtc)).setCell ⟨w.heap.size + 1, 3, none⟩ (.slice gsa gsn gsc) = wE at *
      refine bodyPost_ret (v := .tuple #[frV ⟨gp, goa, gon, goc, gta, gtn, gtc, gsa, gsn, gsc⟩, .int .i64 0]) (by simp [results, Tryz.results12, go_sem, z0, z1, z2, z3]) rfl ⟨_, rfl, HFE.out, BE.out⟩
end Go.Proofs.YtmgpfmgmpmkkaaaGreat
namespace Go.Proofs.YtmgpfmgmpmkkaaaGreat
open Go.RowKit Go.Shelf Go.Sort

/-! ### rows of numbers of which nothing is known but their kind -/
def JunkD (w : World) (base E : Nat) (q : IntKind) (k : Nat) (oa : Option Addr) (len : Nat) : Prop :=
  len = 0 ∨ ∃ (g : Nat) (cur : Array Value), oa = some ⟨g, 0, none⟩ ∧ base ≤ g ∧ obj w g = some (.cells cur E (0, 0)) ∧ ∀ i, i < len * k → ∃ n : Int, cur[i]? = some (.int q n)
theorem JunkD.below {w W : World} {base E k len : Nat} {q : IntKind} {oa : Option Addr} (h : JunkD w base E q k oa len) (hb : Below w.heap.size w W) : JunkD W base E q k oa len := by
  rcases h with h | ⟨g, cur, h1, h2, h3, h4⟩
  · exact .inl h
  · exact .inr ⟨g, cur, h1, h2, (obj_below hb (lt_of_obj h3)).trans h3, h4⟩
theorem JunkD.set {w : World} {base E k len : Nat} {q q' : IntKind} {oa : Option Addr} (h : JunkD w base E q k oa len) {g' E' : Nat} {cur' : Array Value} (ho : obj w g' = some (.cells cur' E' (0, 0))) (hq : E' = E → q' = q) (j : Nat) (y : Int) :
    JunkD (w.setCell ⟨g', j, none⟩ (.int q' y)) base E q k oa len := by
  rcases h with h | ⟨g, cur, h1, h2, h3, h4⟩
  · exact .inl h
  · by_cases hg : g = g'
    · subst hg
      rw [ho] at h3
      injection h3 with h3
      injection h3 with h5 h6
      subst h5 h6
      obtain rfl := hq rfl
      refine .inr ⟨g, _, h1, h2, obj_setCell_at _ ho, fun i hi => ?_⟩
      obtain ⟨n, hn⟩ := h4 i hi
      rw [Array.getElem?_setIfInBounds]
      by_cases hj : j = i
      · subst hj
        rw [if_pos rfl, if_pos (Array.getElem?_eq_some_iff.1 hn).1]
        exact ⟨y, rfl⟩
      · rw [if_neg hj]; exact ⟨n, hn⟩
    · exact .inr ⟨g, cur, h1, h2, (obj_setCell_ne _ ⟨g', j, none⟩ _ _ hg).trans h3, h4⟩
theorem JunkD.mono {w : World} {base base' E k len : Nat} {q : IntKind} {oa : Option Addr} (h : JunkD w base' E q k oa len) (hb : base ≤ base') : JunkD w base E q k oa len := by
  rcases h with h | ⟨g, cur, h1, h2, h3⟩
  · exact .inl h
  · exact .inr ⟨g, cur, h1, Nat.le_trans hb h2, h3⟩
theorem junkD_of {α : Type} {w : World} {base E k : Nat} {q : IntKind} {enc : α → List Value} {oa : Option Addr} {n cap : Nat} {xs : List α} (hk : ∀ x, (enc x).length = k) (hi : ∀ x, ∀ v ∈ enc x, ∃ y : Int, v = .int q y) (h : OwnC w base E k enc (.slice oa n cap) xs) : JunkD w base E q k oa n := by
  have hn := (h.slIn hk).n
  obtain ⟨_, h⟩ := h
  rcases h with ⟨e, h0⟩ | ⟨g, c, cur, e, hb, hg, h1, h2, h3, h4⟩
  · injection e with _ e2 _
    exact .inl e2
  · injection e with e1 e2 e3
    refine .inr ⟨g, cur, e1, hb, hg, fun i hlt => ?_⟩
    have hl : i < (xs.flatMap enc).length := by rw [flatMap_len hk, ← hn]; exact hlt
    have h5 : (xs.flatMap enc)[i]? = some ((xs.flatMap enc)[i]'hl) := List.getElem?_eq_getElem hl
    obtain ⟨x, hx, hv⟩ := List.mem_flatMap.1 (List.getElem_mem hl)
    obtain ⟨y, hy⟩ := hi x _ hv
    refine ⟨y, ?_⟩
    rw [hy, ← h4, List.getElem?_take_of_lt (by rw [← hn]; exact hlt)] at h5
    rw [← h5, Array.getElem?_toList]
def JunkC (w : World) (base E : Nat) (q : IntKind) (k : Nat) (oa : Option Addr) (len : Nat) : Prop := len ≤ 9223372036854775807 ∧ JunkD w base E q k oa len
theorem JunkC.below {w W : World} {base E k len : Nat} {q : IntKind} {oa : Option Addr} (h : JunkC w base E q k oa len) (hb : Below w.heap.size w W) : JunkC W base E q k oa len := ⟨h.1, h.2.below hb⟩
theorem JunkC.set {w : World} {base E k len : Nat} {q q' : IntKind} {oa : Option Addr} (h : JunkC w base E q k oa len) {g' E' : Nat} {cur' : Array Value} (ho : obj w g' = some (.cells cur' E' (0, 0))) (hq : E' = E → q' = q) (j : Nat) (y : Int) :
    JunkC (w.setCell ⟨g', j, none⟩ (.int q' y)) base E q k oa len := ⟨h.1, h.2.set ho hq j y⟩
theorem JunkC.mono {w : World} {base base' E k len : Nat} {q : IntKind} {oa : Option Addr} (h : JunkC w base' E q k oa len) (hb : base ≤ base') : JunkC w base E q k oa len := ⟨h.1, h.2.mono hb⟩
theorem junk_of {α : Type} {w : World} {base E k : Nat} {q : IntKind} {enc : α → List Value} {oa : Option Addr} {n cap : Nat} {xs : List α} (hk : ∀ x, (enc x).length = k) (hi : ∀ x, ∀ v ∈ enc x, ∃ y : Int, v = .int q y) (h : OwnC w base E k enc (.slice oa n cap) xs) : JunkC w base E q k oa n := by
  refine ⟨?_, junkD_of hk hi h⟩
  obtain ⟨oa', cap', e, h1, h2, _⟩ := h.slIn hk
  injection e with _ e2 _
  unfold maxLen at h2
  omega
theorem intL_int (x : Int) : ∀ v ∈ intL x, ∃ y : Int, v = .int .i64 y := by
  intro v hv
  simp [intL] at hv
  exact ⟨x, hv⟩
theorem idL_int (x : ID) : ∀ v ∈ idL x, ∃ y : Int, v = .int .u8 y := by
  intro v hv
  unfold idL at hv
  obtain ⟨b, _, rfl⟩ := List.mem_map.1 hv
  exact ⟨_, rfl⟩
structure JunkF (w : World) (base : Nat) (d : FrD) : Prop where
  op : JunkC w base 3 .i64 1 d.oa d.on
  tips : JunkC w base 32 .u8 32 d.ta d.tn
  said : ∃ rows : List SdD, rows.length = d.sn ∧ OwnC w base 42 2 sdL (.slice d.sa d.sn d.sc) rows ∧ ∀ r ∈ rows, JunkC w base 32 .u8 32 r.oa r.n
theorem JunkF.of_own {w : World} {base : Nat} {d : FrD} {m : FrM} (h : FrOwn w base d m) : JunkF w base d := by
  obtain ⟨rows, h1, h2⟩ := h.said
  refine ⟨junk_of intL_length intL_int h.op, junk_of idL_length idL_int h.tips, rows, ((h1.slIn sdL_length).n).symm, h1, fun r hr => ?_⟩
  obtain ⟨i, hi, rfl⟩ := List.getElem_of_mem hr
  have hs : i < m.said.length := by rw [← h2.1]; exact hi
  exact junk_of idL_length idL_int (h2.2 i rows[i] m.said[i] (List.getElem?_eq_getElem hi) (List.getElem?_eq_getElem hs)).2
theorem JunkF.below {w W : World} {base : Nat} {d : FrD} (h : JunkF w base d) (hb : Below w.heap.size w W) : JunkF W base d := by
  obtain ⟨rows, h1, h2, h3⟩ := h.said
  exact ⟨h.op.below hb, h.tips.below hb, rows, h1, h2.below hb, fun r hr => (h3 r hr).below hb⟩
theorem JunkF.mono {w : World} {base base' : Nat} {d : FrD} (h : JunkF w base' d) (hb : base ≤ base') : JunkF w base d := by
  obtain ⟨rows, h1, h2, h3⟩ := h.said
  exact ⟨h.op.mono hb, h.tips.mono hb, rows, h1, h2.mono hb, fun r hr => (h3 r hr).mono hb⟩
theorem JunkF.setI {w : World} {base : Nat} {d : FrD} (h : JunkF w base d) {g' : Nat} {cur' : Array Value} (ho : obj w g' = some (.cells cur' 3 (0, 0))) (j : Nat) (y : Int) : JunkF (w.setCell ⟨g', j, none⟩ (.int .i64 y)) base d := by
  obtain ⟨rows, h1, h2, h3⟩ := h.said
  exact ⟨h.op.set ho (fun _ => rfl) j y, h.tips.set ho (fun e => by cases e) j y, rows, h1, h2.setBox ho (by decide) j _, fun r hr => (h3 r hr).set ho (fun e => by cases e) j y⟩
theorem JunkF.setB {w : World} {base : Nat} {d : FrD} (h : JunkF w base d) {g' : Nat} {cur' : Array Value} (ho : obj w g' = some (.cells cur' 32 (0, 0))) (j : Nat) (y : Int) : JunkF (w.setCell ⟨g', j, none⟩ (.int .u8 y)) base d := by
  obtain ⟨rows, h1, h2, h3⟩ := h.said
  exact ⟨h.op.set ho (fun e => by cases e) j y, h.tips.set ho (fun _ => rfl) j y, rows, h1, h2.setBox ho (by decide) j _, fun r hr => (h3 r hr).set ho (fun _ => rfl) j y⟩
/-- all that the three loops keep -/
structure JunkAll (w0 w : World) (bz : Nat) (ds : List FrD) : Prop where
  row : obj w bz = some (.cells (ds.flatMap frL).toArray 27 (0, 0))
  all : ∀ d ∈ ds, JunkF w w0.heap.size d
  hb : Below w0.heap.size w0 w
theorem JunkAll.below {w0 w W : World} {bz : Nat} {ds : List FrD} (h : JunkAll w0 w bz ds) (hb : Below w.heap.size w W) : JunkAll w0 W bz ds :=
  ⟨(obj_below hb (lt_of_obj h.row)).trans h.row, fun d hd => (h.all d hd).below hb, h.hb.trans (hb.mono h.hb.size)⟩
theorem JunkAll.drew {w0 w : World} {bz : Nat} {ds : List FrD} (h : JunkAll w0 w bz ds) : JunkAll w0 w.drew bz ds := h.below (Below.refl _ _).drew
theorem JunkAll.setI {w0 w : World} {bz : Nat} {ds : List FrD} (h : JunkAll w0 w bz ds) {g' : Nat} {cur' : Array Value} (hg : w0.heap.size ≤ g') (ho : obj w g' = some (.cells cur' 3 (0, 0))) (j : Nat) (y : Int) : JunkAll w0 (w.setCell ⟨g', j, none⟩ (.int .i64 y)) bz ds :=
  ⟨(obj_setCell_ne _ ⟨g', j, none⟩ _ _ (by rintro rfl; have := h.row; rw [ho] at this; injection this with this; injection this with h1 h2; cases h2)).trans h.row, fun d hd => (h.all d hd).setI ho j y, h.hb.setCell hg _⟩
theorem JunkAll.setB {w0 w : World} {bz : Nat} {ds : List FrD} (h : JunkAll w0 w bz ds) {g' : Nat} {cur' : Array Value} (hg : w0.heap.size ≤ g') (ho : obj w g' = some (.cells cur' 32 (0, 0))) (j : Nat) (y : Int) : JunkAll w0 (w.setCell ⟨g', j, none⟩ (.int .u8 y)) bz ds :=
  ⟨(obj_setCell_ne _ ⟨g', j, none⟩ _ _ (by rintro rfl; have := h.row; rw [ho] at this; injection this with this; injection this with h1 h2; cases h2)).trans h.row, fun d hd => (h.all d hd).setB ho j y, h.hb.setCell hg _⟩
/-- a box of another type stands -/
theorem box_set {w : World} {b g E T : Nat} {cs cur : Array Value} (h : obj w b = some (.cells cs T (0, 0))) (ho : obj w g = some (.cells cur E (0, 0))) (hne : T ≠ E) (j : Nat) (v : Value) : obj (w.setCell ⟨g, j, none⟩ v) b = some (.cells cs T (0, 0)) :=
  (obj_setCell_ne _ ⟨g, j, none⟩ _ _ (by rintro rfl; rw [ho] at h; injection h with h; injection h with h1 h2; exact hne h2.symm)).trans h
theorem row3 {W : World} {bz : Nat} {d1 d2 d3 : FrD} (h : obj W bz = some (.cells (frL d1 ++ (frL d2 ++ frL d3)).toArray 27 (0, 0))) : obj W bz = some (.cells ([d1, d2, d3].flatMap frL).toArray 27 (0, 0)) := by
  rw [h]; simp [List.flatMap_cons]
theorem junk3 {w0 w13 wz : World} {bz : Nat} {d1 d2 d3 : FrD} {m1 m2 m3 : FrM} (hr : obj wz bz = some (.cells (frL d1 ++ (frL d2 ++ frL d3)).toArray 27 (0, 0))) (h1 : FrOwn w13 w0.heap.size d1 m1) (h2 : FrOwn w13 w0.heap.size d2 m2) (h3 : FrOwn w13 w0.heap.size d3 m3) (b : Below w0.heap.size w0 w13) (bz0 : Below w13.heap.size w13 wz) :
    JunkAll w0 wz bz [d1, d2, d3] :=
  ⟨row3 hr, fun d hd => by
    rcases List.mem_cons.1 hd with rfl | hd
    · exact JunkF.of_own (h1.below bz0)
    rcases List.mem_cons.1 hd with rfl | hd
    · exact JunkF.of_own (h2.below bz0)
    rcases List.mem_cons.1 hd with rfl | hd
    · exact JunkF.of_own (h3.below bz0)
    · simp at hd, b.trans (bz0.mono b.size)⟩
theorem frs_one {W : World} {b : Nat} {d : FrD} (h : obj W b = some (.cells (frL d).toArray 27 (0, 0))) : SlIn W (.slice (some ⟨b, 0, none⟩) 1 1) 4 frL [d] :=
  SlIn.of_cells (E := 27) (fr := (0, 0)) frL_length [d] (by simpa using h) (by simp [maxLen])
theorem frsAt_one {W : World} {d : FrD} {a : FrM} (h1 : FrAt W d a) : FrsAt W [d] [a] :=
  ⟨rfl, fun i d m g1 g2 => by
    match i with
    | 0 => simp at g1 g2; subst g1 g2; exact h1
    | i + 1 => simp at g1⟩
end Go.Proofs.YtmgpfmgmpmkkaaaGreat
