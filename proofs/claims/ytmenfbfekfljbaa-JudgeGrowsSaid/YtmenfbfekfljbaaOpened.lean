import Derived.Test.YtmenfbfekfljbaaBack
import Derived.Test.YtmenfbfekfljbaaSamp
import Derived.RangeFuncBox
namespace Go.Proofs.Ytmenfbfekfljbaa
open Go.RowKit Go.Shelf
attribute [local go_sem] Oper.semAt_some

theorem backL_snoc (xs : List FactD) (x : FactD) : backL (xs ++ [x]) = (xs.length, x) :: backL xs := by
  apply List.ext_getElem
  · simp [backL_len]
  · intro k h1 h2
    have hk : k < xs.length + 1 := by simpa [backL_len] using h1
    rw [backL_get _ k h1 (by simp; omega)]
    cases k with
    | zero => simp
    | succ k =>
      simp only [List.getElem_cons_succ]
      rw [backL_get xs k (by rw [backL_len]; omega) (by omega)]
      have e : (xs ++ [x]).length - 1 - (k + 1) = xs.length - 1 - k := by simp; omega
      simp only [e]
      rw [List.getElem_append_left (by omega)]
/-- a poll is opened by this -/
def opn (nd pl : Int) (x : FactD) : Bool := x.kind == 5 && x.node == nd && x.poll == pl
def fdOp (nd pl : Int) (ps : List (Nat × FactD)) : Option Int := (ps.find? fun p => opn nd pl p.2).map (·.2.move)
def noOp (nd pl : Int) (ps : List (Nat × FactD)) : Prop := ∀ p ∈ ps, opn nd pl p.2 = false
theorem noOp.snoc {nd pl : Int} {ps : List (Nat × FactD)} (h : noOp nd pl ps) {i : Nat} {x : FactD} (hx : opn nd pl x = false) : noOp nd pl (ps ++ [(i, x)]) := by
  intro p hp
  rcases List.mem_append.1 hp with h1 | h1
  · exact h p h1
  · simp at h1
    rw [h1]
    exact hx
theorem noOp.find {nd pl : Int} {ps : List (Nat × FactD)} (h : noOp nd pl ps) {i : Nat} {x : FactD} (hx : opn nd pl x = true) : fdOp nd pl (ps ++ [(i, x)]) = some x.move := by
  unfold fdOp
  rw [List.find?_append, List.find?_eq_none.2 (fun p hp => by simp [h p hp])]
  simp [hx]
theorem noOp.none {nd pl : Int} {ps : List (Nat × FactD)} (h : noOp nd pl ps) : fdOp nd pl ps = none := by
  unfold fdOp
  rw [List.find?_eq_none.2 (fun p hp => by simp [h p hp])]
  rfl
theorem fdOp_prefix {nd pl m : Int} {ps qs : List (Nat × FactD)} (h : fdOp nd pl ps = some m) (hp : ps <+: qs) : fdOp nd pl qs = some m := by
  obtain ⟨r, rfl⟩ := hp
  unfold fdOp at h ⊢
  rw [List.find?_append]
  cases hf : ps.find? (fun p => opn nd pl p.2) with
  | none => rw [hf] at h; cases h
  | some q => rw [hf] at h; simpa using h
def openedM (nd pl : Int) (xs : List FactD) : Option Int := fdOp nd pl (backL xs)
theorem openedM_nil (nd pl : Int) : openedM nd pl [] = none := rfl
theorem openedM_snoc (nd pl : Int) (xs : List FactD) (x : FactD) : openedM nd pl (xs ++ [x]) = if opn nd pl x = true then some x.move else openedM nd pl xs := by
  unfold openedM fdOp
  rw [backL_snoc, List.find?_cons]
  by_cases h : opn nd pl x = true
  · simp [h]
  · simp [h]
theorem results_cells2 {fn : Func} {P : Program} {w : World} {p q : Tmp} {t1 t2 : TypeId} {a1 a2 : Addr} {v1 v2 : Value} (h : fn.results = #[.cell p t1, .cell q t2]) (tmps : Array Value) (hp : tmps.getD p undef = .pointer (some a1)) (hq : tmps.getD q undef = .pointer (some a2)) (hl1 : (loadVar t1 a1).run P w = .ok v1 w) (hl2 : (loadVar t2 a2).run P w = .ok v2 w) : (results fn tmps).run P w = .ok (.tuple #[v1, v2]) w := by
  have hp' : tmps[p]?.getD undef = .pointer (some a1) := by simpa using hp
  have hq' : tmps[q]?.getD undef = .pointer (some a2) := by simpa using hq
  simp [results, h, hp', hq', asAddr, hl1, hl2]
/-- two results laid in their cells -/
theorem two_cells {W : World} {b2 b3 : Nat} {u2 u3 v2 v3 : Value} {t2 t3 : TypeId} (h2 : obj W b2 = some (.cells #[u2] t2 (0, 0))) (h3 : obj W b3 = some (.cells #[u3] t3 (0, 0))) (hne : b2 ≠ b3) :
    obj ((W.setCell ⟨b2, 0, none⟩ v2).setCell ⟨b3, 0, none⟩ v3) b2 = some (.cells #[v2] t2 (0, 0)) ∧ obj ((W.setCell ⟨b2, 0, none⟩ v2).setCell ⟨b3, 0, none⟩ v3) b3 = some (.cells #[v3] t3 (0, 0)) :=
  ⟨(obj_setCell_ne _ ⟨b3, 0, none⟩ _ _ hne).trans (obj_setCell_at _ h2), obj_setCell_at _ ((obj_setCell_ne _ ⟨b2, 0, none⟩ _ _ (Ne.symm hne)).trans h3)⟩
def RetOpened (w : World) (o : Option Int) (e : Ending) (w' : World) : Prop := e = .returned (.tuple #[.int .i64 (o.getD 0), .bool o.isSome]) ∧ Below w.heap.size w w'
def opFrame (v sq : Value) (nd pl : Int) (b : Nat) (p : Nat × FactD) (c : Nat) : Act :=
  { tmps := #[v, .int .i64 nd, .int .i64 pl, undef, .pointer (some ⟨b, 0, none⟩), .pointer (some ⟨b + 1, 0, none⟩), .pointer (some ⟨b + 1 + 1, 0, none⟩), .pointer (some ⟨b + 1 + 1 + 1, 0, none⟩), undef, .pointer (some ⟨c, 0, none⟩), v, sq, .int .i64 (p.1 : Int), .agg (factL p.2).toArray, undef, undef, undef, undef, undef, undef, undef, undef, undef, undef, undef, undef, undef, undef, undef, undef, undef], defers := [] }
set_option maxRecDepth 100000 in
set_option maxHeartbeats 2000000 in
/-- judge.opened -/
theorem opened_any (w : World) (v : Value) (xs : List FactD) (nd pl : Int) (h : SlIn w v 72 factL xs) :
    Calls Try.prog 53 #[v, .int .i64 nd, .int .i64 pl] w (RetOpened w (openedM nd pl xs)) := by
  refine (callsIn_wide (n := 6)).1 ?_
  refine callsIn_of_wp_marks Try.func53 rfl trivial ?_ rfl
  simp only [Try.ntmps53, List.size_toArray, List.length_cons, List.length_nil, Nat.reduceAdd, Nat.reduceSub, Array.replicate_succ, Array.replicate_zero, List.push_toArray, List.append_toArray, List.nil_append, List.cons_append]
  have HS := Lib.hid h
  have HMK := fun W oa len cap => Lib.hid (mkBack W oa len cap)
  obtain ⟨oa, cap, rfl, _, _, _⟩ := h
  gi_wp2
  refine ⟨trivial, (callsIn_wide.2 (HMK _ _ _ _).out).mono ?_⟩
  rintro e w' ⟨rfl, rfl⟩
  gi_wp2
  have b1 : Below w.heap.size w (((((w.alloc (.cells #[.int .i64 nd] 3)).alloc (.cells #[.int .i64 pl] 2)).alloc (.cells #[.int .i64 0] 3)).alloc (.cells #[.bool false] 4)).alloc (.cells #[.slice oa xs.length cap] 22)) := (((((Below.refl _ w).alloc (Nat.le_refl _) _).alloc (by simp) _).alloc (by simp; omega) _).alloc (by simp; omega) _).alloc (by simp; omega) _
  have o0 : obj (((((w.alloc (.cells #[.int .i64 nd] 3)).alloc (.cells #[.int .i64 pl] 2)).alloc (.cells #[.int .i64 0] 3)).alloc (.cells #[.bool false] 4)).alloc (.cells #[.slice oa xs.length cap] 22)) w.heap.size = some (.cells #[.int .i64 nd] 3 (0, 0)) := (obj_alloc_past _ _ _ (by simp; omega)).trans ((obj_alloc_past _ _ _ (by simp; omega)).trans ((obj_alloc_past _ _ _ (by simp; omega)).trans ((obj_alloc_past _ _ _ (by simp)).trans (obj_alloc_at _ _ _ rfl))))
  have o1 : obj (((((w.alloc (.cells #[.int .i64 nd] 3)).alloc (.cells #[.int .i64 pl] 2)).alloc (.cells #[.int .i64 0] 3)).alloc (.cells #[.bool false] 4)).alloc (.cells #[.slice oa xs.length cap] 22)) (w.heap.size + 1) = some (.cells #[.int .i64 pl] 2 (0, 0)) := (obj_alloc_past _ _ _ (by simp)).trans ((obj_alloc_past _ _ _ (by simp)).trans ((obj_alloc_past _ _ _ (by simp)).trans (obj_alloc_at _ _ _ (by simp))))
  have o2 : obj (((((w.alloc (.cells #[.int .i64 nd] 3)).alloc (.cells #[.int .i64 pl] 2)).alloc (.cells #[.int .i64 0] 3)).alloc (.cells #[.bool false] 4)).alloc (.cells #[.slice oa xs.length cap] 22)) (w.heap.size + 1 + 1) = some (.cells #[.int .i64 0] 3 (0, 0)) := (obj_alloc_past _ _ _ (by simp)).trans ((obj_alloc_past _ _ _ (by simp)).trans (obj_alloc_at _ _ _ (by simp)))
  have o3 : obj (((((w.alloc (.cells #[.int .i64 nd] 3)).alloc (.cells #[.int .i64 pl] 2)).alloc (.cells #[.int .i64 0] 3)).alloc (.cells #[.bool false] 4)).alloc (.cells #[.slice oa xs.length cap] 22)) (w.heap.size + 1 + 1 + 1) = some (.cells #[.bool false] 4 (0, 0)) := (obj_alloc_past _ _ _ (by simp)).trans (obj_alloc_at _ _ _ (by simp))
  have o4 : obj (((((w.alloc (.cells #[.int .i64 nd] 3)).alloc (.cells #[.int .i64 pl] 2)).alloc (.cells #[.int .i64 0] 3)).alloc (.cells #[.bool false] 4)).alloc (.cells #[.slice oa xs.length cap] 22)) (w.heap.size + 1 + 1 + 1 + 1) = some (.cells #[.slice oa xs.length cap] 22 (0, 0)) := obj_alloc_at _ _ _ (by simp)
  have hsz : (((((w.alloc (.cells #[.int .i64 nd] 3)).alloc (.cells #[.int .i64 pl] 2)).alloc (.cells #[.int .i64 0] 3)).alloc (.cells #[.bool false] 4)).alloc (.cells #[.slice oa xs.length cap] 22)).heap.size = w.heap.size + 5 := by simp
  generalize ((((w.alloc (.cells #[.int .i64 nd] 3)).alloc (.cells #[.int .i64 pl] 2)).alloc (.cells #[.int .i64 0] 3)).alloc (.cells #[.bool false] 4)).alloc (.cells #[.slice oa xs.length cap] 22) = w2 at *
  have hV2 : ValZ 22 72 factL (fun k => k < w.heap.size ∨ k = w.heap.size + 1 + 1 + 1 + 1) w2 (w.heap.size + 1 + 1 + 1 + 1) (.slice oa xs.length cap) xs := by
    refine ⟨o4, HS.out.below b1, .inr rfl, fun a l c hl e => .inl ?_⟩
    obtain ⟨_, _, e1, _, _, h3⟩ := HS.out
    simp only [Value.slice.injEq] at e1
    obtain ⟨rfl, _, rfl⟩ := e1
    obtain ⟨bb, off, e2, hbb, _⟩ := h3 hl
    simp only [Value.slice.injEq] at e
    rw [e2] at e
    obtain ⟨e3, _⟩ := e
    cases e3
    exact hbb
  have hD2 : ∀ k, (k < w.heap.size ∨ k = w.heap.size + 1 + 1 + 1 + 1) → k < w2.heap.size := fun k hk => by omega
  refine wpIn_range_own rfl (by decide) (gf := 66) (lb := #[.pointer (some ⟨w.heap.size + 1 + 1 + 1 + 1, 0, none⟩)]) rfl trivial eg66 hD2 (back_seq 5 (by omega) hD2 hV2) (Agree.refl _ _) (fun _ => rfl)
    (fun pre G W => G = (fun k => k = w.heap.size + 1 + 1 ∨ k = w.heap.size + 1 + 1 + 1) ∧ obj W w.heap.size = some (.cells #[.int .i64 nd] 3 (0, 0)) ∧ obj W (w.heap.size + 1) = some (.cells #[.int .i64 pl] 2 (0, 0)) ∧ obj W (w.heap.size + 1 + 1) = some (.cells #[.int .i64 0] 3 (0, 0)) ∧ obj W (w.heap.size + 1 + 1 + 1) = some (.cells #[.bool false] 4 (0, 0)) ∧ noOp nd pl pre)
    (fun c pre G W => c = .ret ∧ G = (fun k => k = w.heap.size + 1 + 1 ∨ k = w.heap.size + 1 + 1 + 1) ∧ ∃ m, obj W (w.heap.size + 1 + 1) = some (.cells #[.int .i64 m] 3 (0, 0)) ∧ obj W (w.heap.size + 1 + 1 + 1) = some (.cells #[.bool true] 4 (0, 0)) ∧ fdOp nd pl pre = some m)
    ?hIo ?hI ?hIx (fun k => k = w.heap.size + 1 + 1 ∨ k = w.heap.size + 1 + 1 + 1) ⟨rfl, o0, o1, o2, o3, fun p hp => by cases hp⟩
    (fun x a' W => ∃ c, obj W c = some (.cells (factL x.2).toArray 54 (0, 0)) ∧ a' = opFrame (.slice oa xs.length cap) (.func (.func 66) #[] #[.pointer (some ⟨w.heap.size + 1 + 1 + 1 + 1, 0, none⟩)]) nd pl w.heap.size x c)
    ?hAx ?assign ?body ?done ?stop
  case hIo =>
    rintro pre G W ⟨rfl, _, _, h2, h3, _⟩ k hk
    have := lt_of_obj h3
    exact ⟨by omega, by omega⟩
  case hI =>
    rintro pre G W W' ⟨rfl, h0, h1, h2, h3, h4⟩ hk
    exact ⟨rfl, (hk.block _ (lt_of_obj h0) (fun hh => by omega)).trans h0, (hk.block _ (lt_of_obj h1) (fun hh => by omega)).trans h1, (hk.block _ (lt_of_obj h2) (fun hh => by omega)).trans h2, (hk.block _ (lt_of_obj h3) (fun hh => by omega)).trans h3, h4⟩
  case hIx =>
    rintro c pre G W W' ⟨rfl, rfl, m, h2, h3, h4⟩ hk
    exact ⟨rfl, rfl, m, (hk.block _ (lt_of_obj h2) (fun hh => by omega)).trans h2, (hk.block _ (lt_of_obj h3) (fun hh => by omega)).trans h3, h4⟩
  case hAx =>
    rintro x a' W r o o' ⟨c, h1, h2⟩ ho hc
    exact ⟨c, ax_put h1 ho hc, h2⟩
  case assign =>
    rintro l pre G ⟨i, x⟩ W K _ hK
    have HK := Lib.hid hK
    clear hK
    simp only [bkV]
    gi_wp2
    exact HK.out _ _ ((Below.refl _ W).alloc (Nat.le_refl _) _) ⟨W.heap.size, obj_alloc_at _ _ _ rfl, rfl⟩
  case body =>
    rintro l pre G ⟨i, x⟩ a' W hl hlw hnl ⟨rfl, h0, h1, h2, h3, h4⟩ ⟨c, hc, rfl⟩ hpre
    have hcz := lt_of_obj hc
    have z0 := lt_of_obj h0
    have z1 := lt_of_obj h1
    have z2 := lt_of_obj h2
    have z3 := lt_of_obj h3
    have c0 : W.cell? ⟨w.heap.size, 0, none⟩ = some (.int .i64 nd) := cell_at h0 0
    have c1 : W.cell? ⟨w.heap.size + 1, 0, none⟩ = some (.int .i64 pl) := cell_at h1 0
    have f2 := frozen_at h2 0
    have f3 := frozen_at h3 0
    have d2 : W.cell? ⟨w.heap.size + 1 + 1, 0, none⟩ = some (.int .i64 0) := cell_at h2 0
    have d3 : W.cell? ⟨w.heap.size + 1 + 1 + 1, 0, none⟩ = some (.bool false) := cell_at h3 0
    obtain ⟨⟨g0, g1, g2, _⟩, _, ⟨_, g69, _, _⟩⟩ := fact_parts (x := x) (W := W) (b := c) (o := 0) (by rw [hc, subOf_cells (by simp), subA_all (by simp)])
    rw [Nat.zero_add] at g1 g2 g69
    have HI := Lib.hid (And.intro h0 (And.intro h1 (And.intro h2 (And.intro h3 h4))))
    have HO : Hid (opn nd pl x = (x.kind == 5 && x.node == nd && x.poll == pl)) := Lib.hid rfl
    clear h0 h1 h2 h3 h4
    simp only [opFrame]
    cases e5 : x.kind == 5
    · have HN : Hid (opn nd pl x = false) := Lib.hid (by rw [HO.out, e5]; rfl)
      gi_wp2
      obtain ⟨k0, k1, k2, k3, k4⟩ := HI.out
      exact ⟨_, ⟨rfl, k0, k1, k2, k3, k4.snoc HN.out⟩, Keeps.refl _ _, GrowsG.refl _ _⟩
    · cases en : x.node == nd
      · have HN : Hid (opn nd pl x = false) := Lib.hid (by rw [HO.out, e5, en]; rfl)
        gi_wp2
        obtain ⟨k0, k1, k2, k3, k4⟩ := HI.out
        exact ⟨_, ⟨rfl, k0, k1, k2, k3, k4.snoc HN.out⟩, Keeps.refl _ _, GrowsG.refl _ _⟩
      · cases ep : x.poll == pl
        · have HN : Hid (opn nd pl x = false) := Lib.hid (by rw [HO.out, e5, en, ep]; rfl)
          gi_wp2
          obtain ⟨k0, k1, k2, k3, k4⟩ := HI.out
          exact ⟨_, ⟨rfl, k0, k1, k2, k3, k4.snoc HN.out⟩, Keeps.refl _ _, GrowsG.refl _ _⟩
        · have HN : Hid (opn nd pl x = true) := Lib.hid (by rw [HO.out, e5, en, ep]; rfl)
          gi_wp2
          obtain ⟨k0, k1, k2, k3, k4⟩ := HI.out
          obtain ⟨t2, t3⟩ := two_cells (v2 := .int .i64 x.move) (v3 := .bool true) k2 k3 (by omega)
          exact ⟨_, ⟨rfl, rfl, x.move, t2, t3, k4.find HN.out⟩, ((Keeps.refl _ W).setCell (a := ⟨w.heap.size + 1 + 1, 0, none⟩) (.inl (.inl rfl)) _).setCell (a := ⟨w.heap.size + 1 + 1 + 1, 0, none⟩) (.inl (.inr rfl)) _, GrowsG.refl _ _⟩
  case done =>
    rintro d G W hD' hnd ⟨rfl, h0, h1, h2, h3, h4⟩ hk hg hKD
    have z2 := lt_of_obj h2
    have z3 := lt_of_obj h3
    have f2 := frozen_at h2 0
    have f3 := frozen_at h3 0
    have d2 : W.cell? ⟨w.heap.size + 1 + 1, 0, none⟩ = some (.int .i64 0) := cell_at h2 0
    have d3 : W.cell? ⟨w.heap.size + 1 + 1 + 1, 0, none⟩ = some (.bool false) := cell_at h3 0
    have HF := Lib.hid (And.intro h2 (And.intro h3 h4))
    have HK := Lib.hid hk
    clear h0 h1 h2 h3 h4 hk
    gi_wp2
    obtain ⟨k2, k3, k4⟩ := HF.out
    obtain ⟨E2, E3⟩ := two_cells (v2 := .int .i64 0) (v3 := .bool false) k2 k3 (by omega)
    have KD : ((W.setCell ⟨w.heap.size + 1 + 1, 0, none⟩ (.int .i64 0)).setCell ⟨w.heap.size + 1 + 1 + 1, 0, none⟩ (.bool false)).heap[d]? = some (.deferred (some [])) := ((obj_setCell_ne _ ⟨w.heap.size + 1 + 1 + 1, 0, none⟩ _ _ (fun e => hnd (.inr e))).trans (obj_setCell_ne _ ⟨w.heap.size + 1 + 1, 0, none⟩ _ _ (fun e => hnd (.inl e)))).trans hKD
    have HB3 := Lib.hid ((((b1.trans (HK.out.below (B := w.heap.size) (fun k hk => by omega) (by omega)))).setCell (p := ⟨w.heap.size + 1 + 1, 0, none⟩) (show w.heap.size ≤ w.heap.size + 1 + 1 by omega) (.int .i64 0)).setCell (p := ⟨w.heap.size + 1 + 1 + 1, 0, none⟩) (show w.heap.size ≤ w.heap.size + 1 + 1 + 1 by omega) (.bool false))
    generalize (W.setCell ⟨w.heap.size + 1 + 1, 0, none⟩ (.int .i64 0)).setCell ⟨w.heap.size + 1 + 1 + 1, 0, none⟩ (.bool false) = W3 at *
    have HM : Hid (openedM nd pl xs = none) := Lib.hid k4.none
    have hnd2 : d ≠ w.heap.size + 1 + 1 := fun e => hnd (.inl e)
    have hnd3 : d ≠ w.heap.size + 1 + 1 + 1 := fun e => hnd (.inr e)
    clear d2 d3 f2 f3
    refine ⟨by simp, .inl ⟨_, _, rfl, run_takeDeferred KD, ?_⟩⟩
    have r2 : obj (W3.putObj d (.deferred none)) (w.heap.size + 1 + 1) = some (.cells #[.int .i64 0] 3 (0, 0)) := (World.putObj_heap_other (by omega)).trans E2
    have r3 : obj (W3.putObj d (.deferred none)) (w.heap.size + 1 + 1 + 1) = some (.cells #[.bool false] 4 (0, 0)) := (World.putObj_heap_other (by omega)).trans E3
    have q2 := cell_at r2 0
    have q3 := cell_at r3 0
    have y2 := lt_of_obj r2
    have y3 := lt_of_obj r3
    simp at q2 q3
    have hgr := grownBy_putObj' W3 d (.deferred none)
    have hrr : ∀ r, some d = some r → w.heap.size ≤ r ∧ ∃ o : Obj, W3.heap[r]? = some o ∧ o.isCells = false := fun r e => by cases e; exact ⟨by omega, _, KD, rfl⟩
    refine ⟨_, results_cells2 Try.results53 _ rfl rfl (v1 := .int .i64 0) (v2 := .bool false) (by go_simp) (by go_simp), ?_, below_grown HB3.out (Nat.le_refl _) (Nat.le_refl _) hgr hrr⟩
    rw [HM.out]
    rfl
  case stop =>
    rintro d c pre G W hD' hnd hpre ⟨rfl, rfl, m, h2, h3, h4⟩ hk hg hKD
    have HF := Lib.hid (And.intro h2 (And.intro h3 h4))
    have HK := Lib.hid hk
    clear h2 h3 h4 hk
    gi_wp2
    obtain ⟨E2, E3, k4⟩ := HF.out
    have KD := hKD
    have HB3 := Lib.hid (b1.trans (HK.out.below (B := w.heap.size) (fun k hk => by omega) (by omega)))
    have HM : Hid (openedM nd pl xs = some m) := Lib.hid (fdOp_prefix k4 hpre)
    have hnd2 : d ≠ w.heap.size + 1 + 1 := fun e => hnd (.inl e)
    have hnd3 : d ≠ w.heap.size + 1 + 1 + 1 := fun e => hnd (.inr e)
    refine ⟨by simp, .inl ⟨_, _, rfl, run_takeDeferred KD, ?_⟩⟩
    have r2 : obj (W.putObj d (.deferred none)) (w.heap.size + 1 + 1) = some (.cells #[.int .i64 m] 3 (0, 0)) := (World.putObj_heap_other (by omega)).trans E2
    have r3 : obj (W.putObj d (.deferred none)) (w.heap.size + 1 + 1 + 1) = some (.cells #[.bool true] 4 (0, 0)) := (World.putObj_heap_other (by omega)).trans E3
    have q2 := cell_at r2 0
    have q3 := cell_at r3 0
    have y2 := lt_of_obj r2
    have y3 := lt_of_obj r3
    simp at q2 q3
    have hgr := grownBy_putObj' W d (.deferred none)
    have hrr : ∀ r, some d = some r → w.heap.size ≤ r ∧ ∃ o : Obj, W.heap[r]? = some o ∧ o.isCells = false := fun r e => by cases e; exact ⟨by omega, _, KD, rfl⟩
    refine ⟨_, results_cells2 Try.results53 _ rfl rfl (v1 := .int .i64 m) (v2 := .bool true) (by go_simp) (by go_simp), ?_, below_grown HB3.out (Nat.le_refl _) (Nat.le_refl _) hgr hrr⟩
    rw [HM.out]
    rfl
end Go.Proofs.Ytmenfbfekfljbaa
