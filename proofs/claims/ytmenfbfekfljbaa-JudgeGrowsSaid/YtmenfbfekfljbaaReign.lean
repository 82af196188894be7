import Derived.Test.YtmenfbfekfljbaaOpened
import Derived.Test.YtmenfbfekfljbaaRnd
namespace Go.Proofs.Ytmenfbfekfljbaa
open Go.RowKit Go.Shelf
attribute [local go_sem] Oper.semAt_some

theorem SlIn.drop {α : Type} {w : World} {k : Nat} {enc : α → List Value} {xs : List α} {b off len cap : Nat} (h : SlIn w (.slice (some ⟨b, off, none⟩) len cap) k enc xs) {i : Nat} (hi : i ≤ xs.length) : SlIn w (.slice (some ⟨b, off + i * k, none⟩) (xs.length - i) (cap - i)) k enc (xs.drop i) := by
  obtain ⟨oa', cap', h1, h2, h3, h4⟩ := h
  simp only [Value.slice.injEq] at h1
  obtain ⟨rfl, _, rfl⟩ := h1
  have hl : (xs.drop i).length = xs.length - i := by simp
  refine ⟨_, _, by rw [hl], by rw [hl]; omega, by omega, fun h0 => ?_⟩
  obtain ⟨b', off', e, hb, hr⟩ := h4 (by omega)
  simp only [Option.some.injEq, Addr.mk.injEq, and_true] at e
  obtain ⟨rfl, rfl⟩ := e
  refine ⟨_, _, rfl, hb, fun j hj => ?_⟩
  have := hr (i + j) (by omega)
  rw [Nat.add_mul, ← Nat.add_assoc] at this
  rw [this]
  simp
/-- a node comes up, or is live -/
def upB (nd : Int) (x : FactD) : Bool := x.node == nd && (x.kind == 11 || x.kind == 9)
def fdUp (nd : Int) (ps : List (Nat × FactD)) : Option (Nat × FactD) := ps.find? fun p => upB nd p.2
def noUp (nd : Int) (ps : List (Nat × FactD)) : Prop := ∀ p ∈ ps, upB nd p.2 = false
theorem noUp.snoc {nd : Int} {ps : List (Nat × FactD)} (h : noUp nd ps) {i : Nat} {x : FactD} (hx : upB nd x = false) : noUp nd (ps ++ [(i, x)]) := by
  intro p hp
  rcases List.mem_append.1 hp with h1 | h1
  · exact h p h1
  · simp at h1
    rw [h1]
    exact hx
theorem noUp.find {nd : Int} {ps : List (Nat × FactD)} (h : noUp nd ps) {i : Nat} {x : FactD} (hx : upB nd x = true) : fdUp nd (ps ++ [(i, x)]) = some (i, x) := by
  unfold fdUp
  rw [List.find?_append, List.find?_eq_none.2 (fun p hp => by simp [h p hp])]
  simp [hx]
theorem noUp.none {nd : Int} {ps : List (Nat × FactD)} (h : noUp nd ps) : fdUp nd ps = none := by
  unfold fdUp
  rw [List.find?_eq_none.2 (fun p hp => by simp [h p hp])]
theorem fdUp_prefix {nd : Int} {m : Nat × FactD} {ps qs : List (Nat × FactD)} (h : fdUp nd ps = some m) (hp : ps <+: qs) : fdUp nd qs = some m := by
  obtain ⟨r, rfl⟩ := hp
  unfold fdUp at h ⊢
  rw [List.find?_append, h]
  rfl
/-- a node's facts from its last coming up on -/
def reignL (nd : Int) (xs : List FactD) : List FactD := match fdUp nd (backL xs) with | none => [] | some p => xs.drop p.1
def reignB (nd : Int) (xs : List FactD) : Bool := match fdUp nd (backL xs) with | none => false | some p => p.2.kind == 9
theorem back_at {xs : List FactD} {pre : List (Nat × FactD)} {i : Nat} {x : FactD} (h : pre ++ [(i, x)] <+: backL xs) : i < xs.length := by
  have hl := h.length_le
  rw [backL_len, List.length_append, List.length_singleton] at hl
  have hlt : pre.length < (backL xs).length := by rw [backL_len]; omega
  have hg := h.getElem (i := pre.length) (by simp)
  rw [List.getElem_append_right (Nat.le_refl _), backL_get xs _ hlt (by omega)] at hg
  simp at hg
  omega
def RetReign (w : World) (l : List FactD) (t : Bool) (e : Ending) (w' : World) : Prop := ∃ v, e = .returned (.tuple #[v, .bool t]) ∧ SlIn w' v 72 factL l ∧ Below w.heap.size w w'
def reFrame (v sq : Value) (nd : Int) (b : Nat) (p : Nat × FactD) (c : Nat) : Act :=
  { tmps := #[v, .int .i64 nd, .pointer (some ⟨b, 0, none⟩), .pointer (some ⟨b + 1, 0, none⟩), .pointer (some ⟨b + 1 + 1, 0, none⟩), .pointer (some ⟨b + 1 + 1 + 1, 0, none⟩), .int .i64 (p.1 : Int), .pointer (some ⟨c, 0, none⟩), v, sq, .int .i64 (p.1 : Int), .agg (factL p.2).toArray, undef, undef, undef, undef, undef, undef, undef, undef, undef, undef, undef, undef, undef, undef, undef, undef, undef, undef, undef, undef], defers := [] }
set_option maxRecDepth 100000 in
set_option maxHeartbeats 4000000 in
/-- judge.reign -/
theorem reign_any (w : World) (v : Value) (xs : List FactD) (nd : Int) (h : SlIn w v 72 factL xs) :
    Calls Try.prog 56 #[v, .int .i64 nd] w (RetReign w (reignL nd xs) (reignB nd xs)) := by
  refine (callsIn_wide (n := 6)).1 ?_
  refine callsIn_of_wp_marks Try.func56 rfl trivial ?_ rfl
  simp only [Try.ntmps56, List.size_toArray, List.length_cons, List.length_nil, Nat.reduceAdd, Nat.reduceSub, Array.replicate_succ, Array.replicate_zero, List.push_toArray, List.append_toArray, List.nil_append, List.cons_append]
  have HS := Lib.hid h
  have HMK := fun W oa len cap => Lib.hid (mkBack W oa len cap)
  obtain ⟨oa, cap, rfl, _, _, _⟩ := h
  gi_wp2
  refine ⟨trivial, (callsIn_wide.2 (HMK _ _ _ _).out).mono ?_⟩
  rintro e w' ⟨rfl, rfl⟩
  gi_wp2
  have b1 : Below w.heap.size w (((((w.alloc (.cells #[.slice oa xs.length cap] 22)).alloc (.cells #[.int .i64 nd] 3)).alloc (.cells #[.slice none 0 0] 22)).alloc (.cells #[.bool false] 4)).alloc (.cells #[.slice oa xs.length cap] 22)) := (((((Below.refl _ w).alloc (Nat.le_refl _) _).alloc (by simp) _).alloc (by simp; omega) _).alloc (by simp; omega) _).alloc (by simp; omega) _
  have o0 : obj (((((w.alloc (.cells #[.slice oa xs.length cap] 22)).alloc (.cells #[.int .i64 nd] 3)).alloc (.cells #[.slice none 0 0] 22)).alloc (.cells #[.bool false] 4)).alloc (.cells #[.slice oa xs.length cap] 22)) w.heap.size = some (.cells #[.slice oa xs.length cap] 22 (0, 0)) := (obj_alloc_past _ _ _ (by simp; omega)).trans ((obj_alloc_past _ _ _ (by simp; omega)).trans ((obj_alloc_past _ _ _ (by simp; omega)).trans ((obj_alloc_past _ _ _ (by simp)).trans (obj_alloc_at _ _ _ rfl))))
  have o1 : obj (((((w.alloc (.cells #[.slice oa xs.length cap] 22)).alloc (.cells #[.int .i64 nd] 3)).alloc (.cells #[.slice none 0 0] 22)).alloc (.cells #[.bool false] 4)).alloc (.cells #[.slice oa xs.length cap] 22)) (w.heap.size + 1) = some (.cells #[.int .i64 nd] 3 (0, 0)) := (obj_alloc_past _ _ _ (by simp)).trans ((obj_alloc_past _ _ _ (by simp)).trans ((obj_alloc_past _ _ _ (by simp)).trans (obj_alloc_at _ _ _ (by simp))))
  have o2 : obj (((((w.alloc (.cells #[.slice oa xs.length cap] 22)).alloc (.cells #[.int .i64 nd] 3)).alloc (.cells #[.slice none 0 0] 22)).alloc (.cells #[.bool false] 4)).alloc (.cells #[.slice oa xs.length cap] 22)) (w.heap.size + 1 + 1) = some (.cells #[.slice none 0 0] 22 (0, 0)) := (obj_alloc_past _ _ _ (by simp)).trans ((obj_alloc_past _ _ _ (by simp)).trans (obj_alloc_at _ _ _ (by simp)))
  have o3 : obj (((((w.alloc (.cells #[.slice oa xs.length cap] 22)).alloc (.cells #[.int .i64 nd] 3)).alloc (.cells #[.slice none 0 0] 22)).alloc (.cells #[.bool false] 4)).alloc (.cells #[.slice oa xs.length cap] 22)) (w.heap.size + 1 + 1 + 1) = some (.cells #[.bool false] 4 (0, 0)) := (obj_alloc_past _ _ _ (by simp)).trans (obj_alloc_at _ _ _ (by simp))
  have o4 : obj (((((w.alloc (.cells #[.slice oa xs.length cap] 22)).alloc (.cells #[.int .i64 nd] 3)).alloc (.cells #[.slice none 0 0] 22)).alloc (.cells #[.bool false] 4)).alloc (.cells #[.slice oa xs.length cap] 22)) (w.heap.size + 1 + 1 + 1 + 1) = some (.cells #[.slice oa xs.length cap] 22 (0, 0)) := obj_alloc_at _ _ _ (by simp)
  have hsz : (((((w.alloc (.cells #[.slice oa xs.length cap] 22)).alloc (.cells #[.int .i64 nd] 3)).alloc (.cells #[.slice none 0 0] 22)).alloc (.cells #[.bool false] 4)).alloc (.cells #[.slice oa xs.length cap] 22)).heap.size = w.heap.size + 5 := by simp
  generalize ((((w.alloc (.cells #[.slice oa xs.length cap] 22)).alloc (.cells #[.int .i64 nd] 3)).alloc (.cells #[.slice none 0 0] 22)).alloc (.cells #[.bool false] 4)).alloc (.cells #[.slice oa xs.length cap] 22) = w2 at *
  have hV2 : ValZ 22 72 factL (fun k => k < w.heap.size ∨ k = w.heap.size + 1 + 1 + 1 + 1) w2 (w.heap.size + 1 + 1 + 1 + 1) (.slice oa xs.length cap) xs := by
    refine ⟨o4, HS.out.below b1, .inr rfl, fun a l c hl e => .inl ?_⟩
    obtain ⟨_, _, e1, _, _, h3⟩ := HS.out
    simp only [Value.slice.injEq] at e1
    obtain ⟨rfl, _, rfl⟩ := e1
    obtain ⟨bb, off, e2, hbb, _⟩ := h3 hl
    simp only [Value.slice.injEq] at e
    rw [e2] at e
    obtain ⟨e3, _⟩ := e
    cases e3
    exact hbb
  have hD2 : ∀ k, (k < w.heap.size ∨ k = w.heap.size + 1 + 1 + 1 + 1) → k < w2.heap.size := fun k hk => by omega
  refine wpIn_range_own rfl (by decide) (gf := 66) (lb := #[.pointer (some ⟨w.heap.size + 1 + 1 + 1 + 1, 0, none⟩)]) rfl trivial eg66 hD2 (back_seq 5 (by omega) hD2 hV2) (Agree.refl _ _) (fun _ => rfl)
    (fun pre G W => G = (fun k => k = w.heap.size + 1 + 1 ∨ k = w.heap.size + 1 + 1 + 1) ∧ obj W w.heap.size = some (.cells #[.slice oa xs.length cap] 22 (0, 0)) ∧ obj W (w.heap.size + 1) = some (.cells #[.int .i64 nd] 3 (0, 0)) ∧ obj W (w.heap.size + 1 + 1) = some (.cells #[.slice none 0 0] 22 (0, 0)) ∧ obj W (w.heap.size + 1 + 1 + 1) = some (.cells #[.bool false] 4 (0, 0)) ∧ noUp nd pre)
    (fun c pre G W => c = .ret ∧ G = (fun k => k = w.heap.size + 1 + 1 ∨ k = w.heap.size + 1 + 1 + 1) ∧ ∃ sv tb, obj W (w.heap.size + 1 + 1) = some (.cells #[sv] 22 (0, 0)) ∧ obj W (w.heap.size + 1 + 1 + 1) = some (.cells #[.bool tb] 4 (0, 0)) ∧ ∃ i x, i < xs.length ∧ fdUp nd pre = some (i, x) ∧ tb = (x.kind == 9) ∧ ∃ bb off, oa = some ⟨bb, off, none⟩ ∧ sv = .slice (some ⟨bb, off + i * 72, none⟩) (xs.length - i) (cap - i))
    ?hIo ?hI ?hIx (fun k => k = w.heap.size + 1 + 1 ∨ k = w.heap.size + 1 + 1 + 1) ⟨rfl, o0, o1, o2, o3, fun p hp => by cases hp⟩
    (fun x a' W => ∃ c, obj W c = some (.cells (factL x.2).toArray 54 (0, 0)) ∧ a' = reFrame (.slice oa xs.length cap) (.func (.func 66) #[] #[.pointer (some ⟨w.heap.size + 1 + 1 + 1 + 1, 0, none⟩)]) nd w.heap.size x c)
    ?hAx ?assign ?body ?done ?stop
  case hIo =>
    rintro pre G W ⟨rfl, _, _, h2, h3, _⟩ k hk
    have := lt_of_obj h3
    exact ⟨by omega, by omega⟩
  case hI =>
    rintro pre G W W' ⟨rfl, h0, h1, h2, h3, h4⟩ hk
    exact ⟨rfl, (hk.block _ (lt_of_obj h0) (fun hh => by omega)).trans h0, (hk.block _ (lt_of_obj h1) (fun hh => by omega)).trans h1, (hk.block _ (lt_of_obj h2) (fun hh => by omega)).trans h2, (hk.block _ (lt_of_obj h3) (fun hh => by omega)).trans h3, h4⟩
  case hIx =>
    rintro c pre G W W' ⟨rfl, rfl, m, t, h2, h3, h4⟩ hk
    exact ⟨rfl, rfl, m, t, (hk.block _ (lt_of_obj h2) (fun hh => by omega)).trans h2, (hk.block _ (lt_of_obj h3) (fun hh => by omega)).trans h3, h4⟩
  case hAx =>
    rintro x a' W r o o' ⟨c, h1, h2⟩ ho hc
    exact ⟨c, ax_put h1 ho hc, h2⟩
  case assign =>
    rintro l pre G ⟨i, x⟩ W K _ hK
    have HK := Lib.hid hK
    clear hK
    simp only [bkV]
    gi_wp2
    exact HK.out _ _ ((Below.refl _ W).alloc (Nat.le_refl _) _) ⟨W.heap.size, obj_alloc_at _ _ _ rfl, rfl⟩
  case body =>
    rintro l pre G ⟨i, x⟩ a' W hl hlw hnl ⟨rfl, h0, h1, h2, h3, h4⟩ ⟨c, hc, rfl⟩ hpre
    have hil := back_at hpre
    have hcz := lt_of_obj hc
    have z0 := lt_of_obj h0
    have z1 := lt_of_obj h1
    have z2 := lt_of_obj h2
    have z3 := lt_of_obj h3
    have P0 := Lib.hid h0
    have P2 := Lib.hid h2
    have P3 := Lib.hid h3
    have PC := Lib.hid hc
    have hc2 : c ≠ w.heap.size + 1 + 1 := fun e => by rw [e, h2] at hc; simp at hc
    have hc3 : c ≠ w.heap.size + 1 + 1 + 1 := fun e => by rw [e, h3] at hc; simp at hc
    have hn0 : ¬ (w.heap.size = w.heap.size + 1 + 1 ∨ w.heap.size = w.heap.size + 1 + 1 + 1) := by omega
    have hnc : ¬ (c = w.heap.size + 1 + 1 ∨ c = w.heap.size + 1 + 1 + 1) := fun hh => hh.elim hc2 hc3
    have c1 : W.cell? ⟨w.heap.size + 1, 0, none⟩ = some (.int .i64 nd) := cell_at h1 0
    obtain ⟨⟨_, g1, g2, _⟩, _, _⟩ := fact_parts (x := x) (W := W) (b := c) (o := 0) (by rw [hc, subOf_cells (by simp), subA_all (by simp)])
    rw [Nat.zero_add] at g1 g2
    have HI := Lib.hid (And.intro h0 (And.intro h1 (And.intro h2 (And.intro h3 h4))))
    have HO : Hid (upB nd x = (x.node == nd && (x.kind == 11 || x.kind == 9))) := Lib.hid rfl
    clear h0 h1 h2 h3 h4 hc
    simp only [reFrame]
    cases en : x.node == nd
    · have HN : Hid (upB nd x = false) := Lib.hid (by rw [HO.out, en]; rfl)
      gi_wp2
      obtain ⟨k0, k1, k2, k3, k4⟩ := HI.out
      exact ⟨_, ⟨rfl, k0, k1, k2, k3, k4.snoc HN.out⟩, Keeps.refl _ _, GrowsG.refl _ _⟩
    · cases e11 : x.kind == 11
      · cases e9 : x.kind == 9
        · have HN : Hid (upB nd x = false) := Lib.hid (by rw [HO.out, en, e11, e9]; rfl)
          gi_wp2
          obtain ⟨k0, k1, k2, k3, k4⟩ := HI.out
          exact ⟨_, ⟨rfl, k0, k1, k2, k3, k4.snoc HN.out⟩, Keeps.refl _ _, GrowsG.refl _ _⟩
        · have HN : Hid (upB nd x = true) := Lib.hid (by rw [HO.out, en, e11, e9]; rfl)
          obtain ⟨_, _, e1, q1, q2, q3⟩ := HS.out
          simp only [Value.slice.injEq] at e1
          obtain ⟨rfl, -, rfl⟩ := e1
          obtain ⟨bb, off, e2, -, -⟩ := q3 (by omega)
          subst e2
          have hicap : i ≤ cap := by omega
          have hile : i ≤ xs.length := by omega
          have hcne : ¬ cap = i := by omega
          unfold maxLen at q2
          clear q3
          gi_wp2_with fail
          refine wpIn_round_held (S := fun W' => Keeps (fun k => k = w.heap.size + 1 + 1 ∨ k = w.heap.size + 1 + 1 + 1) W W') (by kernel_rfl) (by kernel_rfl) (Keeps.refl _ _).drew (fun hS => ?_)
          have QD2 : obj W.drew (w.heap.size + 1 + 1) = obj W (w.heap.size + 1 + 1) := rfl
          have QE3 : obj W.drew (w.heap.size + 1 + 1 + 1) = obj W (w.heap.size + 1 + 1 + 1) := rfl
          generalize W.drew = Wd at *
          clear g2 c1
          refine wpAnyH_take (i := 0) (oi := { dst := some 26, op := Op.load 22 (Operand.tmp 2), type := 22, pos := _, after := _, guard := none }) (v := (.slice (some ⟨bb, off, none⟩) xs.length cap)) rfl (by kernel_rfl) (by kernel_rfl) (by kernel_rfl) (fun _ _ _ h => nomatch h.1) (.inl ⟨by kernel_rfl, fun W' hW => by have ob := (hW.block _ z0 hn0).trans P0.out; have c := cell_at ob 0; have z := lt_of_obj ob; (try simp only [List.getElem?_toArray] at c); go_simp⟩) hS ?_
          try simp only [Act.put, List.setIfInBounds_toArray, List.set_cons_zero, List.set_cons_succ]
          refine wpAnyH_take (i := 1) (oi := { dst := some 27, op := Op.move (Operand.tmp 6), type := 3, pos := _, after := _, guard := none }) (v := (.int .i64 (i : Int))) rfl (by kernel_rfl) (by kernel_rfl) (by kernel_rfl) (fun _ _ _ h => nomatch h.1) (.inl ⟨by kernel_rfl, fun W' hW => by go_simp⟩) hS ?_
          try simp only [Act.put, List.setIfInBounds_toArray, List.set_cons_zero, List.set_cons_succ]
          refine wpAnyH_take (i := 2) (oi := { dst := some 28, op := Op.slice 22 (Operand.tmp 26) (some (Operand.tmp 27)) none none, type := 22, pos := _, after := _, guard := none }) (v := (.slice (some ⟨bb, off + i * 72, none⟩) (xs.length - i) (cap - i))) rfl (by kernel_rfl) (by kernel_rfl) (by kernel_rfl) (fun _ _ _ h => nomatch h.1) (.inl ⟨by kernel_rfl, fun W' hW => by go_simp⟩) hS ?_
          try simp only [Act.put, List.setIfInBounds_toArray, List.set_cons_zero, List.set_cons_succ]
          refine wpAnyH_take (i := 3) (oi := { dst := some 29, op := Op.fieldAddr 54 (Operand.tmp 7) 1, type := 0, pos := _, after := _, guard := none }) (v := (.pointer (some ⟨c, 1, none⟩))) rfl (by kernel_rfl) (by kernel_rfl) (by kernel_rfl) (fun _ _ _ h => nomatch h.1) (.inl ⟨by kernel_rfl, fun W' hW => by go_simp⟩) hS ?_
          try simp only [Act.put, List.setIfInBounds_toArray, List.set_cons_zero, List.set_cons_succ]
          refine wpAnyH_take (i := 4) (oi := { dst := some 30, op := Op.load 3 (Operand.tmp 29), type := 3, pos := _, after := _, guard := none }) (v := (.int .i64 x.kind)) rfl (by kernel_rfl) (by kernel_rfl) (by kernel_rfl) (fun _ _ _ h => nomatch h.1) (.inl ⟨by kernel_rfl, fun W' hW => by have ob := (hW.block _ hcz hnc).trans PC.out; have c := cell_at ob 1; have z := lt_of_obj ob; (try simp only [List.getElem?_toArray] at c); go_simp⟩) hS ?_
          try simp only [Act.put, List.setIfInBounds_toArray, List.set_cons_zero, List.set_cons_succ]
          refine wpAnyH_take (i := 5) (oi := { dst := some 31, op := Op.binOp BinOp.eql 3 (Operand.tmp 30) (Operand.const (Value.int IntKind.i64 9)) 3, type := 4, pos := _, after := _, guard := none }) (v := (.bool true)) rfl (by kernel_rfl) (by kernel_rfl) (by kernel_rfl) (fun _ _ _ h => nomatch h.1) (.inl ⟨by kernel_rfl, fun W' hW => by go_simp⟩) hS ?_
          try simp only [Act.put, List.setIfInBounds_toArray, List.set_cons_zero, List.set_cons_succ]
          refine wpAnyH_ready (rs := [6]) (by kernel_rfl) (by simp) (AllReadyH.cons rfl (fun K hK => ?_) AllReadyH.nil)
          have z6 := Nat.lt_of_lt_of_le z2 hS.size
          have fz6 := frozen_at ((QD2).trans P2.out) 0
          have cz6 := cell_at ((QD2).trans P2.out) 0
          skip
          go_simp
          refine hK.out _ _ ((hS).setCell (a := ⟨w.heap.size + 1 + 1, 0, none⟩) (.inl (.inl rfl)) _) (fun hS1 => ?_)
          clear hK K
          try simp only [Act.put, List.setIfInBounds_toArray, List.set_cons_zero, List.set_cons_succ]
          refine wpAnyH_ready (rs := [7]) (by kernel_rfl) (by simp) (AllReadyH.cons rfl (fun K hK => ?_) AllReadyH.nil)
          have z7 := Nat.lt_of_lt_of_le z3 hS1.size
          have QD3 : obj (Wd.setCell ⟨w.heap.size + 1 + 1, 0, none⟩ (.slice (some ⟨bb, off + i * 72, none⟩) (xs.length - i) (cap - i))) (w.heap.size + 1 + 1 + 1) = obj W (w.heap.size + 1 + 1 + 1) := (obj_setCell_ne _ ⟨w.heap.size + 1 + 1, 0, none⟩ _ _ (show w.heap.size + 1 + 1 + 1 ≠ w.heap.size + 1 + 1 by omega)).trans QE3
          have fz7 := frozen_at ((QD3).trans P3.out) 0
          have cz7 := cell_at ((QD3).trans P3.out) 0
          skip
          go_simp
          refine hK.out _ _ ((hS1).setCell (a := ⟨w.heap.size + 1 + 1 + 1, 0, none⟩) (.inl (.inr rfl)) _) (fun hS2 => ?_)
          clear hK K
          try simp only [Act.put, List.setIfInBounds_toArray, List.set_cons_zero, List.set_cons_succ]
          refine wpAnyH_done (by kernel_rfl) ⟨rfl, ?_⟩ _
          gi_wp2
          obtain ⟨k0, k1, k2, k3, k4⟩ := HI.out
          obtain ⟨t2, t3⟩ := two_cells (W := Wd) (v2 := (.slice (some ⟨bb, off + i * 72, none⟩) (xs.length - i) (cap - i))) (v3 := .bool true) (QD2.trans k2) (QE3.trans k3) (by omega)
          exact ⟨_, ⟨rfl, rfl, _, _, t2, t3, i, x, hil, k4.find HN.out, e9.symm, bb, off, rfl, rfl⟩, hS2, GrowsG.refl _ _⟩
      · have HN : Hid (upB nd x = true) := Lib.hid (by rw [HO.out, en, e11]; rfl)
        obtain ⟨_, _, e1, q1, q2, q3⟩ := HS.out
        simp only [Value.slice.injEq] at e1
        obtain ⟨rfl, -, rfl⟩ := e1
        obtain ⟨bb, off, e2, -, -⟩ := q3 (by omega)
        subst e2
        have hicap : i ≤ cap := by omega
        have hile : i ≤ xs.length := by omega
        have hcne : ¬ cap = i := by omega
        unfold maxLen at q2
        clear q3
        gi_wp2_with fail
        refine wpIn_round_held (S := fun W' => Keeps (fun k => k = w.heap.size + 1 + 1 ∨ k = w.heap.size + 1 + 1 + 1) W W') (by kernel_rfl) (by kernel_rfl) (Keeps.refl _ _).drew (fun hS => ?_)
        have QD2 : obj W.drew (w.heap.size + 1 + 1) = obj W (w.heap.size + 1 + 1) := rfl
        have QE3 : obj W.drew (w.heap.size + 1 + 1 + 1) = obj W (w.heap.size + 1 + 1 + 1) := rfl
        generalize W.drew = Wd at *
        clear g2 c1
        refine wpAnyH_take (i := 0) (oi := { dst := some 26, op := Op.load 22 (Operand.tmp 2), type := 22, pos := _, after := _, guard := none }) (v := (.slice (some ⟨bb, off, none⟩) xs.length cap)) rfl (by kernel_rfl) (by kernel_rfl) (by kernel_rfl) (fun _ _ _ h => nomatch h.1) (.inl ⟨by kernel_rfl, fun W' hW => by have ob := (hW.block _ z0 hn0).trans P0.out; have c := cell_at ob 0; have z := lt_of_obj ob; (try simp only [List.getElem?_toArray] at c); go_simp⟩) hS ?_
        try simp only [Act.put, List.setIfInBounds_toArray, List.set_cons_zero, List.set_cons_succ]
        refine wpAnyH_take (i := 1) (oi := { dst := some 27, op := Op.move (Operand.tmp 6), type := 3, pos := _, after := _, guard := none }) (v := (.int .i64 (i : Int))) rfl (by kernel_rfl) (by kernel_rfl) (by kernel_rfl) (fun _ _ _ h => nomatch h.1) (.inl ⟨by kernel_rfl, fun W' hW => by go_simp⟩) hS ?_
        try simp only [Act.put, List.setIfInBounds_toArray, List.set_cons_zero, List.set_cons_succ]
        refine wpAnyH_take (i := 2) (oi := { dst := some 28, op := Op.slice 22 (Operand.tmp 26) (some (Operand.tmp 27)) none none, type := 22, pos := _, after := _, guard := none }) (v := (.slice (some ⟨bb, off + i * 72, none⟩) (xs.length - i) (cap - i))) rfl (by kernel_rfl) (by kernel_rfl) (by kernel_rfl) (fun _ _ _ h => nomatch h.1) (.inl ⟨by kernel_rfl, fun W' hW => by go_simp⟩) hS ?_
        try simp only [Act.put, List.setIfInBounds_toArray, List.set_cons_zero, List.set_cons_succ]
        refine wpAnyH_take (i := 3) (oi := { dst := some 29, op := Op.fieldAddr 54 (Operand.tmp 7) 1, type := 0, pos := _, after := _, guard := none }) (v := (.pointer (some ⟨c, 1, none⟩))) rfl (by kernel_rfl) (by kernel_rfl) (by kernel_rfl) (fun _ _ _ h => nomatch h.1) (.inl ⟨by kernel_rfl, fun W' hW => by go_simp⟩) hS ?_
        try simp only [Act.put, List.setIfInBounds_toArray, List.set_cons_zero, List.set_cons_succ]
        refine wpAnyH_take (i := 4) (oi := { dst := some 30, op := Op.load 3 (Operand.tmp 29), type := 3, pos := _, after := _, guard := none }) (v := (.int .i64 x.kind)) rfl (by kernel_rfl) (by kernel_rfl) (by kernel_rfl) (fun _ _ _ h => nomatch h.1) (.inl ⟨by kernel_rfl, fun W' hW => by have ob := (hW.block _ hcz hnc).trans PC.out; have c := cell_at ob 1; have z := lt_of_obj ob; (try simp only [List.getElem?_toArray] at c); go_simp⟩) hS ?_
        try simp only [Act.put, List.setIfInBounds_toArray, List.set_cons_zero, List.set_cons_succ]
        refine wpAnyH_take (i := 5) (oi := { dst := some 31, op := Op.binOp BinOp.eql 3 (Operand.tmp 30) (Operand.const (Value.int IntKind.i64 9)) 3, type := 4, pos := _, after := _, guard := none }) (v := (.bool (x.kind == 9))) rfl (by kernel_rfl) (by kernel_rfl) (by kernel_rfl) (fun _ _ _ h => nomatch h.1) (.inl ⟨by kernel_rfl, fun W' hW => by go_simp⟩) hS ?_
        try simp only [Act.put, List.setIfInBounds_toArray, List.set_cons_zero, List.set_cons_succ]
        refine wpAnyH_ready (rs := [6]) (by kernel_rfl) (by simp) (AllReadyH.cons rfl (fun K hK => ?_) AllReadyH.nil)
        have z6 := Nat.lt_of_lt_of_le z2 hS.size
        have fz6 := frozen_at ((QD2).trans P2.out) 0
        have cz6 := cell_at ((QD2).trans P2.out) 0
        skip
        go_simp
        refine hK.out _ _ ((hS).setCell (a := ⟨w.heap.size + 1 + 1, 0, none⟩) (.inl (.inl rfl)) _) (fun hS1 => ?_)
        clear hK K
        try simp only [Act.put, List.setIfInBounds_toArray, List.set_cons_zero, List.set_cons_succ]
        refine wpAnyH_ready (rs := [7]) (by kernel_rfl) (by simp) (AllReadyH.cons rfl (fun K hK => ?_) AllReadyH.nil)
        have z7 := Nat.lt_of_lt_of_le z3 hS1.size
        have QD3 : obj (Wd.setCell ⟨w.heap.size + 1 + 1, 0, none⟩ (.slice (some ⟨bb, off + i * 72, none⟩) (xs.length - i) (cap - i))) (w.heap.size + 1 + 1 + 1) = obj W (w.heap.size + 1 + 1 + 1) := (obj_setCell_ne _ ⟨w.heap.size + 1 + 1, 0, none⟩ _ _ (show w.heap.size + 1 + 1 + 1 ≠ w.heap.size + 1 + 1 by omega)).trans QE3
        have fz7 := frozen_at ((QD3).trans P3.out) 0
        have cz7 := cell_at ((QD3).trans P3.out) 0
        skip
        go_simp
        refine hK.out _ _ ((hS1).setCell (a := ⟨w.heap.size + 1 + 1 + 1, 0, none⟩) (.inl (.inr rfl)) _) (fun hS2 => ?_)
        clear hK K
        try simp only [Act.put, List.setIfInBounds_toArray, List.set_cons_zero, List.set_cons_succ]
        refine wpAnyH_done (by kernel_rfl) ⟨rfl, ?_⟩ _
        gi_wp2
        obtain ⟨k0, k1, k2, k3, k4⟩ := HI.out
        obtain ⟨t2, t3⟩ := two_cells (W := Wd) (v2 := (.slice (some ⟨bb, off + i * 72, none⟩) (xs.length - i) (cap - i))) (v3 := .bool (x.kind == 9)) (QD2.trans k2) (QE3.trans k3) (by omega)
        exact ⟨_, ⟨rfl, rfl, _, _, t2, t3, i, x, hil, k4.find HN.out, rfl, bb, off, rfl, rfl⟩, hS2, GrowsG.refl _ _⟩
  case done =>
    rintro d G W hD' hnd ⟨rfl, h0, h1, h2, h3, h4⟩ hk hg hKD
    have z2 := lt_of_obj h2
    have z3 := lt_of_obj h3
    have f2 := frozen_at h2 0
    have f3 := frozen_at h3 0
    have d2 : W.cell? ⟨w.heap.size + 1 + 1, 0, none⟩ = some (.slice none 0 0) := cell_at h2 0
    have d3 : W.cell? ⟨w.heap.size + 1 + 1 + 1, 0, none⟩ = some (.bool false) := cell_at h3 0
    have HF := Lib.hid (And.intro h2 (And.intro h3 h4))
    have HK := Lib.hid hk
    clear h0 h1 h2 h3 h4 hk
    gi_wp2
    obtain ⟨k2, k3, k4⟩ := HF.out
    obtain ⟨E2, E3⟩ := two_cells (v2 := .slice none 0 0) (v3 := .bool false) k2 k3 (by omega)
    have KD : ((W.setCell ⟨w.heap.size + 1 + 1, 0, none⟩ (.slice none 0 0)).setCell ⟨w.heap.size + 1 + 1 + 1, 0, none⟩ (.bool false)).heap[d]? = some (.deferred (some [])) := ((obj_setCell_ne _ ⟨w.heap.size + 1 + 1 + 1, 0, none⟩ _ _ (fun e => hnd (.inr e))).trans (obj_setCell_ne _ ⟨w.heap.size + 1 + 1, 0, none⟩ _ _ (fun e => hnd (.inl e)))).trans hKD
    have HB3 := Lib.hid ((((b1.trans (HK.out.below (B := w.heap.size) (fun k hk => by omega) (by omega)))).setCell (p := ⟨w.heap.size + 1 + 1, 0, none⟩) (show w.heap.size ≤ w.heap.size + 1 + 1 by omega) (.slice none 0 0)).setCell (p := ⟨w.heap.size + 1 + 1 + 1, 0, none⟩) (show w.heap.size ≤ w.heap.size + 1 + 1 + 1 by omega) (.bool false))
    generalize (W.setCell ⟨w.heap.size + 1 + 1, 0, none⟩ (.slice none 0 0)).setCell ⟨w.heap.size + 1 + 1 + 1, 0, none⟩ (.bool false) = W3 at *
    have HM : Hid (fdUp nd (backL xs) = none) := Lib.hid k4.none
    have hnd2 : d ≠ w.heap.size + 1 + 1 := fun e => hnd (.inl e)
    have hnd3 : d ≠ w.heap.size + 1 + 1 + 1 := fun e => hnd (.inr e)
    clear d2 d3 f2 f3
    refine ⟨by simp, .inl ⟨_, _, rfl, run_takeDeferred KD, ?_⟩⟩
    have r2 : obj (W3.putObj d (.deferred none)) (w.heap.size + 1 + 1) = some (.cells #[.slice none 0 0] 22 (0, 0)) := (World.putObj_heap_other (by omega)).trans E2
    have r3 : obj (W3.putObj d (.deferred none)) (w.heap.size + 1 + 1 + 1) = some (.cells #[.bool false] 4 (0, 0)) := (World.putObj_heap_other (by omega)).trans E3
    have q2 := cell_at r2 0
    have q3 := cell_at r3 0
    have y2 := lt_of_obj r2
    have y3 := lt_of_obj r3
    simp at q2 q3
    have hgr := grownBy_putObj' W3 d (.deferred none)
    have hrr : ∀ r, some d = some r → w.heap.size ≤ r ∧ ∃ o : Obj, W3.heap[r]? = some o ∧ o.isCells = false := fun r e => by cases e; exact ⟨by omega, _, KD, rfl⟩
    have HL : reignL nd xs = [] := by unfold reignL; rw [HM.out]
    have HT : reignB nd xs = false := by unfold reignB; rw [HM.out]
    rw [HL, HT]
    exact ⟨_, results_cells2 Try.results56 _ rfl rfl (v1 := .slice none 0 0) (v2 := .bool false) (by go_simp) (by go_simp), _, rfl, ⟨none, 0, rfl, Nat.le_refl _, Nat.zero_le _, fun hh => absurd hh (Nat.lt_irrefl _)⟩, below_grown HB3.out (Nat.le_refl _) (Nat.le_refl _) hgr hrr⟩
  case stop =>
    rintro d c pre G W hD' hnd hpre ⟨rfl, rfl, m, tb, h2, h3, i, x, hi, hfd, htb, bb, off, hoa, hsv⟩ hk hg hKD
    subst hoa hsv htb
    have HF := Lib.hid (And.intro h2 h3)
    have HK := Lib.hid hk
    clear h2 h3 hk
    gi_wp2
    obtain ⟨E2, E3⟩ := HF.out
    have KD := hKD
    have HB3 := Lib.hid (b1.trans (HK.out.below (B := w.heap.size) (fun k hk => by omega) (by omega)))
    have HM : Hid (fdUp nd (backL xs) = some (i, x)) := Lib.hid (fdUp_prefix hfd hpre)
    have hnd2 : d ≠ w.heap.size + 1 + 1 := fun e => hnd (.inl e)
    have hnd3 : d ≠ w.heap.size + 1 + 1 + 1 := fun e => hnd (.inr e)
    refine ⟨by simp, .inl ⟨_, _, rfl, run_takeDeferred KD, ?_⟩⟩
    have r2 := (World.putObj_heap_other (o := .deferred none) (show w.heap.size + 1 + 1 ≠ d by omega)).trans E2
    have r3 := (World.putObj_heap_other (o := .deferred none) (show w.heap.size + 1 + 1 + 1 ≠ d by omega)).trans E3
    have q2 := cell_at r2 0
    have q3 := cell_at r3 0
    have y2 := lt_of_obj r2
    have y3 := lt_of_obj r3
    simp at q2 q3
    have hgr := grownBy_putObj' W d (.deferred none)
    have hrr : ∀ r, some d = some r → w.heap.size ≤ r ∧ ∃ o : Obj, W.heap[r]? = some o ∧ o.isCells = false := fun r e => by cases e; exact ⟨by omega, _, KD, rfl⟩
    have HBG := below_grown HB3.out (Nat.le_refl _) (Nat.le_refl _) hgr hrr
    have HL : reignL nd xs = xs.drop i := by unfold reignL; rw [HM.out]
    have HT : reignB nd xs = (x.kind == 9) := by unfold reignB; rw [HM.out]
    rw [HL, HT]
    exact ⟨_, results_cells2 Try.results56 _ rfl rfl (v2 := .bool (x.kind == 9)) (by go_simp) (by go_simp), _, rfl, (HS.out.below HBG).drop (by omega), HBG⟩
end Go.Proofs.Ytmenfbfekfljbaa
