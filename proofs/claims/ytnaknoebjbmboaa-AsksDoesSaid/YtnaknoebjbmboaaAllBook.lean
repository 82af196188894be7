import Derived.Test.YtnaknoebjbmboaaBookS
import Derived.Test.YtnaknoebjbmboaaNil
import Derived.Test.YtnaknoebjbmboaaAskSort
import Derived.RangeFuncBox
namespace Go.Proofs.Ytnaknoebjbmboaa
open Go.RowKit Go.Shelf

/-- a book whose map may be ranged over -/
structure BK (w : World) (b m : Nat) (S : BookD) : Prop where
  at_ : BookAt w b m S
  st : StampM w m
  rise : RiseL S.L
theorem BK.below {w W : World} {b m : Nat} {S : BookD} (h : BK w b m S) (hb : Below w.heap.size w W) : BK W b m S :=
  ⟨h.at_.below hb, h.st.of_obj (obj_below hb h.at_.mlt), h.rise⟩
theorem BK.mapB {w : World} {b m : Nat} {S : BookD} (h : BK w b m S) : MapB w m ekI akV S.L := by
  obtain ⟨es, clk, h1, h2⟩ := h.at_.map
  exact ⟨es, clk, h1, RepI.repK h2, h.st.of h1⟩
theorem eg40 : ∀ args w, (callFunc 40 args).run Try.prog w = .ok (.enter 40 args) w := enters_of Try.func40 (by kernel_rfl) rfl
theorem mapValues_mk (w : World) (m : Nat) : Calls Try.prog 27 #[.map (some m)] w fun e w' => e = .returned (.func (.func 40) #[] #[.pointer (some ⟨w.heap.size, 0, none⟩)]) ∧ w' = w.alloc (.cells #[.map (some m)] 43) := by
  have hmf : ∀ (fn : Fn) (first cap : Array Value) (w : World), (Instr.makeFunc fn first cap).run Try.prog w = .ok (.func fn first cap) w := fun _ _ _ _ => rfl
  go_enter Try.func27, Try.ntmps27
  go_wp2
  go_ret
  exact ⟨rfl, rfl⟩
set_option maxRecDepth 100000 in
set_option maxHeartbeats 1000000 in
theorem all_book (w : World) (b m : Nat) (S : BookD) (h : BK w b m S) (hlen : S.L.length ≤ 4096) :
    Calls Try.prog 19 #[.pointer (some ⟨b, 0, none⟩)] w fun e w' => (∃ lb v, e = .returned (.func (.func 42) #[] #[.pointer (some ⟨lb, 0, none⟩)]) ∧ ValAt 51 3 akL (fun k => w.heap.size ≤ k ∧ k < w'.heap.size) w' lb v (S.L.map (·.2))) ∧ Below w.heap.size w w' := by
  have c2 : w.cell? ⟨b, 2, none⟩ = some (.map (some m)) := cell_at h.at_.cells 2
  have HNO := Lib.hid (none_made w b m c2)
  have hz := h.at_.lt
  have HMV := Lib.hid (mapValues_mk w m)
  have b1 : Below w.heap.size w (w.alloc (.cells #[.map (some m)] 43)) := (Below.refl _ w).alloc (Nat.le_refl _) _
  have h1 := h.below b1
  have hsq := mapvals_seq 3 (by decide) (D := fun k => k < (w.alloc (.cells #[.map (some m)] 43)).heap.size) (w0 := w.alloc (.cells #[.map (some m)] 43)) (fun k hk => hk) (Bs := w.heap.size) (m := m) (L := S.L) (obj_alloc_at _ _ _ rfl) (by simp) h1.at_.mlt h1.mapB
  have HSF := Lib.hid (sortedFunc_map _ _ w.heap.size S.L h.rise eg40 (fun k hk => hk) hsq (Agree.refl _ _) (by omega))
  have B1 := Lib.hid b1
  clear h h1 hsq b1
  obtain ⟨W, HW⟩ : ∃ W : List AskD, Hid (W = S.L.map (·.2)) := ⟨_, Lib.hid rfl⟩
  rw [← HW.out] at HSF
  rw [← HW.out]
  clear HW
  go_enter Try.func19, Try.ntmps19
  go_wp2_with fail
  refine HNO.out.mono ?_
  rintro e w2 ⟨rfl, hw2⟩
  cases hw2
  go_wp2_with fail
  refine HMV.out.mono ?_
  rintro e w3 ⟨rfl, hw3⟩
  subst hw3
  go_wp2_with fail
  refine HSF.out.mono ?_
  rintro e w4 ⟨v4, rfl, o4, b4⟩
  obtain ⟨oa, cap, e4⟩ := o4.slice
  subst e4
  have HO4 := Lib.hid o4
  have B4 := Lib.hid (B1.out.trans (b4.mono B1.out.size))
  have HMK := Lib.hid (mkValues w4 oa W.length cap)
  clear o4 b4
  go_wp2_with fail
  refine HMK.out.mono ?_
  rintro e w5 ⟨rfl, hw5⟩
  subst hw5
  have b5 : Below w4.heap.size w4 (w4.alloc (.cells #[.slice oa W.length cap] 51)) := (Below.refl _ w4).alloc (Nat.le_refl _) _
  have FIN : Hid (ValAt 51 3 akL (fun k => w.heap.size ≤ k ∧ k < (w4.alloc (.cells #[.slice oa W.length cap] 51)).heap.size) (w4.alloc (.cells #[.slice oa W.length cap] 51)) w4.heap.size (.slice oa W.length cap) W) := Lib.hid (by
    refine ⟨obj_alloc_at _ _ _ rfl, (HO4.out.slIn akL_length).below b5, by simp; exact B4.out.size, fun a l c e => ?_⟩
    have e3 : (Value.slice oa W.length cap).ownBlock = some a.block := by rw [e]; rfl
    have := HO4.out.1.lt _ e3
    simp at this
    simp; omega)
  have B5 := Lib.hid (B4.out.trans (b5.mono B4.out.size))
  clear b5 HO4 HSF
  go_wp2
  go_ret
  exact ⟨⟨_, _, rfl, FIN.out⟩, B5.out⟩
theorem ValAt.mono {α : Type} {T k : Nat} {enc : α → List Value} {D D' : Nat → Prop} {w : World} {Bs : Nat} {v : Value} {xs : List α} (h : ValAt T k enc D w Bs v xs) (hd : ∀ n, D n → D' n) : ValAt T k enc D' w Bs v xs :=
  ⟨h.box, h.sl, hd _ h.db, fun a l c e => hd _ (h.dv a l c e)⟩
attribute [local go_sem] Oper.semAt_some
def ofFrame (B b lb : Nat) (node : Int) (x : AskD) (c : Nat) : Act :=
  { tmps := #[.pointer (some ⟨b, 0, none⟩), .int .i64 node, undef, .pointer (some ⟨B, 0, none⟩), .int .i64 0, .pointer (some ⟨B + 1, 0, none⟩), .pointer (some ⟨c, 0, none⟩), .pointer (some ⟨b, 0, none⟩), .func (.func 42) #[] #[.pointer (some ⟨lb, 0, none⟩)], akV x, undef, undef, undef, undef, undef, undef, undef], defers := [] }
theorem below_setIn {B : Nat} {a w : World} (h : Below B a w) {p : Addr} (hp : B ≤ p.block) (v : Value) : Below B a (w.setCell p v) := h.setCell hp v
set_option maxRecDepth 100000 in
set_option maxHeartbeats 2000000 in
theorem of_book (w : World) (b m : Nat) (S : BookD) (node : Int) (h : BK w b m S) (hlen : S.L.length ≤ 4096) :
    Calls Try.prog 17 #[.pointer (some ⟨b, 0, none⟩), .int .i64 node] w fun e w' => e = .returned (.int .i64 ((S.L.map (·.2)).countP (fun a => a.node == node) : Nat)) ∧ Below w.heap.size w w' := by
  have b1 : Below w.heap.size w ((w.alloc (.cells #[.int .i64 node] 3)).alloc (.cells #[.int .i64 0] 3)) := ((Below.refl _ w).alloc (Nat.le_refl _) _).alloc (by simp) _
  have o1 : obj ((w.alloc (.cells #[.int .i64 node] 3)).alloc (.cells #[.int .i64 0] 3)) (w.heap.size + 1) = some (.cells #[.int .i64 0] 3 (0, 0)) := obj_alloc_at _ _ _ (by simp)
  have o0 : obj ((w.alloc (.cells #[.int .i64 node] 3)).alloc (.cells #[.int .i64 0] 3)) w.heap.size = some (.cells #[.int .i64 node] 3 (0, 0)) := (obj_alloc_past _ _ _ (by simp)).trans (obj_alloc_at _ _ _ rfl)
  have HN := Lib.hid (all_book _ b m S (h.below b1) hlen)
  have hz12 : ((w.alloc (.cells #[.int .i64 node] 3)).alloc (.cells #[.int .i64 0] 3)).heap.size = w.heap.size + 2 := by simp
  obtain ⟨W, HW⟩ : ∃ W : List AskD, Hid (W = S.L.map (·.2)) := ⟨_, Lib.hid rfl⟩
  have HWL : Hid (W.length ≤ 4096) := Lib.hid (by rw [HW.out, List.length_map]; exact hlen)
  rw [← HW.out] at HN
  rw [← HW.out]
  clear h HW hlen
  refine (callsIn_wide (n := 5)).1 ?_
  refine callsIn_of_wp_marks Try.func17 rfl trivial ?_ rfl
  simp only [Try.ntmps17, List.size_toArray, List.length_cons, List.length_nil, Nat.reduceAdd, Nat.reduceSub, Array.replicate_succ, Array.replicate_zero, List.push_toArray, List.append_toArray, List.nil_append, List.cons_append]
  gi_wp2
  refine ⟨trivial, (callsIn_wide.2 HN.out).mono ?_⟩
  clear HN
  generalize (w.alloc (.cells #[.int .i64 node] 3)).alloc (.cells #[.int .i64 0] 3) = w1 at *
  rintro e w2 ⟨⟨lb, v, rfl, hV⟩, b2⟩
  have o2 := (obj_below b2 (lt_of_obj o1)).trans o1
  have p2 := (obj_below b2 (lt_of_obj o0)).trans o0
  have B2 := Lib.hid (b1.trans (b2.mono b1.size))
  have HV := Lib.hid (values_seq 4 (by decide) (D := fun k => w1.heap.size ≤ k ∧ k < w2.heap.size) (fun k hk => hk.2) hV)
  have z2 := lt_of_obj o2
  clear b1 b2 o1 o0 hV
  gi_wp2
  refine wpIn_range_own rfl (by decide) (gf := 42) (lb := #[.pointer (some ⟨lb, 0, none⟩)]) rfl trivial eg42 (fun k hk => hk.2) HV.out (Agree.refl _ _) (fun _ => rfl)
    (fun pre G W0 => G = (fun k => k = w.heap.size + 1) ∧ obj W0 (w.heap.size + 1) = some (.cells #[.int .i64 (pre.countP (fun a => a.node == node) : Nat)] 3 (0, 0)) ∧ obj W0 w.heap.size = some (.cells #[.int .i64 node] 3 (0, 0)))
    (fun c pre G W => False) ?hIo ?hI ?hIx (fun k => k = w.heap.size + 1) ⟨rfl, o2, p2⟩
    (fun x a' W0 => ∃ c, obj W0 c = some (.cells #[.int .i64 x.id, .int .i64 x.node, .int .i64 x.kind] 32 (0, 0)) ∧ a' = ofFrame w.heap.size b lb node x c) ?hAx ?assign ?body ?done ?stop
  case hIo =>
    rintro pre G W ⟨rfl, h, _⟩ k rfl
    exact ⟨fun hd => by omega, lt_of_obj h⟩
  case hI =>
    rintro pre G W W' ⟨rfl, h1, h2⟩ hk
    exact ⟨rfl, (hk.block _ (lt_of_obj h1) (fun hh => hh.2 rfl)).trans h1, (hk.block _ (lt_of_obj h2) (fun hh => by omega)).trans h2⟩
  case hIx =>
    rintro c pre G W W' h _
    exact h
  case hAx =>
    rintro x a' W r o o' ⟨c, h1, h2⟩ ho hc
    exact ⟨c, ax_put h1 ho hc, h2⟩
  case assign =>
    rintro l pre G x W K _ hK
    have HK := Lib.hid hK
    clear hK
    gi_wp2
    exact HK.out _ _ ((Below.refl _ W).alloc (Nat.le_refl _) _) ⟨W.heap.size, obj_alloc_at _ _ _ rfl, rfl⟩
  case body =>
    rintro l pre G x a' W0 hl hlw hnl ⟨rfl, h1, h2⟩ ⟨c, hc, rfl⟩ hpre
    have z1 := lt_of_obj h1
    have z2 := lt_of_obj h2
    have zc := lt_of_obj hc
    have k1 : W0.cell? ⟨w.heap.size + 1, 0, none⟩ = some (.int .i64 (pre.countP (fun a => a.node == node) : Nat)) := cell_at h1 0
    have k2 : W0.cell? ⟨w.heap.size, 0, none⟩ = some (.int .i64 node) := cell_at h2 0
    have k3 : W0.cell? ⟨c, 1, none⟩ = some (.int .i64 x.node) := cell_at hc 1
    have fz := frozen_at h1
    have hpl : pre.length ≤ 4096 := by have h7 := hpre.length_le; simp at h7; have := HWL.out; omega
    have hcl : pre.countP (fun a => a.node == node) ≤ pre.length := List.countP_le_length
    have HE : Hid ((pre ++ [x]).countP (fun a => a.node == node) = pre.countP (fun a => a.node == node) + (if (x.node == node) = true then 1 else 0)) := Lib.hid (by rw [List.countP_append]; simp [List.countP_cons])
    have H1 := Lib.hid h1
    have H2 := Lib.hid h2
    generalize hn : pre.countP (fun a => a.node == node) = n at *
    have hw : IntKind.i64.wrap ((n : Int) + 1) = ((n + 1 : Nat) : Int) := by simp [IntKind.wrap, IntKind.signed, IntKind.bits]; omega
    clear h1 h2 hc
    simp only [ofFrame, akV]
    cases hb : (x.node == node)
    · rw [hb] at HE
      gi_wp2
      exact ⟨_, ⟨rfl, by rw [HE.out]; exact H1.out, H2.out⟩, Keeps.refl _ _, GrowsG.refl _ _⟩
    · rw [hb] at HE
      gi_wp2
      refine ⟨fun k => k = w.heap.size + 1, ⟨rfl, ?_, ?_⟩, ?_, GrowsG.refl _ _⟩
      · rw [HE.out]
        have := obj_setCell_at (b := w.heap.size + 1) (i := 0) (Value.int .i64 ((n : Int) + 1)) H1.out
        simpa using this
      · exact (obj_setCell_ne _ _ _ _ (by simp only; omega)).trans H2.out
      · exact (Keeps.refl (fun k => k = w.heap.size + 1) _).setCell (a := ⟨w.heap.size + 1, 0, none⟩) (.inl rfl) _
  case done =>
    rintro d G W0 hD _ ⟨rfl, h1, h2⟩ hk _ hKD
    have hb := lt_of_obj h1
    have cb : W0.cell? ⟨w.heap.size + 1, 0, none⟩ = some (.int .i64 (W.countP (fun a => a.node == node) : Nat)) := cell_at h1 0
    have HK := Lib.hid hk
    clear hk h1 h2
    gi_wp2
    refine ⟨by simp, .inl ⟨_, _, rfl, run_takeDeferred hKD, ?_⟩⟩
    have hgr := grownBy_putObj' W0 d (.deferred none)
    have hrr : ∀ r, some d = some r → w.heap.size ≤ r ∧ ∃ o : Obj, W0.heap[r]? = some o ∧ o.isCells = false := fun r e => by cases e; exact ⟨by omega, _, hKD, rfl⟩
    have hbW : Below w.heap.size w W0 := B2.out.trans (HK.out.below (fun k hk => by omega) (by omega))
    exact ⟨_, results_tmp rfl _ _ _, rfl, below_grown hbW (Nat.le_refl _) (Nat.le_refl _) hgr hrr⟩
  case stop =>
    rintro d c pre G W _ _ _ h
    exact h.elim
end Go.Proofs.Ytnaknoebjbmboaa
