import Derived.Test.YtggpmepiggnnnaaSort
import Derived.Test.YtggpmepiggnnnaaShelf
import Derived.Test.YtggpmepiggnnnaaOrd
import Derived.Test.YtggpmepiggnnnaaAllSeq
import Derived.Test.YtggpmepiggnnnaaPop
namespace Go.Proofs.Ytggpmepiggnnnaa
open Go.RowKit Go.Shelf Go.Sort

theorem ltOf_cmp (x y : Al) : ltOf cmpAl x y = alLt x y := by
  unfold ltOf cmpAl
  cases h1 : alLt x y
  · cases h2 : alLt y x <;> simp
  · simp
theorem swo_cmp : SWO (ltOf cmpAl) where
  irrefl x := by rw [ltOf_cmp, alLt_irrefl]
  trans x y z h1 h2 := by rw [ltOf_cmp] at *; exact alLt_trans h1 h2
  ntrans x y z h1 h2 := by
    rw [ltOf_cmp] at *
    exact alLe_trans (a := z) (b := y) (c := x) h2 h1
theorem parts_cmp (x y : Al) (h1 : ltOf cmpAl x y = false) (h2 : ltOf cmpAl y x = false) : x = y := by
  rw [ltOf_cmp] at *
  exact alLe_antisymm h2 h1
def sortAl (xs : List Al) : List Al := xs.mergeSort fun x y => !(ltOf cmpAl) y x
theorem sortAl_perm (xs : List Al) : (sortAl xs).Perm xs := List.mergeSort_perm _ _
theorem sortAl_of {xs W : List Al} (p : xs.Perm W) (hs : SortedL W) : sortAl xs = W := by
  refine ((sortAl_perm xs).trans p).eq_of_pairwise (le := fun a b => alLe a b) (fun a b _ _ h1 h2 => alLe_antisymm h1 h2) ?_ (hs.imp fun h => alLe_of_lt h)
  refine (List.pairwise_mergeSort (le := fun x y => !(ltOf cmpAl) y x) ?_ ?_ xs).imp ?_
  · intro a b c h1 h2
    simp only [ltOf_cmp, Bool.not_eq_true'] at *
    exact alLe_trans (a := a) (b := b) (c := c) h1 h2
  · intro a b
    simp only [ltOf_cmp, Bool.or_eq_true, Bool.not_eq_true']
    cases h : alLt b a
    · exact .inl rfl
    · exact .inr (alLe_of_lt (a := b) (b := a) h)
  · intro a b h
    simpa [ltOf_cmp, alLe] using h
theorem eg40 : ∀ args w, (callFunc 40 args).run Try.prog w = .ok (.enter 40 args) w := enters_of Try.func40 (by kernel_rfl) rfl
theorem sortFunc_any (w : World) (base : Nat) (v : Value) (xs : List Al) (h : OwnS w base 32 2 alL v xs) (hlen : xs.length ≤ 1048576) :
    Calls Try.prog 55 #[v, .func (.func 40) #[] #[]] w fun e w' => e = .returned (.tuple #[]) ∧ OwnS w' base 32 2 alL v (sortAl xs) ∧ Keeps (fun k => v.ownBlock = some k) w w' := by
  rcases h.1.2 with ⟨rfl, h0⟩ | ⟨g, cap, cur, rfl, _⟩
  · have hx := h.2.1 rfl
    subst hx
    refine (AnyF.slices_SortFunc_none Try.sortAl none 0 (.func (.func 40) #[] #[]) w).mono ?_
    rintro e w' ⟨rfl, rfl⟩
    exact ⟨rfl, by rw [show sortAl [] = [] from List.Perm.eq_nil (sortAl_perm [])]; exact h, Keeps.refl _ _⟩
  · obtain ⟨_, hH⟩ := holdsK_of_own alL_length (by decide) h
    have hgz : g < w.heap.size := (h.1.lt g rfl).2
    have hc : CmpLays Try.prog 40 #[] alL 2 cmpAl g 0 xs.toArray.size w := fun _ _ _ _ x y => order_grow _ x y
    have hcon := AnyQ.slices_SortFunc_total Try.sortAl 2 Try.isAgg32 Try.sizeOf32 alL alL_length (fun x v hv => by simp at hv; rcases hv with rfl | rfl <;> rfl) cmpAl swo_cmp 40 #[] g 0 cap xs.toArray w eg40 hc hH hgz (by simp; omega) parts_cmp
    have e1 : xs.toArray.size = xs.length := by simp
    rw [e1] at hcon
    refine Calls.mono hcon ?_
    rintro e w' ⟨rfl, n, os, rfl⟩
    obtain ⟨o1, k1⟩ := own_sorted alL_length (by decide) h (ys := sortAl xs) (sortAl_perm xs).length_eq n os
    exact ⟨rfl, o1, k1.mono fun k hk => by rw [hk]; rfl⟩
set_option maxRecDepth 100000 in
theorem collect_any (w w0 : World) (gf : Nat) (lb : Array Value) (xs : List Al) {D : Nat → Prop} (hD : ∀ k, D k → k < w0.heap.size) (eg : ∀ args w, (callFunc gf args).run Try.prog w = .ok (.enter gf args) w) (hs : SeqG Fence.wide 3 Try.prog gf lb (fun x : Al => #[alV x]) xs D w0) (hb : Agree D w0 w) (hlen : xs.length ≤ 1048576) :
    Calls Try.prog 54 #[.func (.func gf) #[] lb] w (RetOwn w 32 2 alL xs) := by
  have HA := Lib.hid (appendSeq_any w w0 gf lb xs eg hD hs hb hlen)
  clear hs
  go_enter Try.func54, Try.ntmps54
  go_wp2_with fail
  refine HA.out.mono ?_
  rintro e w1 ⟨v1, rfl, h1⟩
  have H1 := Lib.hid h1
  clear h1
  go_wp2
  go_ret
  exact ⟨_, rfl, H1.out⟩
set_option maxRecDepth 100000 in
theorem sortedFunc_any (w w0 : World) (gf : Nat) (lb : Array Value) (xs : List Al) {D : Nat → Prop} (hD : ∀ k, D k → k < w0.heap.size) (eg : ∀ args w, (callFunc gf args).run Try.prog w = .ok (.enter gf args) w) (hs : SeqG Fence.wide 3 Try.prog gf lb (fun x : Al => #[alV x]) xs D w0) (hb : Agree D w0 w) (hlen : xs.length ≤ 1048576) :
    Calls Try.prog 38 #[.func (.func gf) #[] lb, .func (.func 40) #[] #[]] w (RetOwn w 32 2 alL (sortAl xs)) := by
  have HC := Lib.hid (collect_any w w0 gf lb xs hD eg hs hb hlen)
  clear hs
  go_enter Try.func38, Try.ntmps38
  go_wp2_with fail
  refine HC.out.mono ?_
  rintro e w1 ⟨v1, rfl, h1, b1⟩
  have HS := Lib.hid (sortFunc_any w1 w.heap.size v1 xs h1 hlen)
  have HF : Hid (∀ n, v1.ownBlock = some n → w.heap.size ≤ n) := Lib.hid (fun n hn => (h1.1.lt n hn).1)
  clear h1
  go_wp2_with fail
  refine HS.out.mono ?_
  rintro e w2 ⟨rfl, h2, k2⟩
  have H2 := Lib.hid h2
  have B2 := Lib.hid (b1.trans (k2.below HF.out b1.size))
  clear h2 k2
  go_wp2
  go_ret
  exact ⟨_, rfl, H2.out, B2.out⟩
theorem eg41 : ∀ args w, (callFunc 41 args).run Try.prog w = .ok (.enter 41 args) w := enters_of Try.func41 (by kernel_rfl) rfl
set_option maxRecDepth 100000 in
set_option maxHeartbeats 1000000 in
/-- All: an iterator over all, in order -/
theorem all_hp (w : World) (F : Nat → Prop) (hb : Nat) (W : List Al) (h : Hp w F hb W) :
    Calls Try.prog 21 #[.pointer (some ⟨hb, 0, none⟩)] w fun e w' => (∃ lb v, e = .returned (.func (.func 41) #[] #[.pointer (some ⟨lb, 0, none⟩)]) ∧ ValAt 29 2 alL (fun k => k < w'.heap.size) w' lb v W) ∧ Below w.heap.size w w' := by
  obtain ⟨m, sv, L, M, h1, h2, h3, h4⟩ := h.ex
  have hlen := h.len
  have hll := h4.length_eq
  have b1 : Below w.heap.size w (w.alloc (.cells #[.slice none 0 0] 29)) := (Below.refl _ w).alloc (Nat.le_refl _) _
  have R1 := h1.below b1
  have HNO := Lib.hid R1.none
  have o1 : obj (w.alloc (.cells #[.slice none 0 0] 29)) w.heap.size = some (.cells #[.slice none 0 0] 29 (0, 0)) := obj_alloc_at _ _ _ rfl
  have hmf : ∀ (fn : Fn) (first cap : Array Value) (w : World), (Instr.makeFunc fn first cap).run Try.prog w = .ok (.func fn first cap) w := fun _ _ _ _ => rfl
  have HS := Lib.hid (sortAl_of h4 h.sorted)
  have HR := Lib.hid R1
  generalize hw1 : w.alloc (.cells #[.slice none 0 0] 29) = w1 at *
  obtain ⟨oa, cap, rfl, q1, q2, q3⟩ := row_sub R1.row
  have c0 : w1.cell? ⟨hb, 0, none⟩ = some (.slice oa L.length cap) := cell_at R1.box 0
  have hbz := R1.lt.1
  have hsl : SlIn w1 (.slice oa L.length cap) 2 alL L := by
    refine ⟨oa, cap, rfl, q1, q2, fun hl => ?_⟩
    obtain ⟨g, cur, rfl, _, _, hg, hcs, htk⟩ := q3 hl
    exact ⟨g, 0, rfl, lt_of_obj hg, fun j hj => by rw [hg, Nat.zero_add]; exact row_get htk hcs q1 hj⟩
  have HMK := Lib.hid (mkValues w1 oa L.length cap)
  have b2 : Below w1.heap.size w1 (w1.alloc (.cells #[.slice oa L.length cap] 29)) := (Below.refl _ w1).alloc (Nat.le_refl _) _
  have hV : ValAt 29 2 alL (fun k => k < (w1.alloc (.cells #[.slice oa L.length cap] 29)).heap.size) (w1.alloc (.cells #[.slice oa L.length cap] 29)) w1.heap.size (.slice oa L.length cap) L := by
    refine ⟨obj_alloc_at _ _ _ rfl, hsl.below b2, by simp, fun a l c e => ?_⟩
    simp only [Value.slice.injEq] at e
    obtain ⟨rfl, rfl, rfl⟩ := e
    have hl : 0 < L.length ∨ L.length = 0 := by omega
    rcases hl with hl | hl
    · obtain ⟨g, cur, e2, _, _, hg, _⟩ := q3 hl
      simp only [Option.some.injEq] at e2
      subst e2
      have := lt_of_obj hg
      simp; omega
    · rcases R1.row.2 with ⟨e3, _⟩ | ⟨g, cap', cur, e3, _, hg, _⟩
      · cases e3
      · simp only [Value.slice.injEq, Option.some.injEq] at e3
        obtain ⟨rfl, _, _⟩ := e3
        have hg' : obj w1 g = some (.cells cur 32 (0, 0)) := hg
        have := lt_of_obj hg'
        simp; omega
  have HSF := Lib.hid (sortedFunc_any _ _ 56 #[.pointer (some ⟨w1.heap.size, 0, none⟩)] L (fun k hk => hk) eg56 (values_seq 3 (by decide) (fun k hk => hk) hV) (Agree.refl _ _) (by omega))
  rw [HS.out] at HSF
  clear h h1 h2 h3 h4 hsl hV q3 R1 hll
  have hz1 := lt_of_obj o1
  go_enter Try.func21, Try.ntmps21
  go_wp2_with fail
  try rw [hw1]
  clear hw1
  refine HNO.out.mono ?_
  rintro e w2 ⟨rfl, rfl⟩
  go_wp2_with fail
  refine HMK.out.mono ?_
  rintro e w3 ⟨rfl, rfl⟩
  go_wp2_with fail
  refine HSF.out.mono ?_
  rintro e w4 ⟨v4, rfl, o4, b4⟩
  have B2 := Lib.hid b2
  have x4 : obj w4 w.heap.size = some (.cells #[.slice none 0 0] 29 (0, 0)) := (obj_below b4 (by simp; omega)).trans ((obj_alloc_past _ _ _ hz1).trans o1)
  have z4 := lt_of_obj x4
  have cx := cell_at x4 0
  have fx := frozen_at x4
  obtain ⟨oa', cap', rfl⟩ := o4.slice
  have HSO := Lib.hid o4
  have B4 := Lib.hid (b1.trans ((b2.mono b1.size).trans (b4.mono (by have := b1.size; simp; omega))))
  have hnb : (Value.slice oa' W.length cap').ownBlock ≠ some w.heap.size := fun e => by
    have := (o4.1.lt _ e).1
    simp at this
    omega
  clear b4 o4 o1 b1 b2
  go_wp2
  have hs5 := (HSO.out.slIn alL_length)
  have x5 : obj (w4.setCell ⟨w.heap.size, 0, none⟩ (.slice oa' W.length cap')) w.heap.size = some (.cells #[.slice oa' W.length cap'] 29 (0, 0)) := obj_setCell_at _ x4
  have hz5 : (w4.setCell ⟨w.heap.size, 0, none⟩ (.slice oa' W.length cap')).heap.size = w4.heap.size := by simp
  go_ret
  refine ⟨⟨w.heap.size, .slice oa' W.length cap', rfl, ⟨x5, ?_, by rw [hz5]; exact z4, fun a l c e => ?_⟩⟩, B4.out.setCell (p := ⟨w.heap.size, 0, none⟩) (Nat.le_refl _) _⟩
  · refine hs5.of_obj (by rw [hz5]; exact Nat.le_refl _) fun a l c e => obj_setCell_ne _ ⟨w.heap.size, 0, none⟩ _ _ (fun e2 => ?_)
    have e3 : (Value.slice oa' W.length cap').ownBlock = some a.block := by rw [e]; rfl
    exact hnb (by rw [e3, e2])
  · have e3 : (Value.slice oa' W.length cap').ownBlock = some a.block := by rw [e]; rfl
    rw [hz5]
    exact (HSO.out.1.lt _ e3).2
end Go.Proofs.Ytggpmepiggnnnaa
