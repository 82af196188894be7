import Derived.Test.YtnaknoebjbmboaaColl
import Derived.Test.YtnaknoebjbmboaaSort
import Derived.Test.YtnaknoebjbmboaaShelf
import Derived.Sort.Grow
namespace Go.Proofs.Ytnaknoebjbmboaa
open Go.RowKit Go.Shelf Go.Sort

def cmpN (a b : Int) : Int := if a < b then -1 else if b < a then 1 else 0
set_option maxRecDepth 100000 in
theorem isNaN_same (w : World) (a : Int) : Calls Try.prog 41 #[.int .i64 a] w fun e w' => e = .returned (.bool false) ∧ w' = w := by
  have h : (a != a) = false := by simp
  go_enter Try.func41, Try.ntmps41
  go_wp2
  go_ret
  exact ⟨ret_bool (by simp), rfl⟩
set_option maxRecDepth 100000 in
theorem compare_same (w : World) (a b : Int) : Calls Try.prog 29 #[.int .i64 a, .int .i64 b] w fun e w' => e = .returned (.int .i64 (cmpN a b)) ∧ w' = w := by
  have H1 := fun w => Lib.hid (isNaN_same w a)
  have H2 := fun w => Lib.hid (isNaN_same w b)
  have HC : Hid (cmpN a b = if a < b then -1 else if b < a then 1 else 0) := Lib.hid rfl
  by_cases h1 : a < b
  · go_enter Try.func29, Try.ntmps29
    go_wp2_with fail
    refine (H1 _).out.mono ?_
    rintro e w1 ⟨rfl, rfl⟩
    go_wp2_with fail
    refine (H2 _).out.mono ?_
    rintro e w2 ⟨rfl, rfl⟩
    go_wp2
    go_ret
    exact ⟨ret_int (by rw [HC.out, if_pos (by omega)]), rfl⟩
  · by_cases h2 : b < a
    · go_enter Try.func29, Try.ntmps29
      go_wp2_with fail
      refine (H1 _).out.mono ?_
      rintro e w1 ⟨rfl, rfl⟩
      go_wp2_with fail
      refine (H2 _).out.mono ?_
      rintro e w2 ⟨rfl, rfl⟩
      go_wp2
      go_ret
      exact ⟨ret_int (by rw [HC.out, if_neg (by omega), if_pos (by omega)]), rfl⟩
    · go_enter Try.func29, Try.ntmps29
      go_wp2_with fail
      refine (H1 _).out.mono ?_
      rintro e w1 ⟨rfl, rfl⟩
      go_wp2_with fail
      refine (H2 _).out.mono ?_
      rintro e w2 ⟨rfl, rfl⟩
      go_wp2
      go_ret
      exact ⟨ret_int (by rw [HC.out, if_neg (by omega), if_neg (by omega)]), rfl⟩
set_option maxRecDepth 100000 in
theorem order_grow (w : World) (a b : AskD) : Calls Try.prog 28 #[.agg (akL a).toArray, .agg (akL b).toArray] w fun e w' => e = .returned (.int .i64 (cmpN a.id b.id)) ∧ ∃ q os, w' = grow (w.drewN q) os := by
  have H1 := fun w => Lib.hid (compare_same w a.id b.id)
  have hg : Hid (∃ q os', (w.alloc (.cells #[.int .i64 a.id, .int .i64 a.node, .int .i64 a.kind] 32)).alloc (.cells #[.int .i64 b.id, .int .i64 b.node, .int .i64 b.kind] 32) = grow (w.drewN q) os') := Lib.hid ⟨0, _, by rw [alloc_eq_grow, alloc_eq_grow, grow_grow]; rfl⟩
  generalize cmpN a.id b.id = r at *
  go_enter Try.func28, Try.ntmps28
  go_wp2_with fail
  refine (H1 _).out.mono ?_
  rintro e w2 ⟨rfl, rfl⟩
  go_wp2
  go_ret
  exact ⟨rfl, hg.out⟩
theorem eg28 : ∀ args w, (callFunc 28 args).run Try.prog w = .ok (.enter 28 args) w := enters_of Try.func28 (by kernel_rfl) rfl
theorem ltOf_cmp (a b : Int) : ltOf cmpN a b = decide (a < b) := by
  unfold ltOf cmpN
  by_cases h : a < b
  · simp [h]
  · by_cases h2 : b < a <;> simp [h, h2]
theorem swo_cmp : SWO (ltOf cmpN) where
  irrefl x := by rw [ltOf_cmp]; simp
  trans x y z h1 h2 := by rw [ltOf_cmp] at *; simp at *; omega
  ntrans x y z h1 h2 := by rw [ltOf_cmp] at *; simp at *; omega
theorem parts_cmp (x y : Int) (h1 : ltOf cmpN x y = false) (h2 : ltOf cmpN y x = false) : x = y := by
  rw [ltOf_cmp] at *; simp at *; omega
def sortN (xs : List Int) : List Int := xs.mergeSort fun x y => !(ltOf cmpN) y x
theorem sortN_perm (xs : List Int) : (sortN xs).Perm xs := List.mergeSort_perm _ _
theorem sortN_of {xs ys : List Int} (p : xs.Perm ys) (hs : ys.Pairwise (· < ·)) : sortN xs = ys := by
  refine ((sortN_perm xs).trans p).eq_of_pairwise (le := fun a b => a ≤ b) (fun a b _ _ h1 h2 => by omega) ?_ (hs.imp fun h => by omega)
  refine (List.pairwise_mergeSort (le := fun x y => !(ltOf cmpN) y x) ?_ ?_ xs).imp ?_
  · intro a b c h1 h2
    simp only [ltOf_cmp, Bool.not_eq_true', decide_eq_false_iff_not] at *
    omega
  · intro a b
    simp only [ltOf_cmp, Bool.or_eq_true, Bool.not_eq_true', decide_eq_false_iff_not]
    omega
  · intro a b h
    simpa [ltOf_cmp] using h
/-- what a map tells of a number, as an ask of that number -/
def gA (L : List (Int × AskD)) (id : Int) : AskD := ⟨id, ((aGet id L).getD ⟨0, 0, 0⟩).node, ((aGet id L).getD ⟨0, 0, 0⟩).kind⟩
theorem OwnS.map {α β : Type} {w : World} {base E k : Nat} {enc : β → List Value} {g : α → β} {v : Value} {xs : List α} : OwnS w base E k enc v (xs.map g) ↔ OwnS w base E k (fun x => enc (g x)) v xs := by
  unfold OwnS
  rw [List.length_map, List.flatMap_map]
  simp
theorem sortF_any (w : World) (base : Nat) (v : Value) (L : List (Int × AskD)) (xs : List Int) (h : OwnS w base 32 3 (fun id => akL (gA L id)) v xs) (hlen : xs.length ≤ 1048576) :
    Calls Try.prog 39 #[v, .func (.func 28) #[] #[]] w fun e w' => e = .returned (.tuple #[]) ∧ OwnS w' base 32 3 (fun id => akL (gA L id)) v (sortN xs) ∧ Keeps (fun k => v.ownBlock = some k) w w' := by
  rcases h.1.2 with ⟨rfl, h0⟩ | ⟨g, cap, cur, rfl, _⟩
  · have hx := h.2.1 rfl
    subst hx
    refine (AnyF.slices_SortFunc_none Try.sortAk none 0 (.func (.func 28) #[] #[]) w).mono ?_
    rintro e w' ⟨rfl, rfl⟩
    exact ⟨rfl, by rw [show sortN [] = [] from List.Perm.eq_nil (sortN_perm [])]; exact h, Keeps.refl _ _⟩
  · obtain ⟨_, hH⟩ := holdsK_of_own (fun x => akL_length _) (by decide) h
    have hgz : g < w.heap.size := (h.1.lt g rfl).2
    have hc : CmpLays Try.prog 28 #[] (fun id => akL (gA L id)) 3 cmpN g 0 xs.toArray.size w := fun _ _ _ _ x y => order_grow _ (gA L x) (gA L y)
    have hcon := AnyQ.slices_SortFunc_total Try.sortAk 3 Try.isAgg32 Try.sizeOf32 (fun id => akL (gA L id)) (fun x => akL_length _) (fun x v hv => by simp at hv; rcases hv with rfl | rfl | rfl <;> rfl) cmpN swo_cmp 28 #[] g 0 cap xs.toArray w eg28 hc hH hgz (by simp; omega) parts_cmp
    have e1 : xs.toArray.size = xs.length := by simp
    rw [e1] at hcon
    refine Calls.mono hcon ?_
    rintro e w' ⟨rfl, n, os, rfl⟩
    obtain ⟨o1, k1⟩ := own_sorted (fun x => akL_length _) (by decide) h (ys := sortN xs) (sortN_perm xs).length_eq n os
    exact ⟨rfl, o1, k1.mono fun k hk => by rw [hk]; rfl⟩
/-- numbers rise, each ask of its own number -/
structure RiseL (L : List (Int × AskD)) : Prop where
  rise : (L.map (·.1)).Pairwise (· < ·)
  own : ∀ p ∈ L, p.2.id = p.1
theorem aGet_mem {L : List (Int × AskD)} (h : (L.map (·.1)).Pairwise (· < ·)) : ∀ p ∈ L, aGet p.1 L = some p.2 := by
  induction L with
  | nil => intro p hp; cases hp
  | cons q r ih =>
    intro p hp
    rw [List.map_cons, List.pairwise_cons] at h
    obtain ⟨j, u⟩ := q
    rcases List.mem_cons.1 hp with rfl | hp
    · simp [aGet]
    · have h1 := h.1 p.1 (List.mem_map_of_mem hp)
      unfold aGet
      rw [if_neg (by simp only at h1; omega)]
      exact ih h.2 p hp
theorem RiseL.gat {L : List (Int × AskD)} (h : RiseL L) {a : AskD} (ha : a ∈ L.map (·.2)) : gA L a.id = a := by
  obtain ⟨p, hp, rfl⟩ := List.mem_map.1 ha
  have h1 := aGet_mem h.rise p hp
  have h2 := h.own p hp
  unfold gA
  rw [h2, h1]
  obtain ⟨k, ⟨i, n, q⟩⟩ := p
  simp only at h2
  subst h2
  rfl
theorem RiseL.ids {L : List (Int × AskD)} (h : RiseL L) : (L.map (·.2)).map (·.id) = L.map (·.1) := by
  rw [List.map_map]
  exact List.map_congr_left fun p hp => h.own p hp
theorem RiseL.back {L : List (Int × AskD)} (h : RiseL L) {ys : List AskD} (hp : ys.Perm (L.map (·.2))) : (ys.map (·.id)).map (gA L) = ys := by
  rw [List.map_map]
  conv => rhs; rw [← List.map_id ys]
  exact List.map_congr_left fun a ha => h.gat (hp.mem_iff.1 ha)
set_option maxRecDepth 100000 in
theorem sortedFunc_map (w w0 : World) (Bs : Nat) (L : List (Int × AskD)) (hL : RiseL L) (eg : ∀ args w, (callFunc 40 args).run Try.prog w = .ok (.enter 40 args) w) {D : Nat → Prop} (hD : ∀ k, D k → k < w0.heap.size) (hs : SeqP Fence.wide 3 Try.prog 40 #[.pointer (some ⟨Bs, 0, none⟩)] (fun x : AskD => #[akV x]) (SomeOf L) (fun ys => ys.Perm (L.map (·.2))) D w0) (hb : Agree D w0 w) (hlen : L.length ≤ 1048576) :
    Calls Try.prog 26 #[.func (.func 40) #[] #[.pointer (some ⟨Bs, 0, none⟩)], .func (.func 28) #[] #[]] w (RetOwn w 32 3 akL (L.map (·.2))) := by
  have HC := Lib.hid (collect_map w w0 Bs L eg hD hs hb hlen)
  clear hs
  go_enter Try.func26, Try.ntmps26
  go_wp2_with fail
  refine HC.out.mono ?_
  rintro e w1 ⟨ys, v1, rfl, hp, h1, b1⟩
  have hid : (ys.map (·.id)).Perm (L.map (·.1)) := by rw [← hL.ids]; exact hp.map _
  have hyl : ys.length ≤ 1048576 := by have := hp.length_eq; simp at this; omega
  have ho := h1
  rw [← hL.back hp, OwnS.map] at ho
  have hso := sortF_any w1 w.heap.size v1 L _ ho (by rw [List.length_map]; exact hyl)
  rw [sortN_of hid hL.rise] at hso
  have HS := Lib.hid hso
  have HF : Hid (∀ n, v1.ownBlock = some n → w.heap.size ≤ n) := Lib.hid (fun n hn => (h1.1.lt n hn).1)
  clear h1 ho hso
  go_wp2_with fail
  refine HS.out.mono ?_
  rintro e w2 ⟨rfl, h2, k2⟩
  have H2 : Hid (OwnS w2 w.heap.size 32 3 akL v1 (L.map (·.2))) := Lib.hid (by
    rw [← OwnS.map, ← hL.ids, hL.back (List.Perm.refl _)] at h2
    exact h2)
  have B2 := Lib.hid (b1.trans (k2.below HF.out b1.size))
  clear h2 k2
  go_wp2
  go_ret
  exact ⟨_, rfl, H2.out, B2.out⟩
end Go.Proofs.Ytnaknoebjbmboaa
