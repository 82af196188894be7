import Derived.Test.YtfejhekoijemdaaGath
import Derived.Test.YtfejhekoijemdaaSort
import Derived.Test.YtfejhekoijemdaaShelf
namespace Go.Proofs.Ytfejhekoijemdaa
open Go.RowKit Go.Shelf Go.Sort

set_option maxRecDepth 100000 in
theorem cmp_grow (w : World) (a b : Vt) : Calls Try.prog 66 #[.agg (vtL a).toArray, .agg (vtL b).toArray] w fun e w' => e = .returned (.int .i64 (cmpI a.id b.id)) ∧ ∃ q os, w' = grow (w.drewN q) os := by
  have o1 : obj ((w.alloc (.cells (vtL a).toArray 58)).alloc (.cells (vtL b).toArray 58)) w.heap.size = some (.cells (vtL a).toArray 58 (0, 0)) := (obj_alloc_past _ _ _ (by simp)).trans (obj_alloc_at _ _ _ rfl)
  have o2 : obj ((w.alloc (.cells (vtL a).toArray 58)).alloc (.cells (vtL b).toArray 58)) (w.heap.size + 1) = some (.cells (vtL b).toArray 58 (0, 0)) := obj_alloc_at _ _ _ (by simp)
  have HC := Lib.hid (compare_grow ((w.alloc (.cells (vtL a).toArray 58)).alloc (.cells (vtL b).toArray 58)) a.id b.id)
  have HG : ∀ q os, Hid (∃ q' os', grow (((w.alloc (.cells (vtL a).toArray 58)).alloc (.cells (vtL b).toArray 58)).drewN q) os = grow (w.drewN q') os') := fun q os => Lib.hid ⟨q, #[.cells (vtL a).toArray 58 (0, 0), .cells (vtL b).toArray 58 (0, 0)] ++ os, by rw [← grow_grow, alloc_eq_grow, alloc_eq_grow, grow_grow]; rfl⟩
  obtain ⟨p1, _⟩ := vt_parts (x := a) (W := (w.alloc (.cells (vtL a).toArray 58)).alloc (.cells (vtL b).toArray 58)) (b := w.heap.size) (o := 0) (by rw [o1, subOf_cells (by simp), subA_all (by simp)])
  obtain ⟨p2, _⟩ := vt_parts (x := b) (W := (w.alloc (.cells (vtL a).toArray 58)).alloc (.cells (vtL b).toArray 58)) (b := w.heap.size + 1) (o := 0) (by rw [o2, subOf_cells (by simp), subA_all (by simp)])
  clear o1 o2
  go_enter Try.func66, Try.ntmps66
  go_wp2_with fail
  refine HC.out.mono ?_
  rintro e w1 ⟨rfl, q, os, rfl⟩
  go_wp2
  go_ret
  exact ⟨rfl, (HG q os).out⟩
theorem eg66 : ∀ args w, (callFunc 66 args).run Try.prog w = .ok (.enter 66 args) w := enters_of Try.func66 (by kernel_rfl) rfl
/-! ### a name with its votes, by a map -/
def cmpF (a b : ID) : Int := cmpI a b
theorem ltOf_cmp (a b : ID) : ltOf cmpF a b = ltI a b := by
  unfold ltOf cmpF cmpI
  cases h : ltI a b
  · by_cases e : a = b <;> simp [e]
  · simp
theorem swo_cmp : SWO (ltOf cmpF) where
  irrefl x := by rw [ltOf_cmp]; exact ltI_irrefl x
  trans x y z h1 h2 := by rw [ltOf_cmp] at *; exact ltI_trans h1 h2
  ntrans x y z h1 h2 := by
    rw [ltOf_cmp] at *
    rcases ltI_total x z with h | h | h
    · rcases ltI_total y x with h3 | h3 | h3
      · have := ltI_trans h3 h; simp_all
      · subst h3; simp_all
      · simp_all
    · subst h; exact ltI_irrefl _
    · exact ltI_asymm h
theorem parts_cmp (x y : ID) (h1 : ltOf cmpF x y = false) (h2 : ltOf cmpF y x = false) : x = y := by
  rw [ltOf_cmp] at *
  rcases ltI_total x y with h | h | h
  · rw [h1] at h; cases h
  · exact h
  · rw [h2] at h; cases h
theorem sort_eq (xs : List ID) : (xs.mergeSort fun x y => !(ltOf cmpF) y x) = sortI xs := by
  have : (fun x y => !(ltOf cmpF) y x) = leI := by funext x y; rw [ltOf_cmp]; rfl
  rw [this]; rfl
theorem OwnS.map {α β : Type} {w : World} {base E k : Nat} {enc : β → List Value} {g : α → β} {v : Value} {xs : List α} : OwnS w base E k enc v (xs.map g) ↔ OwnS w base E k (fun x => enc (g x)) v xs := by
  unfold OwnS
  rw [List.length_map, List.flatMap_map]
  simp
instance : Inhabited ID := ⟨ID.zero⟩
theorem sortF_any (w : World) (base : Nat) (v : Value) (f : ID → Int) (xs : List ID) (h : OwnS w base 58 33 (fun id => vtL ⟨id, f id⟩) v xs) (hlen : xs.length ≤ 1048576) :
    Calls Try.prog 65 #[v, .func (.func 66) #[] #[]] w fun e w' => e = .returned (.tuple #[]) ∧ OwnS w' base 58 33 (fun id => vtL ⟨id, f id⟩) v (sortI xs) ∧ Keeps (fun k => v.ownBlock = some k) w w' := by
  rcases h.1.2 with ⟨rfl, h0⟩ | ⟨g, cap, cur, rfl, _⟩
  · have hx := h.2.1 rfl
    subst hx
    refine (AnyF.slices_SortFunc_none Try.sortVt none 0 (.func (.func 66) #[] #[]) w).mono ?_
    rintro e w' ⟨rfl, rfl⟩
    exact ⟨rfl, by rw [show sortI [] = [] from List.Perm.eq_nil (sortI_perm [])]; exact h, Keeps.refl _ _⟩
  · obtain ⟨_, hH⟩ := holdsK_of_own (fun x => vtL_length _) (by decide) h
    have hgz : g < w.heap.size := (h.1.lt g rfl).2
    have hc : CmpLays Try.prog 66 #[] (fun id => vtL ⟨id, f id⟩) 33 cmpF g 0 xs.toArray.size w := fun _ _ _ _ x y => cmp_grow _ ⟨x, f x⟩ ⟨y, f y⟩
    have hcon := AnyQ.slices_SortFunc_total Try.sortVt 33 Try.isAgg58 Try.sizeOf58 (fun id => vtL ⟨id, f id⟩) (fun x => vtL_length _) (fun x v hv => vtL_one' _ v hv) cmpF swo_cmp 66 #[] g 0 cap xs.toArray w eg66 hc hH hgz (by simp; omega) parts_cmp
    have e1 : xs.toArray.size = xs.length := by simp
    rw [e1] at hcon
    refine Calls.mono hcon ?_
    rintro e w' ⟨rfl, n, os, rfl⟩
    rw [sort_eq]
    obtain ⟨o1, k1⟩ := own_sorted (fun x => vtL_length _) (by decide) h (ys := sortI xs) (sortI_perm xs).length_eq n os
    exact ⟨rfl, o1, k1.mono fun k hk => by rw [hk]; rfl⟩
end Go.Proofs.Ytfejhekoijemdaa
