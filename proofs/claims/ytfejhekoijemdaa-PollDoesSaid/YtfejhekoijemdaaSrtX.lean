import Derived.Test.YtfejhekoijemdaaGath
import Derived.Test.YtfejhekoijemdaaSort
import Derived.Test.YtfejhekoijemdaaShelf
namespace Go.Proofs.Ytfejhekoijemdaa
open Go.RowKit Go.Shelf Go.Sort

set_option maxRecDepth 100000 in
theorem cmp_grow (w : World) (a b : Vt) : Calls Try.prog 66 #[.agg (vtL a).toArray, .agg (vtL b).toArray] w fun e w' => e = .returned (.int .i64 (cmpI a.id b.id)) ∧ ∃ q os, w' = grow (w.drewN q) os := by
  have o1 : obj ((w.alloc (.cells (vtL a).toArray 58)).alloc (.cells (vtL b).toArray 58)) w.heap.size = some (.cells (vtL a).toArray 58 (0, 0)) := (obj_alloc_past _ _ _ (by simp)).trans (obj_alloc_at _ _ _ rfl)
  have o2 : obj ((w.alloc (.cells (vtL a).toArray 58)).alloc (.cells (vtL b).toArray 58)) (w.heap.size + 1) = some (.cells (vtL b).toArray 58 (0, 0)) := obj_alloc_at _ _ _ (by simp)
  have HC := Lib.hid (compare_grow ((w.alloc (.cells (vtL a).toArray 58)).alloc (.cells (vtL b).toArray 58)) a.id b.id)
  have HG : ∀ q os, Hid (∃ q' os', grow (((w.alloc (.cells (vtL a).toArray 58)).alloc (.cells (vtL b).toArray 58)).drewN q) os = grow (w.drewN q') os') := fun q os => Lib.hid ⟨q, #[.cells (vtL a).toArray 58 (0, 0), .cells (vtL b).toArray 58 (0, 0)] ++ os, by rw [← grow_grow, alloc_eq_grow, alloc_eq_grow, grow_grow]; rfl⟩
  obtain ⟨p1, _⟩ := vt_parts (x := a) (W := (w.alloc (.cells (vtL a).toArray 58)).alloc (.cells (vtL b).toArray 58)) (b := w.heap.size) (o := 0) (by rw [o1, subOf_cells (by simp), subA_all (by simp)])
  obtain ⟨p2, _⟩ := vt_parts (x := b) (W := (w.alloc (.cells (vtL a).toArray 58)).alloc (.cells (vtL b).toArray 58)) (b := w.heap.size + 1) (o := 0) (by rw [o2, subOf_cells (by simp), subA_all (by simp)])
  clear o1 o2
  go_enter Try.func66, Try.ntmps66
  go_wp2_with fail
  refine HC.out.mono ?_
  rintro e w1 ⟨rfl, q, os, rfl⟩
  go_wp2
  go_ret
  exact ⟨rfl, (HG q os).out⟩
theorem eg66 : ∀ args w, (callFunc 66 args).run Try.prog w = .ok (.enter 66 args) w := enters_of Try.func66 (by kernel_rfl) rfl
/-! ### a name with its votes, by a map -/
def cmpF (a b : ID) : Int := cmpI a b
theorem ltOf_cmp (a b : ID) : ltOf cmpF a b = ltI a b := by
  unfold ltOf cmpF cmpI
  cases h : ltI a b
  · by_cases e : a = b <;> simp [e]
  · simp
theorem swo_cmp : SWO (ltOf cmpF) where
  irrefl x := by rw [ltOf_cmp]; exact ltI_irrefl x
  trans x y z h1 h2 := by rw [ltOf_cmp] at *; exact ltI_trans h1 h2
  ntrans x y z h1 h2 := by
    rw [ltOf_cmp] at *
    rcases ltI_total x z with h | h | h
    · rcases ltI_total y x with h3 | h3 | h3
      · have := ltI_trans h3 h; simp_all
      · subst h3; simp_all
      · simp_all
    · subst h; exact ltI_irrefl _
    · exact ltI_asymm h
theorem parts_cmp (x y : ID) (h1 : ltOf cmpF x y = false) (h2 : ltOf cmpF y x = false) : x = y := by
  rw [ltOf_cmp] at *
  rcases ltI_total x y with h | h | h
  · rw [h1] at h; cases h
  · exact h
  · rw [h2] at h; cases h
theorem sort_eq (xs : List ID) : (xs.mergeSort fun x y => !(ltOf cmpF) y x) = sortI xs := by
  have : (fun x y => !(ltOf cmpF) y x) = leI := by funext x y; rw [ltOf_cmp]; rfl
  rw [this]; rfl
theorem OwnS.map {α β : Type} {w : World} {base E k : Nat} {enc : β → List Value} {g : α → β} {v : Value} {xs : List α} : OwnS w base E k enc v (xs.map g) ↔ OwnS w base E k (fun x => enc (g x)) v xs := by
  unfold OwnS
  rw [List.length_map, List.flatMap_map]
  simp
instance : Inhabited ID := ⟨ID.zero⟩
theorem sortF_any (w : World) (base : Nat) (v : Value) (f : ID → Int) (xs : List ID) (h : OwnS w base 58 33 (fun id => vtL ⟨id, f id⟩) v xs) (hlen : xs.length ≤ 1048576) :
    Calls Try.prog 65 #[v, .func (.func 66) #[] #[]] w fun e w' => e = .returned (.tuple #[]) ∧ OwnS w' base 58 33 (fun id => vtL ⟨id, f id⟩) v (sortI xs) ∧ Keeps (fun k => v.ownBlock = some k) w w' := by
  rcases h.1.2 with ⟨rfl, h0⟩ | ⟨g, cap, cur, rfl, _⟩
  · have hx := h.2.1 rfl
    subst hx
    refine (AnyF.slices_SortFunc_none Try.sortVt none 0 (.func (.func 66) #[] #[]) w).mono ?_
    rintro e w' ⟨rfl, rfl⟩
    exact ⟨rfl, by rw [show sortI [] = [] from List.Perm.eq_nil (sortI_perm [])]; exact h, Keeps.refl _ _⟩
  · obtain ⟨_, hH⟩ := holdsK_of_own (fun x => vtL_length _) (by decide) h
    have hgz : g < w.heap.size := (h.1.lt g rfl).2
    have hc : CmpLays Try.prog 66 #[] (fun id => vtL ⟨id, f id⟩) 33 cmpF g 0 xs.toArray.size w := fun _ _ _ _ x y => cmp_grow _ ⟨x, f x⟩ ⟨y, f y⟩
    have hcon := AnyQ.slices_SortFunc_total Try.sortVt 33 Try.isAgg58 Try.sizeOf58 (fun id => vtL ⟨id, f id⟩) (fun x => vtL_length _) (fun x v hv => vtL_one' _ v hv) cmpF swo_cmp 66 #[] g 0 cap xs.toArray w eg66 hc hH hgz (by simp; omega) parts_cmp
    have e1 : xs.toArray.size = xs.length := by simp
    rw [e1] at hcon
    refine Calls.mono hcon ?_
    rintro e w' ⟨rfl, n, os, rfl⟩
    rw [sort_eq]
    obtain ⟨o1, k1⟩ := own_sorted (fun x => vtL_length _) (by decide) h (ys := sortI xs) (sortI_perm xs).length_eq n os
    exact ⟨rfl, o1, k1.mono fun k hk => by rw [hk]; rfl⟩
end Go.Proofs.Ytfejhekoijemdaa
namespace Go.Proofs.Ytfejhekoijemdaa
open Go.RowKit Go.Shelf Go.Sort

def mkVt (x : ID × Int) : Vt := ⟨x.1, x.2⟩
def posL (L : List (ID × Int)) : List Vt := (L.filter fun x => decide (0 < x.2)).map mkVt
theorem cons_erase {α : Type} : ∀ (l : List α) (i : Nat) (hi : i < l.length), (l[i] :: l.eraseIdx i).Perm l := by
  intro l
  induction l with
  | nil => intro i hi; exact absurd hi (Nat.not_lt_zero _)
  | cons a l ih =>
    intro i hi
    cases i with
    | zero => exact List.Perm.refl _
    | succ i =>
      have := ih i (by simpa using hi)
      simp only [List.getElem_cons_succ, List.eraseIdx_cons_succ]
      exact (List.Perm.swap _ _ _).trans (this.cons a)
theorem posL_erase {L : List (ID × Int)} {i : Nat} (hi : i < L.length) : (posL L).Perm (posL [L[i]] ++ posL (L.eraseIdx i)) := by
  have h := (cons_erase L i hi).symm
  have h2 := (h.filter fun x => decide (0 < x.2)).map mkVt
  unfold posL
  refine h2.trans (List.Perm.of_eq ?_)
  rw [← List.map_append, ← List.filter_append]; rfl
theorem posL_len (L : List (ID × Int)) : (posL L).length ≤ L.length := by
  unfold posL; rw [List.length_map]; exact List.length_filter_le _ _
theorem posL_eq {L : List (ID × Int)} (hn : (L.map (·.1)).Nodup) : posL L = ((L.filter fun x => decide (0 < x.2)).map (·.1)).map fun id => ⟨id, getN L id⟩ := by
  unfold posL
  rw [List.map_map]
  refine List.map_congr_left fun x hx => ?_
  have := kGet_mem hn ((List.mem_filter.1 hx).1)
  simp only [mkVt, Function.comp, getN, this, Option.getD_some]
/-- what was gathered, told by its names -/
theorem acc_names {L : List (ID × Int)} (hn : (L.map (·.1)).Nodup) {acc : List Vt} (h : acc.Perm (posL L)) : acc = (acc.map (·.id)).map (fun id => (⟨id, getN L id⟩ : Vt)) ∧ sortI (acc.map (·.id)) = sortI ((L.filter fun x => decide (0 < x.2)).map (·.1)) := by
  rw [posL_eq hn] at h
  constructor
  · rw [List.map_map]
    conv => lhs; rw [← List.map_id acc]
    refine List.map_congr_left fun x hx => ?_
    obtain ⟨id, _, rfl⟩ := List.mem_map.1 (h.mem_iff.1 hx)
    rfl
  · have hp : (acc.map (·.id)).Perm ((L.filter fun x => decide (0 < x.2)).map (·.1)) := by
      have := h.map (·.id)
      rw [List.map_map, List.map_map] at this
      exact this
    exact (((sortI_perm _).trans hp).trans (sortI_perm _).symm).eq_of_pairwise (le := fun a b => leI a b) (fun a b _ _ h1 h2 => leI_antisymm h1 h2) (sortI_le _) (sortI_le _)
/-- what a range has still to come -/
def leftN (w : World) (r m : Nat) : Nat :=
  match obj w m, obj w r with
  | some (.map es _), some (.mapIter _ _ seen _) => (leftOf es seen).size
  | _, _ => 0
theorem RngB.left {α ν : Type} {ek : α → Value} {enc : ν → Value} {w : World} {r m : Nat} {L todo : List (α × ν)} (h : RngB w r m ek enc L todo) : leftN w r m = todo.length := by
  obtain ⟨es, clk, since, seen, c0, h1, _, _, _, _, _, h6, h7⟩ := h
  unfold leftN
  rw [h1, h6]
  simpa using h7.length
theorem OwnS.rebase {α : Type} {w : World} {b b' E k : Nat} {enc : α → List Value} {v : Value} {xs : List α} (h : OwnS w b E k enc v xs) (hb : b' ≤ b) : OwnS w b' E k enc v xs := by
  refine ⟨⟨h.1.1, ?_⟩, h.2⟩
  rcases h.1.2 with h1 | ⟨g, cap, cur, rfl, h2, h3, h4⟩
  · exact .inl h1
  · exact .inr ⟨g, cap, cur, rfl, Nat.le_trans hb h2, h3, h4⟩
set_option maxRecDepth 100000 in
set_option maxHeartbeats 2000000 in
/-- bag.sorted -/
theorem sorted_any (w : World) (m : Nat) (L : List (ID × Int)) (hM : MapB w m idV nV L) (hn : (L.map (·.1)).Nodup) (hlen : L.length ≤ 1048576) :
    Calls Try.prog 56 #[.map (some m)] w (RetOwn w 58 33 vtL (bagOf L)) := by
  have HM := Lib.hid hM
  have HN := Lib.hid hn
  have hml := hM.lt
  clear hM hn
  go_enter Try.func56, Try.ntmps56
  go_wp2_with (refine wpList_rangeB (t := 115) (kt := 37) (et := 3) rfl _ rfl Try.underlying115 rfl HM.out ?_; intro w1 hr1 hw1)
  have hb1 : Below w.heap.size w w1 ∧ w1.heap.size = w.heap.size + 1 := by
    obtain ⟨s, c0, rfl⟩ := hw1
    exact ⟨(Below.refl _ w).alloc (Nat.le_refl _) _, by simp⟩
  obtain ⟨hb1, hz1⟩ := hb1
  generalize hr : w.heap.size = r at *
  have HR1 := Lib.hid hr1
  have HB1 := Lib.hid hb1
  clear hr1 hb1 hw1
  simp only [Act.put, List.setIfInBounds_toArray, List.set_cons_zero, List.set_cons_succ]
  go_loopw [3] (fun v3 wr => ∃ (acc : List Vt) (todo : List (ID × Int)), Hid (OwnS wr (r + 1) 58 33 vtL v3 acc) ∧ Hid (RngB wr r m idV nV L todo) ∧ Hid (Below r w wr) ∧ r + 1 ≤ wr.heap.size ∧ Hid ((acc ++ posL todo).Perm (posL L))) (fun _ wr => leftN wr r m)
  case atStart => exact ⟨[], L, Lib.hid (OwnS.nil _ _ _ _ _), HR1, HB1, by omega, Lib.hid (List.Perm.refl _)⟩
  case round =>
    obtain ⟨acc, todo, HO, HR, HB, hzr, HP⟩ := hrel
    by_cases h0 : todo = []
    · subst h0
      have hfin := HP.out
      rw [show posL ([] : List (ID × Int)) = [] from rfl, List.append_nil] at hfin
      obtain ⟨ha1, ha2⟩ := acc_names HN.out hfin
      have hal : acc.length ≤ 1048576 := by
        have h1 := HP.out.length_eq
        rw [List.length_append] at h1
        have := posL_len L
        omega
      have ho := HO.out
      rw [ha1, OwnS.map (g := fun id => (⟨id, getN L id⟩ : Vt))] at ho
      have HS := Lib.hid (sortF_any wr (r + 1) u3 (getN L) (acc.map (·.id)) ho (by rw [List.length_map]; exact hal))
      rw [ha2] at HS
      have HF : Hid (∀ n, u3.ownBlock = some n → r + 1 ≤ n) := Lib.hid (fun n hn => (ho.1.lt n hn).1)
      clear ha1 ha2 ho hfin
      go_wp2_with (refine wpList_nextB rfl _ rfl rfl HR.out (fun _ => ?_) (fun i hi => absurd hi (by simp)))
      refine HS.out.mono ?_
      rintro e w2 ⟨rfl, o2, k2⟩
      have HO2 := Lib.hid o2
      have HB2 := Lib.hid (HB.out.trans (k2.below (B := r) (fun k hk => by have := HF.out k hk; omega) (by omega)))
      clear o2 k2
      go_wp2
      go_ret
      refine ⟨_, rfl, ?_, by rw [hr]; exact HB2.out⟩
      unfold bagOf
      rw [hr, OwnS.map (g := fun id => (⟨id, getN L id⟩ : Vt))]
      exact HO2.out.rebase (by omega)
    · have hal : acc.length ≤ 1048576 := by
        have h1 := HP.out.length_eq
        rw [List.length_append] at h1
        have := posL_len L
        omega
      have hLM := HR.out.left
      have HE : Hid (∀ (i : Nat) (hi : i < todo.length), (posL todo).Perm (posL [todo[i]] ++ posL (todo.eraseIdx i))) := Lib.hid (fun i hi => posL_erase hi)
      have HL : Hid (∀ (i : Nat) (hi : i < todo.length), (todo.eraseIdx i).length < todo.length) := Lib.hid (fun i hi => by rw [List.length_eraseIdx, if_pos hi]; omega)
      have hmr := HR.out.lts
      have hm2 : m < r := hml
      go_wp2_with (first
        | (at_builtin; have oo : obj ((w2.alloc (.cells (idL x).toArray 37)).alloc (.cells (vtL ⟨x, n⟩).toArray 58)) (wr.heap.size + 1) = some (.cells (vtL ⟨x, n⟩).toArray 58 (0, 0)) := obj_alloc_at _ _ _ (by simp [hz2]); refine push41 rfl _ _ rfl (r + 1) u3 acc ⟨x, n⟩ rfl ((HO2.out.alloc _).alloc _) (wr.heap.size + 1) rfl oo hal (by simp [hz2]; omega) ?_; intro v' W3 q1 q2 q3; have Q1 := Lib.hid q1; have Q2 := Lib.hid q2; clear q1 q2 q3 oo)
        | (refine wpList_nextB rfl _ rfl rfl HR.out (fun h => absurd h h0) ?_; intro i hi w2 hr2 hk2 hz2 hent; simp only [idV, nV] at hent ⊢; have hE := HE.out i hi; have hL := HL.out i hi; have HR2 := Lib.hid hr2; have HO2 := Lib.hid (HO.out.keeps fun g hg => hk2.block g (HO.out.1.lt g hg).2 (by have := (HO.out.1.lt g hg).1; omega)); have HB2 := Lib.hid (HB.out.trans (hk2.below (B := r) (fun k hk => by omega) (by omega))); have HI := Lib.hid hi; clear hr2 hk2; generalize todo[i] = x at *; obtain ⟨x, n⟩ := x; simp only at hent ⊢; generalize todo.eraseIdx i = todo2 at *; clear hi))
      · rename_i hpos
        have hp1 : posL [(x, n)] = [⟨x, n⟩] := by simp [posL, mkVt]; omega
        rw [hp1] at hE
        have e1 : ∀ k, k < r + 1 → obj W3 k = obj w2 k := fun k hk => (Q2.out.block k hk).trans ((obj_alloc_past _ _ _ (by simp; omega)).trans (obj_alloc_past _ _ _ (by omega)))
        have HR3 := HR2.out.of_obj (e1 m (by omega)) (e1 r (by omega))
        have hz3 := Q2.out.size
        simp at hz3
        have HB3 := (HB2.out.alloc (by omega) (.cells (idL x).toArray 37)).alloc (by simp; omega) (.cells (vtL ⟨x, n⟩).toArray 58)
        have HB4 := HB3.trans (Q2.out.mono (by omega))
        go_roundw
        case rel => exact ⟨acc ++ [⟨x, n⟩], todo2, Q1, Lib.hid HR3, Lib.hid HB4, by omega, Lib.hid (by rw [List.append_assoc]; exact (hE.symm.append_left acc).trans HP.out)⟩
        case measure => rw [HR3.left, hLM]; exact hL
      · rename_i hpos
        have hp1 : posL [(x, n)] = [] := by simp [posL]; omega
        rw [hp1, List.nil_append] at hE
        have e1 : ∀ k, k < r + 1 → obj (w2.alloc (.cells (idL x).toArray 37)) k = obj w2 k := fun k hk => obj_alloc_past _ _ _ (by omega)
        have HR3 := HR2.out.of_obj (e1 m (by omega)) (e1 r (by omega))
        have HB3 := HB2.out.alloc (by omega) (.cells (idL x).toArray 37)
        go_roundw
        case rel => exact ⟨acc, todo2, Lib.hid (HO2.out.alloc _), Lib.hid HR3, Lib.hid HB3, by simp; omega, Lib.hid ((hE.symm.append_left acc).trans HP.out)⟩
        case measure => rw [HR3.left, hLM]; exact hL
end Go.Proofs.Ytfejhekoijemdaa
