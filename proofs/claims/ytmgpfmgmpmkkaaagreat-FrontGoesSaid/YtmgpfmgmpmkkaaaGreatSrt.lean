import Derived.Test.YtmgpfmgmpmkkaaaGreatShl
import Derived.Test.YtmgpfmgmpmkkaaaGreatPlainB
namespace Go.Proofs.YtmgpfmgmpmkkaaaGreat
open Go.RowKit Go.Shelf Go.Sort

/-! ### slices.SortFunc of a slice of the call's own, nil or not -/
section
variable {α : Type} [Inhabited α]
theorem holdsK_of_ownC {w : World} {base E k : Nat} {enc : α → List Value} (hk : ∀ x, (enc x).length = k) (k0 : 0 < k) {g len cap : Nat} {xs : List α} (h : OwnC w base E k enc (.slice (some ⟨g, 0, none⟩) len cap) xs) : len = xs.length ∧ HoldsK enc k w g 0 xs.toArray := by
  rcases h.2 with ⟨h1, _⟩ | ⟨g', cap', cur, e, _, hg, h2, _, h3, h4⟩
  · cases h1
  · simp only [Value.slice.injEq, Option.some.injEq, Addr.mk.injEq, and_true] at e
    obtain ⟨rfl, rfl, rfl⟩ := e
    have hg' : obj w g = some (.cells cur E (0, 0)) := hg
    refine ⟨rfl, fun j hj => ⟨?_, frozen_at hg' _⟩⟩
    rw [flatK_list hk k0] at hj ⊢
    have hj' : j < (xs.flatMap enc).length := by simpa using hj
    have hjl : j < xs.length * k := by rwa [flatMap_len hk] at hj'
    rw [cell_at hg', Nat.zero_add]
    have : (xs.flatMap enc)[j]? = cur[j]? := by rw [← h4, List.getElem?_take_of_lt hjl, Array.getElem?_toList]
    rw [← this]
    have e2 := List.getElem?_eq_getElem hj'
    simp [e2]
theorem ownC_sorted {w : World} {base E k : Nat} {enc : α → List Value} (hk : ∀ x, (enc x).length = k) (k0 : 0 < k) {g len cap : Nat} {xs ys : List α} (h : OwnC w base E k enc (.slice (some ⟨g, 0, none⟩) len cap) xs) (hl : ys.length = xs.length) (n : Nat) (os : Array Obj) :
    OwnC (sortWorldK enc k w g 0 n ys.toArray os) base E k enc (.slice (some ⟨g, 0, none⟩) len cap) ys ∧ Keeps (fun j => j = g) w (sortWorldK enc k w g 0 n ys.toArray os) := by
  rcases h.2 with ⟨h1, _⟩ | ⟨g', cap', cur, e, hb, hg, h2, h2', h3, h4⟩
  · cases h1
  · simp only [Value.slice.injEq, Option.some.injEq, Addr.mk.injEq, and_true] at e
    obtain ⟨rfl, rfl, rfl⟩ := e
    have hg' : obj w g = some (.cells cur E (0, 0)) := hg
    have hgz := lt_of_obj hg'
    have o1 : obj (sortWorldK enc k w g 0 n ys.toArray os) g = some (.cells (putCells id 0 (ys.flatMap enc).toArray cur) E (0, 0)) := by
      unfold sortWorldK putRowK putRow mapBlock grow obj
      rw [flatK_list hk k0]
      simp only []
      rw [Array.getElem?_append_left (by simp [Sort.ahead]; exact hgz), Array.getElem?_modify, if_pos rfl]
      have : (Sort.ahead w n).heap[g]? = some (.cells cur E (0, 0)) := hg'
      rw [this]
      rfl
    have hle : xs.length * k ≤ cap * k := Nat.mul_le_mul_right _ h2
    refine ⟨⟨by rw [flatMap_len hk], .inr ⟨g, cap, _, by rw [hl], hb, o1, by rw [hl]; exact h2, h2', by simp [putCells, h3], ?_⟩⟩, ?_⟩
    · apply List.ext_getElem?
      intro i
      by_cases hi : i < ys.length * k
      · rw [List.getElem?_take_of_lt hi, Array.getElem?_toList]
        have hi2 : i < (ys.flatMap enc).length := by rw [flatMap_len hk]; exact hi
        have hic : i < cur.size := by rw [h3]; rw [hl] at hi; omega
        have e2 := List.getElem?_eq_getElem hi2
        simp [putCells, hic, e2]
        intro hh
        rw [List.length_flatMap] at hi2
        omega
      · rw [List.getElem?_eq_none (by simp; omega), List.getElem?_eq_none (by rw [flatMap_len hk]; omega)]
    · refine ⟨rfl, rfl, rfl, ?_, fun j hj hne => ?_⟩
      · simp [sortWorldK, putRowK, putRow, mapBlock, grow, Sort.ahead]
      · unfold sortWorldK putRowK putRow mapBlock grow obj
        simp only []
        rw [Array.getElem?_append_left (by simp [Sort.ahead]; exact hj), Array.getElem?_modify, if_neg (Ne.symm hne)]
        rfl
end
theorem OwnC.map {α β : Type} {w : World} {base E k : Nat} {enc : β → List Value} {g : α → β} {v : Value} {xs : List α} : OwnC w base E k enc v (xs.map g) ↔ OwnC w base E k (fun x => enc (g x)) v xs := by
  unfold OwnC
  rw [List.length_map, List.flatMap_map]
/-! ### names, by front.compare -/
set_option maxRecDepth 100000 in
set_option maxHeartbeats 1000000 in
theorem less_grow (w : World) (a b : ID) : Calls Tryz.prog 66 #[.agg (idL a).toArray, .agg (idL b).toArray] w fun e w' => e = .returned (.bool (ltI a b)) ∧ ∃ q os, w' = grow (w.drewN q) os := by
  have HG : ∀ q os, Hid (∃ q' os', grow (((w.alloc (.cells (idL a).toArray 32)).alloc (.cells (idL b).toArray 32)).drewN q) os = grow (w.drewN q') os') := fun q os => Lib.hid ⟨q, #[.cells (idL a).toArray 32 (0, 0), .cells (idL b).toArray 32 (0, 0)] ++ os, by rw [← grow_grow, alloc_eq_grow, alloc_eq_grow, grow_grow]; rfl⟩
  have HC := Lib.hid (compare_grow ((w.alloc (.cells (idL a).toArray 32)).alloc (.cells (idL b).toArray 32)) a b)
  have HL := Lib.hid (show decide (cmpI a b < 0) = ltI a b by unfold cmpI; cases h : ltI a b <;> simp; split <;> decide)
  generalize cmpI a b = c at *
  go_enter Tryz.func66, Tryz.ntmps66
  go_wp2_with fail
  refine HC.out.mono ?_
  rintro e w1 ⟨rfl, q, os, rfl⟩
  go_wp2
  go_ret
  exact ⟨ret_bool HL.out, (HG q os).out⟩
set_option maxRecDepth 100000 in
set_option maxHeartbeats 1000000 in
theorem cmp_grow (w : World) (a b : ID) : Calls Tryz.prog 36 #[.agg (idL a).toArray, .agg (idL b).toArray] w fun e w' => e = .returned (.int .i64 (cmpI a b)) ∧ ∃ q os, w' = grow (w.drewN q) os := by
  have hG0 : ∀ q, Hid (∃ q' os', ((w.alloc (.cells (idL a).toArray 32)).alloc (.cells (idL b).toArray 32)).drewN q = grow (w.drewN q') os') := fun q => Lib.hid ⟨q, #[.cells (idL a).toArray 32 (0, 0), .cells (idL b).toArray 32 (0, 0)], by rw [alloc_eq_grow, alloc_eq_grow, grow_grow]; rfl⟩
  have HG : ∀ p q os, Hid (∃ q' os', grow ((((w.alloc (.cells (idL a).toArray 32)).alloc (.cells (idL b).toArray 32)).drewN p).drewN q) os = grow (w.drewN q') os') := fun p q os => Lib.hid ⟨p + q, #[.cells (idL a).toArray 32 (0, 0), .cells (idL b).toArray 32 (0, 0)] ++ os, by rw [show (((w.alloc (.cells (idL a).toArray 32)).alloc (.cells (idL b).toArray 32)).drewN p).drewN q = ((w.alloc (.cells (idL a).toArray 32)).alloc (.cells (idL b).toArray 32)).drewN (p + q) from by simp [World.drewN, Nat.add_assoc], ← grow_grow, alloc_eq_grow, alloc_eq_grow, grow_grow]; rfl⟩
  have HL := fun W => Lib.hid (less_grow W a b)
  by_cases hab : a = b
  · subst hab
    have hc : cmpI a a = 0 := by unfold cmpI; rw [ltI_irrefl]; simp
    rw [hc]
    clear hc
    go_enter Tryz.func36, Tryz.ntmps36
    go_wp2_with fail
    go_ret
    exact ⟨rfl, (hG0 0).out⟩
  · cases hlt : ltI a b
    · have hc : cmpI a b = 1 := by unfold cmpI; rw [hlt, if_neg hab]; rfl
      rw [hc]
      clear hc
      rw [hlt] at HL
      go_enter Tryz.func36, Tryz.ntmps36
      go_wp2_with fail
      refine (HL _).out.mono ?_
      rintro e w1 ⟨rfl, q, os, rfl⟩
      go_wp2
      go_ret
      exact ⟨rfl, (HG 0 q os).out⟩
    · have hc : cmpI a b = -1 := by unfold cmpI; rw [hlt]; rfl
      rw [hc]
      clear hc
      rw [hlt] at HL
      go_enter Tryz.func36, Tryz.ntmps36
      go_wp2_with fail
      refine (HL _).out.mono ?_
      rintro e w1 ⟨rfl, q, os, rfl⟩
      go_wp2
      go_ret
      exact ⟨rfl, (HG 0 q os).out⟩
theorem eg32 : ∀ args w, (callFunc 36 args).run Tryz.prog w = .ok (.enter 36 args) w := enters_of Tryz.func36 (by kernel_rfl) rfl
def cmpF (a b : ID) : Int := cmpI a b
theorem ltOf_cmp (a b : ID) : ltOf cmpF a b = ltI a b := by
  unfold ltOf cmpF cmpI
  cases h : ltI a b
  · by_cases e : a = b <;> simp [e]
  · simp
theorem swo_cmp : SWO (ltOf cmpF) where
  irrefl x := by rw [ltOf_cmp]; exact ltI_irrefl x
  trans x y z h1 h2 := by rw [ltOf_cmp] at *; exact ltI_trans h1 h2
  ntrans x y z h1 h2 := by
    rw [ltOf_cmp] at *
    rcases ltI_total x z with h | h | h
    · rcases ltI_total y x with h3 | h3 | h3
      · have := ltI_trans h3 h; simp_all
      · subst h3; simp_all
      · simp_all
    · subst h; exact ltI_irrefl _
    · exact ltI_asymm h
theorem parts_cmp (x y : ID) (h1 : ltOf cmpF x y = false) (h2 : ltOf cmpF y x = false) : x = y := by
  rw [ltOf_cmp] at *
  rcases ltI_total x y with h | h | h
  · rw [h1] at h; cases h
  · exact h
  · rw [h2] at h; cases h
theorem sort_eq (xs : List ID) : (xs.mergeSort fun x y => !(ltOf cmpF) y x) = sortI xs := by
  have : (fun x y => !(ltOf cmpF) y x) = leI := by funext x y; rw [ltOf_cmp]; rfl
  rw [this]; rfl
instance : Inhabited ID := ⟨ID.zero⟩
/-- slices.SortFunc, of names -/
theorem sort_names (w : World) (base : Nat) (v : Value) (xs : List ID) (h : OwnC w base 32 32 idL v xs) (hlen : xs.length ≤ 1048576) :
    Calls Tryz.prog 35 #[v, .func (.func 36) #[] #[]] w fun e w' => e = .returned (.tuple #[]) ∧ OwnC w' base 32 32 idL v (sortI xs) ∧ Keeps (fun k => v.ownBlock = some k) w w' := by
  obtain ⟨oa, cap, rfl⟩ := h.slice
  rcases h.2 with ⟨e, h0⟩ | ⟨g, cap', cur, e, _⟩
  · obtain rfl : xs = [] := List.length_eq_zero_iff.1 h0
    simp only [Value.slice.injEq] at e
    obtain ⟨rfl, -, rfl⟩ := e
    refine (AnyF.slices_SortFunc_none Tryz.sortId none 0 (.func (.func 36) #[] #[]) w).mono ?_
    rintro e w' ⟨rfl, rfl⟩
    exact ⟨rfl, by rw [show sortI [] = [] from List.Perm.eq_nil (sortI_perm [])]; exact h, Keeps.refl _ _⟩
  · simp only [Value.slice.injEq] at e
    obtain ⟨rfl, -, rfl⟩ := e
    obtain ⟨_, hH⟩ := holdsK_of_ownC (fun x => idL_length _) (by decide) h
    have hgz := ownC_lt h
    have hc : CmpLays Tryz.prog 36 #[] idL 32 cmpF g 0 xs.toArray.size w := fun _ _ _ _ x y => cmp_grow _ x y
    have hcon := AnyQ.slices_SortFunc_total Tryz.sortId 32 Tryz.isAgg32 Tryz.sizeOf32 idL (fun x => idL_length _) (fun x v hv => idL_one' x v hv) cmpF swo_cmp 36 #[] g 0 cap xs.toArray w eg32 hc hH hgz (by simp; omega) parts_cmp
    have e1 : xs.toArray.size = xs.length := by simp
    rw [e1] at hcon
    refine Calls.mono hcon ?_
    rintro e w' ⟨rfl, n, os, rfl⟩
    rw [sort_eq]
    obtain ⟨o1, k1⟩ := ownC_sorted (fun x => idL_length _) (by decide) h (ys := sortI xs) (sortI_perm xs).length_eq n os
    exact ⟨rfl, o1, k1.mono fun k hk => by rw [hk]; rfl⟩
/-! ### what was said, by its node -/
set_option maxRecDepth 100000 in
theorem cmp36_grow (w : World) (a b : SdD) (ha : 0 ≤ a.node ∧ a.node < 1048576) (hb : 0 ≤ b.node ∧ b.node < 1048576) : Calls Tryz.prog 42 #[.agg (sdL a).toArray, .agg (sdL b).toArray] w fun e w' => e = .returned (.int .i64 (a.node - b.node)) ∧ ∃ q os, w' = grow (w.drewN q) os := by
  obtain ⟨an, ao, al, ac⟩ := a
  obtain ⟨bn, bo, bl, bc⟩ := b
  simp only at ha hb ⊢
  have hw : wrap64 (an - bn) = an - bn := by unfold wrap64; omega
  have hG0 : ∀ q, Hid (∃ q' os', ((w.alloc (.cells #[.int .i64 an, .slice ao al ac] 42)).alloc (.cells #[.int .i64 bn, .slice bo bl bc] 42)).drewN q = grow (w.drewN q') os') := fun q => Lib.hid ⟨q, #[.cells #[.int .i64 an, .slice ao al ac] 42 (0, 0), .cells #[.int .i64 bn, .slice bo bl bc] 42 (0, 0)], by rw [alloc_eq_grow, alloc_eq_grow, grow_grow]; rfl⟩
  show Calls Tryz.prog 42 #[.agg #[.int .i64 an, .slice ao al ac], .agg #[.int .i64 bn, .slice bo bl bc]] w _
  go_enter Tryz.func42, Tryz.ntmps42
  go_wp2
  go_ret
  exact ⟨by simp [hw], (hG0 0).out⟩
theorem eg36 : ∀ args w, (callFunc 42 args).run Tryz.prog w = .ok (.enter 42 args) w := enters_of Tryz.func42 (by kernel_rfl) rfl
abbrev NodeF := Fin 1048576
def cmpN (a b : NodeF) : Int := (a.val : Int) - b.val
theorem ltOf_cmpN (a b : NodeF) : ltOf cmpN a b = decide (a.val < b.val) := by
  unfold ltOf cmpN
  by_cases h : a.val < b.val
  · rw [decide_eq_true h, decide_eq_true (by omega)]
  · rw [decide_eq_false h, decide_eq_false (by omega)]
theorem swo_cmpN : SWO (ltOf cmpN) where
  irrefl x := by rw [ltOf_cmpN, decide_eq_false (Nat.lt_irrefl _)]
  trans x y z h1 h2 := by rw [ltOf_cmpN] at *; have h1 := of_decide_eq_true h1; have h2 := of_decide_eq_true h2; exact decide_eq_true (Nat.lt_trans h1 h2)
  ntrans x y z h1 h2 := by rw [ltOf_cmpN] at *; have h1 := of_decide_eq_false h1; have h2 := of_decide_eq_false h2; exact decide_eq_false (by omega)
theorem parts_cmpN (x y : NodeF) (h1 : ltOf cmpN x y = false) (h2 : ltOf cmpN y x = false) : x = y := by
  rw [ltOf_cmpN] at *
  have h1 := of_decide_eq_false h1
  have h2 := of_decide_eq_false h2
  exact Fin.ext (by omega)
/-- the row of a node -/
def rowOf (rows : List SdD) (i : NodeF) : SdD :=
  match rows.find? fun r => r.node == (i.val : Int) with
  | some r => ⟨i.val, r.oa, r.n, r.cap⟩
  | none => ⟨i.val, none, 0, 0⟩
theorem rowOf_node (rows : List SdD) (i : NodeF) : (rowOf rows i).node = i.val := by
  unfold rowOf; split <;> rfl
def sortD (rows : List SdD) : List SdD := rows.mergeSort fun a b => decide (a.node ≤ b.node)
def nodeF (r : SdD) : NodeF := if h : r.node.toNat < 1048576 then ⟨r.node.toNat, h⟩ else ⟨0, by decide⟩
theorem nodeF_val {r : SdD} (h : 0 ≤ r.node ∧ r.node < 1048576) : ((nodeF r).val : Int) = r.node := by
  unfold nodeF; rw [dif_pos (by omega)]; simp; omega
theorem find_row : ∀ (rows : List SdD) (r : SdD), r ∈ rows → (rows.map (·.node)).Nodup → rows.find? (fun x => x.node == r.node) = some r
  | [], r, h, _ => by cases h
  | x :: rows, r, h, hn => by
    rw [List.map_cons, List.nodup_cons] at hn
    rcases List.mem_cons.1 h with rfl | h
    · simp
    · have hne : (x.node == r.node) = false := by
        rw [beq_eq_false_iff_ne]
        intro e
        exact hn.1 (by rw [e]; exact List.mem_map.2 ⟨r, h, rfl⟩)
      rw [List.find?_cons, hne]
      exact find_row rows r h hn.2
theorem rowOf_map {rows : List SdD} (hr : ∀ r ∈ rows, 0 ≤ r.node ∧ r.node < 1048576) (hn : (rows.map (·.node)).Nodup) : rows = (rows.map nodeF).map (rowOf rows) := by
  rw [List.map_map]
  conv => lhs; rw [← List.map_id rows]
  refine List.map_congr_left fun r hm => ?_
  show r = rowOf rows (nodeF r)
  unfold rowOf
  rw [nodeF_val (hr r hm), find_row rows r hm hn]
theorem sortD_map {rows : List SdD} (hr : ∀ r ∈ rows, 0 ≤ r.node ∧ r.node < 1048576) (hn : (rows.map (·.node)).Nodup) : ((rows.map nodeF).mergeSort fun x y => !(ltOf cmpN) y x).map (rowOf rows) = sortD rows := by
  have e := rowOf_map hr hn
  unfold sortD
  conv => rhs; rw [e]
  refine List.map_mergeSort fun a _ b _ => ?_
  rw [rowOf_node, rowOf_node, ltOf_cmpN]
  by_cases h : b.val < a.val
  · rw [decide_eq_true h, decide_eq_false (by omega)]; rfl
  · rw [decide_eq_false h, decide_eq_true (by omega)]; rfl
/-- slices.SortFunc, of what was said -/
theorem sort_said (w : World) (base : Nat) (v : Value) (rows : List SdD) (h : OwnC w base 42 2 sdL v rows) (hlen : rows.length ≤ 1048576) (hr : ∀ r ∈ rows, 0 ≤ r.node ∧ r.node < 1048576) (hn : (rows.map (·.node)).Nodup) :
    Calls Tryz.prog 41 #[v, .func (.func 42) #[] #[]] w fun e w' => e = .returned (.tuple #[]) ∧ OwnC w' base 42 2 sdL v (sortD rows) ∧ Keeps (fun k => v.ownBlock = some k) w w' := by
  obtain ⟨oa, cap, rfl⟩ := h.slice
  rcases h.2 with ⟨e, h0⟩ | ⟨g, cap', cur, e, _⟩
  · obtain rfl : rows = [] := List.length_eq_zero_iff.1 h0
    simp only [Value.slice.injEq] at e
    obtain ⟨rfl, -, rfl⟩ := e
    refine (AnyF.slices_SortFunc_none Tryz.sortSd none 0 (.func (.func 42) #[] #[]) w).mono ?_
    rintro e w' ⟨rfl, rfl⟩
    exact ⟨rfl, by rw [show sortD [] = [] from List.Perm.eq_nil (List.mergeSort_perm _ _)]; exact h, Keeps.refl _ _⟩
  · simp only [Value.slice.injEq] at e
    obtain ⟨rfl, -, rfl⟩ := e
    have hm := rowOf_map hr hn
    have hlm : (rows.map nodeF).length = rows.length := by simp
    have h' : OwnC w base 42 2 (fun i => sdL (rowOf rows i)) (.slice (some ⟨g, 0, none⟩) rows.length cap) (rows.map nodeF) := by rw [← OwnC.map, ← hm]; exact h
    obtain ⟨_, hH⟩ := holdsK_of_ownC (fun x => sdL_length _) (by decide) h'
    have hgz := ownC_lt h
    have hc : CmpLays Tryz.prog 42 #[] (fun i => sdL (rowOf rows i)) 2 cmpN g 0 (rows.map nodeF).toArray.size w := fun n d os hd x y => by
      have := cmp36_grow (sortWorldK (fun i => sdL (rowOf rows i)) 2 w g 0 n os d) (rowOf rows x) (rowOf rows y) (by rw [rowOf_node]; omega) (by rw [rowOf_node]; omega)
      rw [rowOf_node, rowOf_node] at this
      exact this
    have hcon := AnyQ.slices_SortFunc_total Tryz.sortSd 2 Tryz.isAgg42 Tryz.sizeOf42 (fun i => sdL (rowOf rows i)) (fun x => sdL_length _) (fun x v hv => by simp [sdL] at hv; rcases hv with rfl | rfl <;> rfl) cmpN swo_cmpN 42 #[] g 0 cap (rows.map nodeF).toArray w eg36 hc hH hgz (by simp; omega) parts_cmpN
    have e1 : (rows.map nodeF).toArray.size = rows.length := by simp
    rw [e1] at hcon
    refine Calls.mono hcon ?_
    rintro e w' ⟨rfl, n, os, rfl⟩
    obtain ⟨o1, k1⟩ := ownC_sorted (fun x => sdL_length _) (by decide) h' (ys := (rows.map nodeF).mergeSort fun x y => !(ltOf cmpN) y x) (List.mergeSort_perm _ _).length_eq n os
    rw [← OwnC.map, sortD_map hr hn] at o1
    exact ⟨rfl, o1, k1.mono fun k hk => by rw [hk]; rfl⟩
end Go.Proofs.YtmgpfmgmpmkkaaaGreat
