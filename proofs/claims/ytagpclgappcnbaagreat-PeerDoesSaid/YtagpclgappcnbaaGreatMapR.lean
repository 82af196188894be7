import Derived.Test.YtagpclgappcnbaaGreatWide
import Derived.Maps.RangeRun
namespace Go.Proofs.YtagpclgappcnbaaGreat
open Go.RowKit
open Go.ChangeMaps (setBlock)

/-! ### maps whose stamps are unlike, and ranges over them -/
section
variable {α ν : Type} {ek : α → Value} {enc : ν → Value}
def StampOK (es : List MapEntry) (clk : Nat) : Prop := (es.map (·.born)).Nodup ∧ ∀ e ∈ es, e.born < clk
def MapB (w : World) (m : Nat) (ek : α → Value) (enc : ν → Value) (L : List (α × ν)) : Prop :=
  ∃ es clk, obj w m = some (.map es clk) ∧ RepK ek enc es.toList L ∧ StampOK es.toList clk
theorem MapB.mapK {w : World} {m : Nat} {L : List (α × ν)} (h : MapB w m ek enc L) : MapK w m ek enc L := by
  obtain ⟨es, clk, h1, h2, _⟩ := h
  exact ⟨es, clk, h1, h2⟩
theorem MapB.of_obj {w W : World} {m : Nat} {L : List (α × ν)} (h : MapB w m ek enc L) (e : obj W m = obj w m) : MapB W m ek enc L := by
  obtain ⟨es, clk, h1, h2⟩ := h
  exact ⟨es, clk, e.trans h1, h2⟩
theorem MapB.lt {w : World} {m : Nat} {L : List (α × ν)} (h : MapB w m ek enc L) : m < w.heap.size := h.mapK.lt
theorem MapB.made_at (w : World) {m : Nat} (h : m = w.heap.size) (ek : α → Value) (enc : ν → Value) : MapB (w.alloc (.map #[] 0)) m ek enc ([] : List (α × ν)) := by
  subst h
  exact ⟨#[], 0, obj_alloc_at _ _ _ rfl, trivial, by simp [StampOK]⟩
theorem map_born_modify (l : List MapEntry) (i : Nat) (f : MapEntry → MapEntry) (hf : ∀ e, (f e).born = e.born) : (l.modify i f).map (·.born) = l.map (·.born) := by
  induction l generalizing i with
  | nil => cases i <;> rfl
  | cons e l ih =>
    cases i with
    | zero => simp [hf]
    | succ i => simp [ih]
theorem run_mapUpdate_b [DecidableEq α] {P : Program} {t kt et : TypeId} {L : List (α × ν)} (K : KeyOK P kt ek) (ht : P.underlying t = some (.map kt et))
    {es : Array MapEntry} {clk : Nat} (hr : RepK ek enc es.toList L) (hs : StampOK es.toList clk) (m : Nat) (k : α) (v : ν) : ∃ es' clk', (∀ w : World, obj w m = some (.map es clk) → (Instr.mapUpdate t (.map (some m)) (ek k) (enc v)).run P w = .ok () (putObj w m (.map es' clk'))) ∧
      RepK ek enc es'.toList (kPut k v L) ∧ StampOK es'.toList clk' := by
  cases hi : kIdx k L 0 with
  | none =>
    obtain ⟨g1, _⟩ := RepK.absent k hr hi
    refine ⟨es.push { key := ek k, val := enc v, born := clk }, clk + 1, fun w hb => ?_, by simpa using g1 v clk, ?_⟩
    · simp only [Instr.mapUpdate, Sem.run_bind, run_underlying ht, Result.andThen_ok, MapKept.run_getObj_map hb, K.check, K.find _ _ _ _ _ _ hr, hi, Option.map_none,
        MapKept.run_setObj_map _ hb, putObj]
    · obtain ⟨h1, h2⟩ := hs
      constructor
      · simp only [Array.toList_push, List.map_append, List.map_cons, List.map_nil]
        rw [List.nodup_append]
        refine ⟨h1, by simp, ?_⟩
        intro a ha b hb
        simp at hb
        subst hb
        obtain ⟨e, he, rfl⟩ := List.mem_map.1 ha
        have := h2 e he
        omega
      · intro e he
        simp only [Array.toList_push, List.mem_append, List.mem_singleton] at he
        rcases he with he | rfl
        · have := h2 e he; omega
        · exact Nat.lt_succ_self _
  | some x =>
    obtain ⟨i, u⟩ := x
    obtain ⟨e, g1, g2, g3, _⟩ := RepK.found k hr hi
    have g1' : es[i]? = some e := by simpa using g1
    refine ⟨es.modify i fun e => { e with key := ek k, val := enc v }, clk, fun w hb => ?_, by simpa using g3 v, ?_⟩
    · simp only [Instr.mapUpdate, Sem.run_bind, run_underlying ht, Result.andThen_ok, MapKept.run_getObj_map hb, K.check, K.find _ _ _ _ _ _ hr, hi, Option.map_some,
        g1', Option.getD_some, g2, Instr.keyThatStays, K.stays, if_true, Sem.run_pure, MapKept.run_setObj_map _ hb, putObj]
    · obtain ⟨h1, h2⟩ := hs
      constructor
      · have hb := map_born_modify es.toList i (fun e => { e with key := ek k, val := enc v }) (fun _ => rfl)
        rw [Array.toList_modify, hb]; exact h1
      · intro e' he'
        have hmem : e'.born ∈ (es.modify i fun e => { e with key := ek k, val := enc v }).toList.map (·.born) := List.mem_map.2 ⟨e', he', rfl⟩
        have hb := map_born_modify es.toList i (fun e => { e with key := ek k, val := enc v }) (fun _ => rfl)
        rw [Array.toList_modify, hb] at hmem
        obtain ⟨e2, h3, h4⟩ := List.mem_map.1 hmem
        have := h2 e2 h3
        omega
/-- a range under way: what is still to come -/
def RngB (w : World) (r m : Nat) (ek : α → Value) (enc : ν → Value) (L todo : List (α × ν)) : Prop :=
  ∃ es clk since seen c0, obj w m = some (.map es clk) ∧ RepK ek enc es.toList L ∧ (es.toList.map (·.born)).Nodup ∧ (∀ e ∈ es.toList, e.born < since) ∧ since ≤ c0 ∧ since ≤ clk ∧
    obj w r = some (.mapIter (some m) since seen c0) ∧ RepK ek enc (leftOf es seen).toList todo
theorem RngB.of_obj {w W : World} {r m : Nat} {L todo : List (α × ν)} (h : RngB w r m ek enc L todo) (e1 : obj W m = obj w m) (e2 : obj W r = obj w r) : RngB W r m ek enc L todo := by
  obtain ⟨es, clk, since, seen, c0, h1, h2, h3, h4, h5, h8, h6, h7⟩ := h
  exact ⟨es, clk, since, seen, c0, e1.trans h1, h2, h3, h4, h5, h8, e2.trans h6, h7⟩
theorem RngB.lts {w : World} {r m : Nat} {L todo : List (α × ν)} (h : RngB w r m ek enc L todo) : m < w.heap.size ∧ r < w.heap.size ∧ r ≠ m := by
  obtain ⟨es, clk, since, seen, c0, h1, h2, h3, h4, h5, h8, h6, h7⟩ := h
  refine ⟨lt_of_obj h1, lt_of_obj h6, fun e => ?_⟩
  subst e
  rw [h1] at h6
  cases h6
theorem RngB.mapB {w : World} {r m : Nat} {L todo : List (α × ν)} (h : RngB w r m ek enc L todo) : MapK w m ek enc L := by
  obtain ⟨es, clk, since, seen, c0, h1, h2, _⟩ := h
  exact ⟨es, clk, h1, h2⟩
theorem RepK.get {es : List MapEntry} {L : List (α × ν)} (h : RepK ek enc es L) (i : Nat) (e : MapEntry) (he : es[i]? = some e) : ∃ h : i < L.length, e.key = ek (L[i]).1 ∧ e.val = enc (L[i]).2 := by
  induction es generalizing L i with
  | nil => simp at he
  | cons x es ih =>
    cases L with
    | nil => exact h.elim
    | cons y L =>
      cases i with
      | zero => simp at he; subst he; exact ⟨by simp, h.1.1, h.1.2⟩
      | succ i =>
        obtain ⟨h1, h2⟩ := ih h.2 i (by simpa using he)
        exact ⟨by simpa using h1, by simpa using h2⟩
theorem RepK.eraseIdx {es : List MapEntry} {L : List (α × ν)} (h : RepK ek enc es L) (i : Nat) : RepK ek enc (es.eraseIdx i) (L.eraseIdx i) := by
  induction es generalizing L i with
  | nil => cases L with
    | nil => trivial
    | cons _ _ => exact h.elim
  | cons x es ih =>
    cases L with
    | nil => exact h.elim
    | cons y L =>
      cases i with
      | zero => exact h.2
      | succ i => exact ⟨h.1, ih h.2 i⟩
theorem filter_born {l : List MapEntry} (hn : (l.map (·.born)).Nodup) {i : Nat} {e : MapEntry} (he : l[i]? = some e) : l.filter (fun x => x.born != e.born) = l.eraseIdx i := by
  induction l generalizing i with
  | nil => simp at he
  | cons x l ih =>
    rw [List.map_cons, List.nodup_cons] at hn
    cases i with
    | zero =>
      simp at he
      subst he
      rw [List.filter_cons, if_neg (by simp), List.eraseIdx_cons_zero, List.filter_eq_self]
      intro y hy
      simp only [bne_iff_ne, ne_eq]
      intro hb
      exact hn.1 (List.mem_map.2 ⟨y, hy, hb⟩)
    | succ i =>
      have he' : l[i]? = some e := by simpa using he
      rw [List.filter_cons, if_pos, List.eraseIdx_cons_succ, ih hn.2 he']
      simp only [bne_iff_ne, ne_eq]
      intro hb
      exact hn.1 (List.mem_map.2 ⟨e, List.mem_of_getElem? he', hb.symm⟩)
section
variable {P : Program} {ops : Array Oper} {rest : List Oper} {o : Oper} {a : Act} {w : World} {Q : Exit → Act → World → Prop}
theorem wpList_rangeB (hg : o.guard = none) (mo : Operand) {t kt et : TypeId} (hop : o.op = Op.range t mo) (ht : P.underlying t = some (.map kt et)) {m : Nat} {L : List (α × ν)} (hm : a.eval mo = .map (some m)) (h : MapB w m ek enc L)
    (hK : ∀ w', RngB w' w.heap.size m ek enc L L → (∃ s c0, w' = w.alloc (.mapIter (some m) s #[] c0)) → wpList P ops Q rest (a.put o.dst (.pointer (some ⟨w.heap.size, 0, none⟩))) w') : wpList P ops Q (o :: rest) a w := by
  obtain ⟨es, clk, h1, h2, h3, h4⟩ := h
  refine wpList_plain hg fun K' hK' => ?_
  have hrun := run_range_map w t kt et m es clk ht h1
  unfold Oper.wp
  simp [execOp, hop, hm, hrun, Result.andThen]
  refine hK' _ _ (hK _ ⟨es, clk, clk, #[], clk, (obj_alloc_past _ _ _ (lt_of_obj h1)).trans h1, h2, h3, h4, Nat.le_refl _, Nat.le_refl _, obj_alloc_at _ _ _ rfl, ?_⟩ ⟨_, _, rfl⟩)
  have : leftOf es #[] = es := by unfold leftOf; simp
  rw [this]; exact h2
theorem wpList_nextB (hg : o.guard = none) (it : Operand) (hop : o.op = Op.next it false) {r m : Nat} {L todo : List (α × ν)} (hit : a.eval it = .pointer (some ⟨r, 0, none⟩)) (h : RngB w r m ek enc L todo)
    (hDone : todo = [] → wpList P ops Q rest (a.put o.dst (.tuple #[.bool false])) w)
    (hMore : ∀ (i : Nat) (hi : i < todo.length) (w' : World), RngB w' r m ek enc L (todo.eraseIdx i) → Keeps (fun k => k = r) w w' → w'.heap.size = w.heap.size → (Instr.entry (.pointer (some ⟨r, 0, none⟩))).run P w' = .ok (.tuple #[ek todo[i].1, enc todo[i].2]) w' →
      wpList P ops Q rest (a.put o.dst (.tuple #[.bool true, ek todo[i].1, enc todo[i].2])) w') : wpList P ops Q (o :: rest) a w := by
  obtain ⟨es, clk, since, seen, c0, h1, h2, h3, h4, h5, h8, h6, h7⟩ := h
  refine wpList_plain hg fun K' hK' => ?_
  unfold Oper.wp
  rcases run_next_at (P := P) w o.type r m since c0 seen es clk h6 h1 h4 h5 with ⟨h0, hrun⟩ | ⟨e, he, w1, hw1, hrun⟩
  · have ht : todo = [] := by
      have := h7.length
      rw [Array.length_toList, h0] at this
      exact List.eq_nil_of_length_eq_zero this.symm
    simp [execOp, hop, hit, hrun, Result.andThen]
    exact hK' _ _ (hDone ht)
  · obtain ⟨i, hi⟩ := List.getElem?_of_mem he
    obtain ⟨hlt, hk, hv⟩ := h7.get i e hi
    have hee : e ∈ es.toList := by
      have : e ∈ (leftOf es seen) := by simpa using he
      unfold leftOf at this
      have := (Array.mem_filter.1 this).1
      simpa using this
    have k1 : Keeps (fun k => k = r) w w1 := by
      rcases hw1 with rfl | rfl
      · exact Keeps.refl _ _
      · exact (Keeps.refl _ _).drew
    have hr1 : w1.heap = w.heap := by rcases hw1 with rfl | rfl <;> rfl
    have hb : setBlock w1 r (.mapIter (some m) since (seen.push e.born) clk) = putObj w1 r (.mapIter (some m) since (seen.push e.born) clk) := rfl
    have hm1 : obj w1 m = some (.map es clk) := by unfold obj; rw [hr1]; exact h1
    have hrl : r < w1.heap.size := by rw [hr1]; exact lt_of_obj h6
    have hrm : m ≠ r := fun e' => by subst e'; rw [h1] at h6; cases h6
    have hrg : RngB (setBlock w1 r (.mapIter (some m) since (seen.push e.born) clk)) r m ek enc L (todo.eraseIdx i) := by
      rw [hb]
      refine ⟨es, clk, since, seen.push e.born, clk, (obj_putObj_ne _ _ _ _ hrm).trans hm1, h2, h3, h4, h8, h8, obj_putObj_eq _ _ _ hrl, ?_⟩
      · have hl : (leftOf es (seen.push e.born)).toList = (leftOf es seen).toList.eraseIdx i := by
          have hn : ((leftOf es seen).toList.map (·.born)).Nodup := by
            unfold leftOf
            rw [Array.toList_filter]
            exact List.Nodup.sublist (List.Sublist.map _ List.filter_sublist) h3
          rw [← filter_born hn hi]
          unfold leftOf
          rw [Array.toList_filter, Array.toList_filter, List.filter_filter]
          congr 1
          funext x
          rw [Bool.eq_iff_iff]
          simp
          constructor
          · intro hh; exact ⟨hh.2, hh.1⟩
          · intro hh; exact ⟨hh.2, hh.1⟩
        rw [hl]
        exact h7.eraseIdx i
    simp [execOp, hop, hit, hrun, Result.andThen]
    have hen : (Instr.entry (.pointer (some ⟨r, 0, none⟩))).run P (setBlock w1 r (.mapIter (some m) since (seen.push e.born) clk)) = .ok (.tuple #[ek todo[i].1, enc todo[i].2]) (setBlock w1 r (.mapIter (some m) since (seen.push e.born) clk)) := by
      rw [← hk, ← hv]
      refine run_entry_at (P := P) _ r m since seen es clk e ?_ ?_ hee h3
      · rw [hb]; exact obj_putObj_eq _ _ _ hrl
      · rw [hb]; exact (obj_putObj_ne _ _ _ _ hrm).trans hm1
    have := hMore i hlt _ hrg (by rw [hb]; exact k1.putObj rfl _) (by rw [hb, size_putObj, hr1]) hen
    rw [← hk, ← hv] at this
    exact hK' _ _ this
end
end
end Go.Proofs.YtagpclgappcnbaaGreat
