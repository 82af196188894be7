import Derived.Test.YtfejhekoijemdaaWide
import Derived.Maps.RangeRun
import Derived.WideKeyEntry
namespace Go.Proofs.Ytfejhekoijemdaa
open Go.RowKit
open Go.ChangeMaps (setBlock)

/-! ### maps whose stamps are unlike, and ranges over them -/
section
variable {α ν : Type} {ek : α → Value} {enc : ν → Value}
def StampOK (es : List MapEntry) (clk : Nat) : Prop := (es.map (·.born)).Nodup ∧ ∀ e ∈ es, e.born < clk
def MapB (w : World) (m : Nat) (ek : α → Value) (enc : ν → Value) (L : List (α × ν)) : Prop :=
  ∃ es clk, obj w m = some (.map es clk) ∧ RepK ek enc es.toList L ∧ StampOK es.toList clk
theorem MapB.mapK {w : World} {m : Nat} {L : List (α × ν)} (h : MapB w m ek enc L) : MapK w m ek enc L := by
  obtain ⟨es, clk, h1, h2, _⟩ := h
  exact ⟨es, clk, h1, h2⟩
theorem MapB.of_obj {w W : World} {m : Nat} {L : List (α × ν)} (h : MapB w m ek enc L) (e : obj W m = obj w m) : MapB W m ek enc L := by
  obtain ⟨es, clk, h1, h2⟩ := h
  exact ⟨es, clk, e.trans h1, h2⟩
theorem MapB.lt {w : World} {m : Nat} {L : List (α × ν)} (h : MapB w m ek enc L) : m < w.heap.size := h.mapK.lt
theorem MapB.made_at (w : World) {m : Nat} (h : m = w.heap.size) (ek : α → Value) (enc : ν → Value) : MapB (w.alloc (.map #[] 0)) m ek enc ([] : List (α × ν)) := by
  subst h
  exact ⟨#[], 0, obj_alloc_at _ _ _ rfl, trivial, by simp [StampOK]⟩
theorem map_born_modify (l : List MapEntry) (i : Nat) (f : MapEntry → MapEntry) (hf : ∀ e, (f e).born = e.born) : (l.modify i f).map (·.born) = l.map (·.born) := by
  induction l generalizing i with
  | nil => cases i <;> rfl
  | cons e l ih =>
    cases i with
    | zero => simp [hf]
    | succ i => simp [ih]
theorem run_mapUpdate_b [DecidableEq α] {P : Program} {t kt et : TypeId} {L : List (α × ν)} (K : KeyOK P kt ek) (ht : P.underlying t = some (.map kt et))
    {es : Array MapEntry} {clk : Nat} (hr : RepK ek enc es.toList L) (hs : StampOK es.toList clk) (m : Nat) (k : α) (v : ν) : ∃ es' clk', (∀ w : World, obj w m = some (.map es clk) → (Instr.mapUpdate t (.map (some m)) (ek k) (enc v)).run P w = .ok () (putObj w m (.map es' clk'))) ∧
      RepK ek enc es'.toList (kPut k v L) ∧ StampOK es'.toList clk' := by
  cases hi : kIdx k L 0 with
  | none =>
    obtain ⟨g1, _⟩ := RepK.absent k hr hi
    refine ⟨es.push { key := ek k, val := enc v, born := clk }, clk + 1, fun w hb => ?_, by simpa using g1 v clk, ?_⟩
    · simp only [Instr.mapUpdate, Sem.run_bind, run_underlying ht, Result.andThen_ok, MapKept.run_getObj_map hb, K.check, K.find _ _ _ _ _ _ hr, hi, Option.map_none,
        MapKept.run_setObj_map _ hb, putObj]
    · obtain ⟨h1, h2⟩ := hs
      constructor
      · simp only [Array.toList_push, List.map_append, List.map_cons, List.map_nil]
        rw [List.nodup_append]
        refine ⟨h1, by simp, ?_⟩
        intro a ha b hb
        simp at hb
        subst hb
        obtain ⟨e, he, rfl⟩ := List.mem_map.1 ha
        have := h2 e he
        omega
      · intro e he
        simp only [Array.toList_push, List.mem_append, List.mem_singleton] at he
        rcases he with he | rfl
        · have := h2 e he; omega
        · exact Nat.lt_succ_self _
  | some x =>
    obtain ⟨i, u⟩ := x
    obtain ⟨e, g1, g2, g3, _⟩ := RepK.found k hr hi
    have g1' : es[i]? = some e := by simpa using g1
    refine ⟨es.modify i fun e => { e with key := ek k, val := enc v }, clk, fun w hb => ?_, by simpa using g3 v, ?_⟩
    · simp only [Instr.mapUpdate, Sem.run_bind, run_underlying ht, Result.andThen_ok, MapKept.run_getObj_map hb, K.check, K.find _ _ _ _ _ _ hr, hi, Option.map_some,
        g1', Option.getD_some, g2, Instr.keyThatStays, K.stays, if_true, Sem.run_pure, MapKept.run_setObj_map _ hb, putObj]
    · obtain ⟨h1, h2⟩ := hs
      constructor
      · have hb := map_born_modify es.toList i (fun e => { e with key := ek k, val := enc v }) (fun _ => rfl)
        rw [Array.toList_modify, hb]; exact h1
      · intro e' he'
        have hmem : e'.born ∈ (es.modify i fun e => { e with key := ek k, val := enc v }).toList.map (·.born) := List.mem_map.2 ⟨e', he', rfl⟩
        have hb := map_born_modify es.toList i (fun e => { e with key := ek k, val := enc v }) (fun _ => rfl)
        rw [Array.toList_modify, hb] at hmem
        obtain ⟨e2, h3, h4⟩ := List.mem_map.1 hmem
        have := h2 e2 h3
        omega
/-- a range under way: what is still to come -/
def RngB (w : World) (r m : Nat) (ek : α → Value) (enc : ν → Value) (L todo : List (α × ν)) : Prop :=
  ∃ es clk since seen c0, obj w m = some (.map es clk) ∧ RepK ek enc es.toList L ∧ (es.toList.map (·.born)).Nodup ∧ (∀ e ∈ es.toList, e.born < since) ∧ since ≤ c0 ∧ since ≤ clk ∧
    obj w r = some (.mapIter (some m) since seen c0) ∧ RepK ek enc (leftOf es seen).toList todo
theorem RngB.of_obj {w W : World} {r m : Nat} {L todo : List (α × ν)} (h : RngB w r m ek enc L todo) (e1 : obj W m = obj w m) (e2 : obj W r = obj w r) : RngB W r m ek enc L todo := by
  obtain ⟨es, clk, since, seen, c0, h1, h2, h3, h4, h5, h8, h6, h7⟩ := h
  exact ⟨es, clk, since, seen, c0, e1.trans h1, h2, h3, h4, h5, h8, e2.trans h6, h7⟩
theorem RngB.lts {w : World} {r m : Nat} {L todo : List (α × ν)} (h : RngB w r m ek enc L todo) : m < w.heap.size ∧ r < w.heap.size ∧ r ≠ m := by
  obtain ⟨es, clk, since, seen, c0, h1, h2, h3, h4, h5, h8, h6, h7⟩ := h
  refine ⟨lt_of_obj h1, lt_of_obj h6, fun e => ?_⟩
  subst e
  rw [h1] at h6
  cases h6
theorem RngB.mapB {w : World} {r m : Nat} {L todo : List (α × ν)} (h : RngB w r m ek enc L todo) : MapK w m ek enc L := by
  obtain ⟨es, clk, since, seen, c0, h1, h2, _⟩ := h
  exact ⟨es, clk, h1, h2⟩
theorem RepK.get {es : List MapEntry} {L : List (α × ν)} (h : RepK ek enc es L) (i : Nat) (e : MapEntry) (he : es[i]? = some e) : ∃ h : i < L.length, e.key = ek (L[i]).1 ∧ e.val = enc (L[i]).2 := by
  induction es generalizing L i with
  | nil => simp at he
  | cons x es ih =>
    cases L with
    | nil => exact h.elim
    | cons y L =>
      cases i with
      | zero => simp at he; subst he; exact ⟨by simp, h.1.1, h.1.2⟩
      | succ i =>
        obtain ⟨h1, h2⟩ := ih h.2 i (by simpa using he)
        exact ⟨by simpa using h1, by simpa using h2⟩
theorem RepK.eraseIdx {es : List MapEntry} {L : List (α × ν)} (h : RepK ek enc es L) (i : Nat) : RepK ek enc (es.eraseIdx i) (L.eraseIdx i) := by
  induction es generalizing L i with
  | nil => cases L with
    | nil => trivial
    | cons _ _ => exact h.elim
  | cons x es ih =>
    cases L with
    | nil => exact h.elim
    | cons y L =>
      cases i with
      | zero => exact h.2
      | succ i => exact ⟨h.1, ih h.2 i⟩
theorem filter_born {l : List MapEntry} (hn : (l.map (·.born)).Nodup) {i : Nat} {e : MapEntry} (he : l[i]? = some e) : l.filter (fun x => x.born != e.born) = l.eraseIdx i := by
  induction l generalizing i with
  | nil => simp at he
  | cons x l ih =>
    rw [List.map_cons, List.nodup_cons] at hn
    cases i with
    | zero =>
      simp at he
      subst he
      rw [List.filter_cons, if_neg (by simp), List.eraseIdx_cons_zero, List.filter_eq_self]
      intro y hy
      simp only [bne_iff_ne, ne_eq]
      intro hb
      exact hn.1 (List.mem_map.2 ⟨y, hy, hb⟩)
    | succ i =>
      have he' : l[i]? = some e := by simpa using he
      rw [List.filter_cons, if_pos, List.eraseIdx_cons_succ, ih hn.2 he']
      simp only [bne_iff_ne, ne_eq]
      intro hb
      exact hn.1 (List.mem_map.2 ⟨e, List.mem_of_getElem? he', hb.symm⟩)
section
variable {P : Program} {ops : Array Oper} {rest : List Oper} {o : Oper} {a : Act} {w : World} {Q : Exit → Act → World → Prop}
theorem wpList_rangeB (hg : o.guard = none) (mo : Operand) {t kt et : TypeId} (hop : o.op = Op.range t mo) (ht : P.underlying t = some (.map kt et)) {m : Nat} {L : List (α × ν)} (hm : a.eval mo = .map (some m)) (h : MapB w m ek enc L)
    (hK : ∀ w', RngB w' w.heap.size m ek enc L L → (∃ s c0, w' = w.alloc (.mapIter (some m) s #[] c0)) → wpList P ops Q rest (a.put o.dst (.pointer (some ⟨w.heap.size, 0, none⟩))) w') : wpList P ops Q (o :: rest) a w := by
  obtain ⟨es, clk, h1, h2, h3, h4⟩ := h
  refine wpList_plain hg fun K' hK' => ?_
  have hrun := run_range_map w t kt et m es clk ht h1
  unfold Oper.wp
  simp [execOp, hop, hm, hrun, Result.andThen]
  refine hK' _ _ (hK _ ⟨es, clk, clk, #[], clk, (obj_alloc_past _ _ _ (lt_of_obj h1)).trans h1, h2, h3, h4, Nat.le_refl _, Nat.le_refl _, obj_alloc_at _ _ _ rfl, ?_⟩ ⟨_, _, rfl⟩)
  have : leftOf es #[] = es := by unfold leftOf; simp
  rw [this]; exact h2
theorem wpList_nextB (hg : o.guard = none) (it : Operand) (hop : o.op = Op.next it false) {r m : Nat} {L todo : List (α × ν)} (hit : a.eval it = .pointer (some ⟨r, 0, none⟩)) (h : RngB w r m ek enc L todo)
    (hDone : todo = [] → wpList P ops Q rest (a.put o.dst (.tuple #[.bool false])) w)
    (hMore : ∀ (i : Nat) (hi : i < todo.length) (w' : World), RngB w' r m ek enc L (todo.eraseIdx i) → Keeps (fun k => k = r) w w' → w'.heap.size = w.heap.size → (Instr.entry (.pointer (some ⟨r, 0, none⟩))).run P w' = .ok (.tuple #[ek todo[i].1, enc todo[i].2]) w' →
      wpList P ops Q rest (a.put o.dst (.tuple #[.bool true, ek todo[i].1, enc todo[i].2])) w') : wpList P ops Q (o :: rest) a w := by
  obtain ⟨es, clk, since, seen, c0, h1, h2, h3, h4, h5, h8, h6, h7⟩ := h
  refine wpList_plain hg fun K' hK' => ?_
  unfold Oper.wp
  rcases run_next_at (P := P) w o.type r m since c0 seen es clk h6 h1 h4 h5 with ⟨h0, hrun⟩ | ⟨e, he, w1, hw1, hrun⟩
  · have ht : todo = [] := by
      have := h7.length
      rw [Array.length_toList, h0] at this
      exact List.eq_nil_of_length_eq_zero this.symm
    simp [execOp, hop, hit, hrun, Result.andThen]
    exact hK' _ _ (hDone ht)
  · obtain ⟨i, hi⟩ := List.getElem?_of_mem he
    obtain ⟨hlt, hk, hv⟩ := h7.get i e hi
    have hee : e ∈ es.toList := by
      have : e ∈ (leftOf es seen) := by simpa using he
      unfold leftOf at this
      have := (Array.mem_filter.1 this).1
      simpa using this
    have k1 : Keeps (fun k => k = r) w w1 := by
      rcases hw1 with rfl | rfl
      · exact Keeps.refl _ _
      · exact (Keeps.refl _ _).drew
    have hr1 : w1.heap = w.heap := by rcases hw1 with rfl | rfl <;> rfl
    have hb : setBlock w1 r (.mapIter (some m) since (seen.push e.born) clk) = putObj w1 r (.mapIter (some m) since (seen.push e.born) clk) := rfl
    have hm1 : obj w1 m = some (.map es clk) := by unfold obj; rw [hr1]; exact h1
    have hrl : r < w1.heap.size := by rw [hr1]; exact lt_of_obj h6
    have hrm : m ≠ r := fun e' => by subst e'; rw [h1] at h6; cases h6
    have hrg : RngB (setBlock w1 r (.mapIter (some m) since (seen.push e.born) clk)) r m ek enc L (todo.eraseIdx i) := by
      rw [hb]
      refine ⟨es, clk, since, seen.push e.born, clk, (obj_putObj_ne _ _ _ _ hrm).trans hm1, h2, h3, h4, h8, h8, obj_putObj_eq _ _ _ hrl, ?_⟩
      · have hl : (leftOf es (seen.push e.born)).toList = (leftOf es seen).toList.eraseIdx i := by
          have hn : ((leftOf es seen).toList.map (·.born)).Nodup := by
            unfold leftOf
            rw [Array.toList_filter]
            exact List.Nodup.sublist (List.Sublist.map _ List.filter_sublist) h3
          rw [← filter_born hn hi]
          unfold leftOf
          rw [Array.toList_filter, Array.toList_filter, List.filter_filter]
          congr 1
          funext x
          rw [Bool.eq_iff_iff]
          simp
          constructor
          · intro hh; exact ⟨hh.2, hh.1⟩
          · intro hh; exact ⟨hh.2, hh.1⟩
        rw [hl]
        exact h7.eraseIdx i
    simp [execOp, hop, hit, hrun, Result.andThen]
    have hen : (Instr.entry (.pointer (some ⟨r, 0, none⟩))).run P (setBlock w1 r (.mapIter (some m) since (seen.push e.born) clk)) = .ok (.tuple #[ek todo[i].1, enc todo[i].2]) (setBlock w1 r (.mapIter (some m) since (seen.push e.born) clk)) := by
      rw [← hk, ← hv]
      refine run_entry_at (P := P) _ r m since seen es clk e ?_ ?_ hee h3
      · rw [hb]; exact obj_putObj_eq _ _ _ hrl
      · rw [hb]; exact (obj_putObj_ne _ _ _ _ hrm).trans hm1
    have := hMore i hlt _ hrg (by rw [hb]; exact k1.putObj rfl _) (by rw [hb, size_putObj, hr1]) hen
    rw [← hk, ← hv] at this
    exact hK' _ _ this
end
end
end Go.Proofs.Ytfejhekoijemdaa
namespace Go.Proofs.Ytfejhekoijemdaa
open Go.RowKit
open Go.ChangeMaps (setBlock)

/-! ### an entry that is read and stored again: `m[k] += n` -/
section
variable {α ν : Type} {ek : α → Value} {enc : ν → Value}
theorem modify_key (es : Array MapEntry) (i : Nat) (e : MapEntry) (he : es[i]? = some e) (k : Value) (hk : e.key = k) : es.modify i (fun x => { x with key := k }) = es := by
  apply Array.ext'
  rw [Array.toList_modify]
  have h2 : es.toList[i]? = some e := by simpa using he
  apply List.ext_getElem?
  intro j
  rw [List.getElem?_modify]
  by_cases hij : i = j
  · subst hij
    rw [h2]
    subst hk
    simp
  · simp [hij]
theorem modify_val (es : Array MapEntry) (i : Nat) (e : MapEntry) (he : es[i]? = some e) (k v : Value) (hk : e.key = k) : es.modify i (fun x => { x with val := v }) = es.modify i (fun x => { x with key := k, val := v }) := by
  apply Array.ext'
  rw [Array.toList_modify, Array.toList_modify]
  have h2 : es.toList[i]? = some e := by simpa using he
  apply List.ext_getElem?
  intro j
  rw [List.getElem?_modify, List.getElem?_modify]
  by_cases hij : i = j
  · subst hij
    rw [h2]
    subst hk
    simp
  · simp [hij]
theorem run_entry_b [DecidableEq α] {P : Program} {t kt et : TypeId} {L : List (α × ν)} (K : KeyOK P kt ek) (ht : P.underlying t = some (.map kt et)) {vz : ν} (hz : ∀ u : World, (zeroValue et).run P u = .ok (enc vz) u)
    {es : Array MapEntry} {clk : Nat} (hr : RepK ek enc es.toList L) (hs : StampOK es.toList clk) (m : Nat) (k : α) (v : ν) : ∃ (st : Nat) (es1 : Array MapEntry) (clk1 : Nat) (es' : Array MapEntry) (clk' : Nat),
      (∀ w : World, obj w m = some (.map es clk) → (Instr.mapEntry t (.map (some m)) (ek k)).run P w = .ok (.tuple #[enc ((kGet k L).getD vz), .int .i64 st]) (putObj w m (.map es1 clk1))) ∧
      (∀ w : World, obj w m = some (.map es clk) → (Instr.lookup t (.map (some m)) (ek k) false).run P w = .ok (enc ((kGet k L).getD vz)) w) ∧
      (∀ w : World, obj w m = some (.map es1 clk1) → (Instr.lookup t (.map (some m)) (ek k) false).run P w = .ok (enc ((kGet k L).getD vz)) w) ∧
      (∀ w : World, obj w m = some (.map es1 clk1) → (Instr.entryStore t (.map (some m)) (.int .i64 st) (enc v)).run P w = .ok () (putObj w m (.map es' clk'))) ∧
      RepK ek enc es'.toList (kPut k v L) ∧ StampOK es'.toList clk' := by
  have hlook : ∀ (es2 : Array MapEntry) (clk2 : Nat) (L2 : List (α × ν)), RepK ek enc es2.toList L2 → (kGet k L2).getD vz = (kGet k L).getD vz → ∀ w : World, obj w m = some (.map es2 clk2) → (Instr.lookup t (.map (some m)) (ek k) false).run P w = .ok (enc ((kGet k L).getD vz)) w := by
    intro es2 clk2 L2 h2 h3 w hb
    have h := run_lookup1_k K ht hz ⟨es2, clk2, hb, h2⟩ k
    rw [h, ← h3]
    cases kGet k L2 <;> rfl
  cases hi : kIdx k L 0 with
  | none =>
    obtain ⟨g1, _⟩ := RepK.absent k hr hi
    have hg : kGet k L = none := by rw [← kIdx_get k L 0, hi]; rfl
    obtain ⟨s1, s2⟩ := hs
    have hnd : ((es.push ⟨ek k, enc vz, clk⟩).toList.map (·.born)).Nodup := by
      simp only [Array.toList_push, List.map_append, List.map_cons, List.map_nil]
      refine List.nodup_append.2 ⟨s1, by simp, fun a ha c hc e1 => ?_⟩
      simp only [List.mem_singleton] at hc
      obtain ⟨x, hx, rfl⟩ := List.mem_map.1 ha
      have := s2 x hx
      omega
    have hgz : (kGet k (kPut k vz L)).getD vz = (kGet k L).getD vz := by
      rw [hg]
      have : ∀ L : List (α × ν), kGet k (kPut k vz L) = some vz := by
        intro L
        induction L with
        | nil => simp [kPut, kGet]
        | cons x L ih =>
          obtain ⟨j, u⟩ := x
          unfold kPut
          by_cases hj : k = j
          · rw [if_pos hj]; simp [kGet, hj]
          · rw [if_neg hj]; simp only [kGet]; rw [if_neg hj]; exact ih
      rw [this]; rfl
    refine ⟨clk, es.push ⟨ek k, enc vz, clk⟩, clk + 1, es.push ⟨ek k, enc v, clk⟩, clk + 1, fun w hb => ?_, hlook es clk L hr rfl, hlook _ _ (kPut k vz L) (by simpa using g1 vz clk) hgz, fun w hb => ?_, by simpa using g1 v clk, ?_⟩
    · simp only [Instr.mapEntry, Sem.run_bind, run_underlying ht, Result.andThen_ok, MapKept.run_getObj_map hb, K.check, K.find _ _ _ _ _ _ hr, hi, Option.map_none, hz,
        MapKept.run_setObj_map _ hb, putObj, hg]
      rfl
    · have hidx : (es.push ⟨ek k, enc vz, clk⟩).findIdx? (fun e => ((e.born : Nat) : Int) == ((clk : Nat) : Int)) = some es.size := by
        rw [Go.WideElems.findIdx_arr]
        exact Go.WideElems.findIdx_born (l := (es.push ⟨ek k, enc vz, clk⟩).toList) (j := es.size) (e0 := ⟨ek k, enc vz, clk⟩) hnd (by simp)
      have hmod : (es.push ⟨ek k, enc vz, clk⟩).modify es.size (fun e => { e with val := enc v }) = es.push ⟨ek k, enc v, clk⟩ := by
        apply Array.ext'
        rw [Array.toList_modify, Array.toList_push, Array.toList_push, ← Array.length_toList, Go.WideElems.modify_last]
      simp [Instr.entryStore, MapKept.run_getObj_map hb, asInt, asIntOf, hidx, hmod, MapKept.run_setObj_map _ hb, Result.andThen, putObj]
    · constructor
      · have : (es.push ⟨ek k, enc v, clk⟩).toList.map (·.born) = (es.push ⟨ek k, enc vz, clk⟩).toList.map (·.born) := by simp
        rw [this]; exact hnd
      · intro e he
        simp only [Array.toList_push, List.mem_append, List.mem_singleton] at he
        rcases he with he | rfl
        · have := s2 e he; omega
        · exact Nat.lt_succ_self _
  | some x =>
    obtain ⟨i, u⟩ := x
    obtain ⟨e, g1, g2, g3, _⟩ := RepK.found k hr hi
    have hg : kGet k L = some u := by rw [← kIdx_get k L 0, hi]; rfl
    have g1' : es[i]? = some e := by simpa using g1
    have hk := modify_key es i e g1' (ek k) g2
    have hb := map_born_modify es.toList i (fun e => { e with key := ek k, val := enc v }) (fun _ => rfl)
    obtain ⟨s1, s2⟩ := hs
    refine ⟨e.born, es, clk, es.modify i fun e => { e with key := ek k, val := enc v }, clk, fun w hb => ?_, hlook es clk L hr rfl, hlook es clk L hr rfl, fun w hb => ?_, by simpa using g3 v, ?_⟩
    · simp only [Instr.mapEntry, Sem.run_bind, run_underlying ht, Result.andThen_ok, MapKept.run_getObj_map hb, K.check, K.find _ _ _ _ _ _ hr, hi, Option.map_some,
        g1', Option.getD_some, g2, Instr.keyThatStays, K.stays, if_true, Sem.run_pure, hk, MapKept.run_setObj_map _ hb, putObj, hg]
      rfl
    · have hidx : es.findIdx? (fun x => ((x.born : Nat) : Int) == ((e.born : Nat) : Int)) = some i := by
        rw [Go.WideElems.findIdx_arr]
        exact Go.WideElems.findIdx_born s1 g1
      have hmod := modify_val es i e g1' (ek k) (enc v) g2
      simp [Instr.entryStore, MapKept.run_getObj_map hb, asInt, asIntOf, hidx, hmod, MapKept.run_setObj_map _ hb, Result.andThen, putObj]
    · constructor
      · rw [Array.toList_modify, hb]; exact s1
      · intro e' he'
        have hmem : e'.born ∈ (es.modify i fun e => { e with key := ek k, val := enc v }).toList.map (·.born) := List.mem_map.2 ⟨e', he', rfl⟩
        rw [Array.toList_modify, hb] at hmem
        obtain ⟨e2, h3, h4⟩ := List.mem_map.1 hmem
        have := s2 e2 h3
        omega
end
end Go.Proofs.Ytfejhekoijemdaa
