import Derived.Test.YtfejhekoijemdaaLib
import Derived.ChangeKeysEq
import Derived.Great.BuildSlice
import Derived.Deep.RegionHeld3
namespace Go.Proofs.Ytfejhekoijemdaa
open Go.RowKit

/-! ### aggregates whose cells are not written out: loads and stores of them as one step -/
def loadAgg (t : TypeId) (a : Addr) : Sem Value := loadVar t a
def noLoad (t : TypeId) (a : Addr) : Sem Value := loadVar t a
def storeAgg (t : TypeId) (a : Addr) (v : Value) : Sem Unit := storeVar t a v
def noStore (t : TypeId) (a : Addr) (v : Value) : Sem Unit := storeVar t a v
/-- n cells of a row from a place on -/
def subA (cs : Array Value) (off n : Nat) : Array Value := cs.extract off (off + n)
def subOf (o : Option Obj) (off n : Nat) : Option (Array Value) :=
  match o with
  | some (.cells cs _ _) => if off + n ≤ cs.size then some (subA cs off n) else none
  | _ => none
def spliceA (old : Array Value) (off : Nat) (cs : Array Value) : Array Value := (old.toList.take off ++ cs.toList ++ old.toList.drop (off + cs.toList.length)).toArray
def allOne (cs : Array Value) : Bool := cs.toList.all (·.oneCell')
def putOf (o : Option Obj) (off n : Nat) (cs : Array Value) : Option Obj :=
  match o with
  | some (.cells old T (0, 0)) => if off + n ≤ old.size ∧ cs.size = n ∧ allOne cs = true then some (.cells (spliceA old off cs) T (0, 0)) else none
  | _ => none
def loadRes (P : Program) (t : TypeId) (a : Addr) (W : World) : Option (Array Value) → Result Value
  | some cs => .ok (.agg cs) W
  | none => (noLoad t a).run P W
def storeRes (P : Program) (t : TypeId) (a : Addr) (v : Value) (W : World) : Option Obj → Result Unit
  | some o => .ok () (putObj W a.block o)
  | none => (noStore t a v).run P W
section
variable {P : Program} {t T : TypeId} {a : Addr} {v : Value} {W : World} {cs old : Array Value} {o : Obj} {off n : Nat} {fr : Nat × Nat}
@[go_sem] theorem loadRes_some : loadRes P t a W (some cs) = .ok (.agg cs) W := rfl
@[go_sem] theorem storeRes_some : storeRes P t a v W (some o) = .ok () (putObj W a.block o) := rfl
@[go_sem] theorem subOf_cells (h : off + n ≤ cs.size) : subOf (some (.cells cs T fr)) off n = some (subA cs off n) := by simp [subOf, h]
@[go_sem] theorem putOf_cells (h : off + n ≤ old.size) (h1 : cs.size = n) (h2 : allOne cs = true) : putOf (some (.cells old T (0, 0))) off n cs = some (.cells (spliceA old off cs) T (0, 0)) := by simp [putOf, h, h1, h2]
@[go_sem] theorem spliceA_all (h : cs.size = old.size) : spliceA old 0 cs = cs := by
  apply Array.ext'
  simp [spliceA]
  simpa using Nat.le_of_eq h.symm
@[go_sem] theorem subA_all (h : cs.size = n) : subA cs 0 n = cs := by
  subst h; simp [subA]
theorem size_spliceA (h : off + cs.size ≤ old.size) : (spliceA old off cs).size = old.size := by
  simp [spliceA]; omega
end
@[go_sem] theorem allOne_nil : allOne #[] = true := rfl
@[go_sem] theorem allOne_cons (v : Value) (l : List Value) : allOne (v :: l).toArray = (v.oneCell' && allOne l.toArray) := rfl
@[go_sem] theorem oneCell_int (k : IntKind) (n : Int) : (Value.int k n).oneCell' = true := rfl
@[go_sem] theorem oneCell_bool (b : Bool) : (Value.bool b).oneCell' = true := rfl
@[go_sem] theorem oneCell_string (s : ByteArray) : (Value.string s).oneCell' = true := rfl
@[go_sem] theorem oneCell_map (r : Option Nat) : (Value.map r).oneCell' = true := rfl
@[go_sem] theorem oneCell_pointer (a : Option Addr) : (Value.pointer a).oneCell' = true := rfl
@[go_sem] theorem oneCell_slice (a : Option Addr) (l c : Nat) : (Value.slice a l c).oneCell' = true := rfl
@[go_sem] theorem oneCell_func (f : Fn) (x y : Array Value) : (Value.func f x y).oneCell' = true := rfl
@[go_sem] theorem oneCell_nilFunc  : (Value.nilFunc).oneCell' = true := rfl
section
variable {P : Program} {t : TypeId} {n : Nat}
theorem loadVar_of (hA : ∀ w, (isAgg t).run P w = .ok true w) (hS : ∀ w, (Go.sizeOf t).run P w = .ok n w) {b off : Nat} {W : World} {cs : Array Value}
    (hn : cs.size = n) (h : ∀ j v, cs[j]? = some v → W.cell? ⟨b, off + j, none⟩ = some v) : (loadVar t ⟨b, off, none⟩).run P W = .ok (.agg cs) W := by
  have hl := run_loadCells_list (P := P) (w := W) ⟨b, off, none⟩ cs.toList (fun j v hv => by rw [Addr.add_lit]; exact h j v (by simpa using hv))
  simp only [Array.length_toList, hn, Array.toArray_toList] at hl
  simp only [loadVar, Sem.run_bind, hA, Result.andThen_ok, if_true, hS, hl, Sem.run_pure]
theorem run_loadAgg (hA : ∀ w, (isAgg t).run P w = .ok true w) (hS : ∀ w, (Go.sizeOf t).run P w = .ok n w) (b off : Nat) (W : World) :
    (loadAgg t ⟨b, off, none⟩).run P W = loadRes P t ⟨b, off, none⟩ W (subOf (obj W b) off n) := by
  cases ho : obj W b with
  | none => rfl
  | some o =>
    cases o with
    | cells cs T fr =>
      by_cases h : off + n ≤ cs.size
      · rw [subOf_cells h, loadRes_some]
        refine loadVar_of hA hS (by simp [subA]; omega) (fun j v hv => ?_)
        rw [cell_at ho]
        simp only [subA, Array.getElem?_extract] at hv
        split at hv
        · exact hv
        · cases hv
      · simp only [subOf, if_neg h]; rfl
    | _ => rfl
theorem run_storeAgg (hS : ∀ w, (Go.sizeOf t).run P w = .ok n w) (b off : Nat) (cs : Array Value) (W : World) :
    (storeAgg t ⟨b, off, none⟩ (.agg cs)).run P W = storeRes P t ⟨b, off, none⟩ (.agg cs) W (putOf (obj W b) off n cs) := by
  cases ho : obj W b with
  | none => rfl
  | some o =>
    cases o with
    | cells old T fr =>
      by_cases hf : fr = (0, 0)
      · subst hf
        by_cases h : off + n ≤ old.size ∧ cs.size = n ∧ allOne cs = true
        · obtain ⟨h1, h2, h3⟩ := h
          rw [putOf_cells h1 h2 h3, storeRes_some]
          have hst := run_storeCells_at P b off T cs.toList 0 old W ho (by simp; omega) (by simpa only [allOne, List.all_eq_true] using h3)
          simp only [Nat.add_zero] at hst
          unfold storeAgg storeVar
          simp only [Sem.run_bind, hS, Result.andThen_ok, Value.cells, ne_eq, h2, not_true_eq_false, if_false, Sem.run_pure]
          rw [hst]
          simp [World.setRow, putObj, spliceA]
          unfold obj at ho
          apply Array.ext_getElem?
          intro i
          by_cases hi : i = b
          · subst hi
            have := (Array.getElem?_eq_some_iff.1 ho).1
            rw [Array.getElem?_modify, if_pos rfl, ho, Array.getElem?_setIfInBounds_self_of_lt this]
            simp
          · simp [Array.getElem?_modify, Ne.symm hi]
        · simp only [putOf, if_neg h]; rfl
      · have : putOf (some (.cells old T fr)) off n cs = none := by
          unfold putOf
          split
          · rename_i h; cases h; exact absurd rfl hf
          · rfl
        rw [this]; rfl
    | _ => rfl
end
section
variable (w : World) (o o' : Obj) (m i : Nat) (cs : Array Value) (T : TypeId) (v : Value) (fr : Nat × Nat)
@[go_sem] theorem putObj_alloc_at (h : m = w.heap.size) : putObj (w.alloc o') m o = w.alloc o := by
  subst h
  unfold putObj World.alloc
  congr 1
  apply Array.ext_getElem?
  intro k
  by_cases hk : w.heap.size = k
  · subst hk; simp
  · rw [Array.getElem?_setIfInBounds_ne hk, Array.getElem?_push, Array.getElem?_push, if_neg (Ne.symm hk), if_neg (Ne.symm hk)]
@[go_sem] theorem putObj_putObj : putObj (putObj w m o) m o' = putObj w m o' := by
  simp [putObj]
@[go_sem] theorem cell_putObj_eq (h : m < w.heap.size) : (putObj w m (.cells cs T fr)).cell? ⟨m, i, none⟩ = cs[i]? :=
  cell_at (obj_putObj_eq w _ m h) i
@[go_sem] theorem frozen_putObj_eq (h : m < w.heap.size) : (putObj w m (.cells cs T (0, 0))).frozen? ⟨m, i, none⟩ = false :=
  frozen_at (obj_putObj_eq w _ m h) i
@[go_sem] theorem obj_putObj_at (h : m < w.heap.size) : obj (putObj w m o) m = some o := obj_putObj_eq w o m h
@[go_sem] theorem setCell_putObj_eq (h : m < w.heap.size) : (putObj w m (.cells cs T fr)).setCell ⟨m, i, none⟩ v = putObj w m (.cells (cs.setIfInBounds i v) T fr) := by
  simp only [World.setCell, putObj]
  congr 1
  apply Array.ext_getElem?
  intro k
  by_cases hk : m = k
  · subst hk
    rw [Array.getElem?_modify, if_pos rfl, Array.getElem?_setIfInBounds_self_of_lt h, Array.getElem?_setIfInBounds_self_of_lt h]
    rfl
  · simp [Array.getElem?_modify, hk]
end
theorem below_putObj {B m : Nat} {a w : World} (h : Below B a w) (hm : B ≤ m) (o : Obj) : Below B a (putObj w m o) :=
  ⟨h.os, h.tape, h.output, by rw [size_putObj]; exact h.size, fun k hk => by
    have := h.block k hk
    show (putObj w m o).heap[k]? = _
    rw [← this]
    exact obj_putObj_ne w o m k (by omega)⟩
@[go_sem] theorem lt_add_true {a b : Nat} (n : Nat) (h : a < b) : (a < b + n) = True := by simp; omega
theorem ret_bool {a b : Bool} (h : a = b) : Ending.returned (.bool a) = .returned (.bool b) := by rw [h]
theorem ret_int {k : IntKind} {a b : Int} (h : a = b) : Ending.returned (.int k a) = .returned (.int k b) := by rw [h]
/-! ### results that lie in a cell -/
section
variable {P : Program} {fn : Func} {p q r ty : Nat} {a : Addr} {v : Value} {w : World}
theorem results_cell (h : fn.results = #[.cell p ty]) (tmps : Array Value) (hp : tmps.getD p undef = .pointer (some a)) (hl : (loadAgg ty a).run P w = .ok v w) : (results fn tmps).run P w = .ok v w := by
  have hp' : tmps[p]?.getD undef = .pointer (some a) := by simpa using hp
  have hl' : (loadVar ty a).run P w = .ok v w := hl
  simp [results, h, hp', asAddr, hl']
theorem results_cell_tmp (h : fn.results = #[.cell p ty, .tmp q]) (tmps : Array Value) (hp : tmps.getD p undef = .pointer (some a)) (hl : (loadAgg ty a).run P w = .ok v w) : (results fn tmps).run P w = .ok (.tuple #[v, tmps.getD q undef]) w := by
  have hp' : tmps[p]?.getD undef = .pointer (some a) := by simpa using hp
  have hl' : (loadVar ty a).run P w = .ok v w := hl
  simp [results, h, hp', asAddr, hl']
end
/-! ### names: 32 bytes -/
structure ID where
  l : List UInt8
  h : l.length = 32
deriving DecidableEq
theorem ID.ext' {a b : ID} (h : a.l = b.l) : a = b := by cases a; cases b; simp_all
def ID.zero : ID := ⟨List.replicate 32 0, rfl⟩
instance : Inhabited ID := ⟨ID.zero⟩
def idL (a : ID) : List Value := a.l.map fun b => .int .u8 b.toNat
@[go_sem, simp] theorem idL_length (a : ID) : (idL a).length = 32 := by simp [idL, a.h]
@[go_sem] theorem idL_one (a : ID) : allOne (idL a).toArray = true := by
  simp [allOne, idL, Value.oneCell']
theorem idL_one' (a : ID) : ∀ v ∈ idL a, v.oneCell' = true := by
  simp [idL, Value.oneCell']
theorem u8_toNat_inj {x y : UInt8} (h : (x.toNat : Int) = y.toNat) : x = y := UInt8.toNat_inj.1 (by omega)
theorem idL_inj {a b : ID} (h : idL a = idL b) : a = b := by
  apply ID.ext'
  exact (List.map_inj_right (f := fun b : UInt8 => Value.int .u8 (b.toNat : Int)) (fun x y hxy => by
    simp only [Value.int.injEq, true_and] at hxy
    exact u8_toNat_inj hxy)).1 h
theorem idL_get (a : ID) {i : Nat} (hi : i < 32) : (idL a)[i]? = some (.int .u8 ((a.l[i]'(by rw [a.h]; exact hi)).toNat : Int)) := by
  simp [idL, a.h, hi]
section
variable {P : Program} {t e : TypeId} {ie : TypeInfo}
theorem run_eqItems_id (d : Nat) (he : P.underlying e = some (.int .u8)) (hA : ∀ w, (isAgg e).run P w = .ok false w) (a b : ID) (w : World) : ∀ (is : List Nat), (∀ i ∈ is, i < 32) →
    (Op.eqItems (d + 1) e 1 (idL a).toArray (idL b).toArray is).run P w = .ok (decide (∀ i ∈ is, a.l[i]? = b.l[i]?)) w
  | [], _ => by simp [Op.eqItems]
  | i :: is, h => by
    have hi := h i (by simp)
    have ih := run_eqItems_id d he hA a b w is (fun j hj => h j (by simp [hj]))
    have e1 : a.l[i]? = some (a.l[i]'(by rw [a.h]; exact hi)) := by simp
    have e2 : b.l[i]? = some (b.l[i]'(by rw [b.h]; exact hi)) := by simp
    generalize (a.l[i]'(by rw [a.h]; exact hi)) = x at e1
    generalize (b.l[i]'(by rw [b.h]; exact hi)) = y at e2
    have g1 : (idL a)[i]? = some (.int .u8 (x.toNat : Int)) := by simp [idL, e1]
    have g2 : (idL b)[i]? = some (.int .u8 (y.toNat : Int)) := by simp [idL, e2]
    simp only [Op.eqItems, Nat.mul_one, Sem.run_bind, part, hA, Result.andThen_ok, Bool.false_eq_true, if_false, List.getElem?_toArray, g1, g2, Sem.run_pure, run_equalIn_int w d e .u8 .u8 _ _ he]
    by_cases hxy : x = y
    · subst hxy
      simp [ih, e1, e2]
    · have hn : ((x.toNat : Int) == (y.toNat : Int)) = false := by
        simp only [beq_eq_false_iff_ne, ne_eq]
        exact fun h => hxy (u8_toNat_inj h)
      simp [hn, e1, e2, hxy]
theorem run_equalIn_id (d : Nat) (hu : P.underlying t = some (.array 32 e)) (hi : P.info? e = some ie) (hc : P.cellsOf e = 1) (he : P.underlying e = some (.int .u8)) (hA : ∀ w, (isAgg e).run P w = .ok false w) (a b : ID) (w : World) :
    (Op.equalIn (d + 2) t (.agg (idL a).toArray) (.agg (idL b).toArray)).run P w = .ok (decide (a = b)) w := by
  rw [run_equalIn_array w (d + 1) _ _ hu hi, hc, run_eqItems_id d he hA a b w _ (by simp)]
  congr 1
  simp only [List.mem_range, decide_eq_decide]
  constructor
  · intro h
    apply ID.ext'
    apply List.ext_getElem?
    intro i
    by_cases hi : i < 32
    · exact h i hi
    · rw [List.getElem?_eq_none (by rw [a.h]; omega), List.getElem?_eq_none (by rw [b.h]; omega)]
  · rintro rfl _ _; rfl
end

/-! ### maps whose keys are of whatever type: association lists -/
section
variable {α ν : Type} [DecidableEq α]
def kPut (k : α) (v : ν) : List (α × ν) → List (α × ν)
  | [] => [(k, v)]
  | (j, u) :: r => if k = j then (j, v) :: r else (j, u) :: kPut k v r
def kDel (k : α) : List (α × ν) → List (α × ν)
  | [] => []
  | (j, u) :: r => if k = j then r else (j, u) :: kDel k r
def kGet (k : α) : List (α × ν) → Option ν
  | [] => none
  | (j, u) :: r => if k = j then some u else kGet k r
def kIdx (k : α) : List (α × ν) → Nat → Option (Nat × ν)
  | [], _ => none
  | (j, u) :: r, i => if k = j then some (i, u) else kIdx k r (i + 1)
end
section
variable {α ν : Type}
def RepK (ek : α → Value) (enc : ν → Value) : List MapEntry → List (α × ν) → Prop
  | [], [] => True
  | e :: es, x :: xs => (e.key = ek x.1 ∧ e.val = enc x.2) ∧ RepK ek enc es xs
  | _, _ => False
def MapK (w : World) (m : Nat) (ek : α → Value) (enc : ν → Value) (L : List (α × ν)) : Prop :=
  ∃ es clk, obj w m = some (.map es clk) ∧ RepK ek enc es.toList L
theorem RepK.length {ek : α → Value} {enc : ν → Value} : ∀ {es : List MapEntry} {L : List (α × ν)}, RepK ek enc es L → es.length = L.length
  | [], [], _ => rfl
  | _ :: _, _ :: _, h => by simp [RepK.length h.2]
  | [], _ :: _, h => h.elim
  | _ :: _, [], h => h.elim
theorem MapK.of_obj {ek : α → Value} {enc : ν → Value} {w W : World} {m : Nat} {L : List (α × ν)} (h : MapK w m ek enc L) (e : obj W m = obj w m) : MapK W m ek enc L := by
  obtain ⟨es, clk, h1, h2⟩ := h
  exact ⟨es, clk, e.trans h1, h2⟩
theorem MapK.lt {ek : α → Value} {enc : ν → Value} {w : World} {m : Nat} {L : List (α × ν)} (h : MapK w m ek enc L) : m < w.heap.size := by
  obtain ⟨es, clk, h1, h2⟩ := h
  exact lt_of_obj h1
theorem MapK.made (w : World) (ek : α → Value) (enc : ν → Value) : MapK (w.alloc (.map #[] 0)) w.heap.size ek enc ([] : List (α × ν)) :=
  ⟨#[], 0, obj_alloc_at _ _ _ rfl, trivial⟩
theorem MapK.made_at (w : World) {m : Nat} (h : m = w.heap.size) (ek : α → Value) (enc : ν → Value) : MapK (w.alloc (.map #[] 0)) m ek enc ([] : List (α × ν)) := by
  subst h; exact MapK.made w ek enc
theorem run_len_k {P : Program} {t kt et : TypeId} {ek : α → Value} {enc : ν → Value} {w : World} {m : Nat} {L : List (α × ν)} (ht : P.underlying t = some (.map kt et)) (ty : TypeId) (h : MapK w m ek enc L) :
    (Builtin.len_ #[t] ty #[.map (some m)]).run P w = .ok (.int .i64 L.length) w := by
  obtain ⟨es, clk, hb, hr⟩ := h
  have := hr.length
  simp at this
  simp [Builtin.len_, run_underlying ht, MapKept.run_getObj_map hb, goInt, this]
end
section
variable {α ν : Type} [DecidableEq α]
/-- what the walk asks of a type of keys -/
structure KeyOK (P : Program) (kt : TypeId) (ek : α → Value) : Prop where
  check : ∀ b k w, (Instr.checkKey b 10000 kt (ek k)).run P w = .ok () w
  find : ∀ (ν : Type) (enc : ν → Value) (es : List MapEntry) (L : List (α × ν)) (k : α) (w : World), RepK ek enc es L → (Instr.findKey kt (ek k) es).run P w = .ok ((kIdx k L 0).map fun x => (x.1, enc x.2)) w
  stays : ∀ k, Instr.sameBits 10000 (ek k) (ek k) = true
variable {ek : α → Value} {enc : ν → Value}
theorem kIdx_get (k : α) : ∀ (L : List (α × ν)) (i : Nat), (kIdx k L i).map (·.2) = kGet k L
  | [], _ => rfl
  | (j, u) :: r, i => by unfold kIdx kGet; split <;> simp [kIdx_get k r]
theorem kIdx_shift (k : α) : ∀ (L : List (α × ν)) (i : Nat), kIdx k L (i + 1) = (kIdx k L i).map fun x => (x.1 + 1, x.2)
  | [], _ => rfl
  | (j, u) :: r, i => by unfold kIdx; split <;> simp [kIdx_shift k r]
theorem RepK.found (k : α) : ∀ {es : List MapEntry} {L : List (α × ν)} {i : Nat} {u : ν}, RepK ek enc es L → kIdx k L 0 = some (i, u) →
    ∃ e, es[i]? = some e ∧ e.key = ek k ∧ (∀ v, RepK ek enc (es.modify i fun e => { e with key := ek k, val := enc v }) (kPut k v L)) ∧ RepK ek enc (es.eraseIdx i) (kDel k L)
  | [], [], _, _, _, h => by simp [kIdx] at h
  | e :: es, (j, x) :: L, i, u, hr, h => by
    obtain ⟨⟨h1, h2⟩, h3⟩ := hr
    simp only at h1 h2
    unfold kIdx at h
    by_cases hj : k = j
    · subst hj
      simp at h
      obtain ⟨rfl, rfl⟩ := h
      exact ⟨e, rfl, h1, fun v => by simp [kPut, RepK, h3], by simpa [kDel] using h3⟩
    · rw [if_neg hj, kIdx_shift] at h
      cases hx : kIdx k L 0 with
      | none => simp [hx] at h
      | some y =>
        obtain ⟨i', u'⟩ := y
        simp [hx] at h
        obtain ⟨rfl, rfl⟩ := h
        obtain ⟨e', g1, g2, g3, g4⟩ := RepK.found k h3 hx
        exact ⟨e', by simpa using g1, g2, fun v => by simp [kPut, hj, RepK, h1, h2, g3 v], by simp [kDel, hj, RepK, h1, h2, g4]⟩
  | [], _ :: _, _, _, h, _ => h.elim
  | _ :: _, [], _, _, h, _ => h.elim
theorem RepK.absent (k : α) : ∀ {es : List MapEntry} {L : List (α × ν)}, RepK ek enc es L → kIdx k L 0 = none →
    (∀ v b, RepK ek enc (es ++ [{ key := ek k, val := enc v, born := b }]) (kPut k v L)) ∧ kDel k L = L
  | [], [], _, _ => ⟨fun v b => by simp [kPut, RepK], rfl⟩
  | e :: es, (j, x) :: L, hr, h => by
    obtain ⟨⟨h1, h2⟩, h3⟩ := hr
    simp only at h1 h2
    unfold kIdx at h
    by_cases hj : k = j
    · simp [hj] at h
    · rw [if_neg hj, kIdx_shift] at h
      have hx : kIdx k L 0 = none := by simpa using h
      obtain ⟨g1, g2⟩ := RepK.absent k h3 hx
      exact ⟨fun v b => by simp [kPut, hj, RepK, h1, h2, g1 v b], by simp [kDel, hj, g2]⟩
  | [], _ :: _, h, _ => h.elim
  | _ :: _, [], h, _ => h.elim
end
section
variable {α ν : Type} [DecidableEq α] {ek : α → Value} {enc : ν → Value} {P : Program} {w : World} {m : Nat} {t kt et : TypeId} {L : List (α × ν)}
theorem run_lookup_k (K : KeyOK P kt ek) (ht : P.underlying t = some (.map kt et)) {z : Value} (hz : ∀ w, (zeroValue et).run P w = .ok z w)
    (h : MapK w m ek enc L) (k : α) : (Instr.lookup t (.map (some m)) (ek k) true).run P w =
      .ok (match kGet k L with | some v => .tuple #[enc v, .bool true] | none => .tuple #[z, .bool false]) w := by
  obtain ⟨es, clk, hb, hr⟩ := h
  simp only [Instr.lookup, Sem.run_bind, run_underlying ht, Result.andThen_ok, MapKept.run_getObj_map hb, Sem.run_pure, K.check, K.find _ _ _ _ _ _ hr]
  rw [← kIdx_get k L 0]
  cases kIdx k L 0 <;> simp [hz]
theorem run_lookup1_k (K : KeyOK P kt ek) (ht : P.underlying t = some (.map kt et)) {z : Value} (hz : ∀ w, (zeroValue et).run P w = .ok z w)
    (h : MapK w m ek enc L) (k : α) : (Instr.lookup t (.map (some m)) (ek k) false).run P w =
      .ok (match kGet k L with | some v => enc v | none => z) w := by
  obtain ⟨es, clk, hb, hr⟩ := h
  simp only [Instr.lookup, Sem.run_bind, run_underlying ht, Result.andThen_ok, MapKept.run_getObj_map hb, Sem.run_pure, K.check, K.find _ _ _ _ _ _ hr]
  rw [← kIdx_get k L 0]
  cases kIdx k L 0 <;> simp [hz]
theorem run_mapUpdate_k (K : KeyOK P kt ek) (ht : P.underlying t = some (.map kt et))
    {es : Array MapEntry} {clk : Nat} (hr : RepK ek enc es.toList L) (m : Nat) (k : α) (v : ν) : ∃ es' clk', (∀ w : World, obj w m = some (.map es clk) → (Instr.mapUpdate t (.map (some m)) (ek k) (enc v)).run P w = .ok () (putObj w m (.map es' clk'))) ∧
      RepK ek enc es'.toList (kPut k v L) := by
  cases hi : kIdx k L 0 with
  | none =>
    obtain ⟨g1, _⟩ := RepK.absent k hr hi
    refine ⟨es.push { key := ek k, val := enc v, born := clk }, clk + 1, fun w hb => ?_, by simpa using g1 v clk⟩
    simp only [Instr.mapUpdate, Sem.run_bind, run_underlying ht, Result.andThen_ok, MapKept.run_getObj_map hb, K.check, K.find _ _ _ _ _ _ hr, hi, Option.map_none,
      MapKept.run_setObj_map _ hb, putObj]
  | some x =>
    obtain ⟨i, u⟩ := x
    obtain ⟨e, g1, g2, g3, _⟩ := RepK.found k hr hi
    have g1' : es[i]? = some e := by simpa using g1
    refine ⟨es.modify i fun e => { e with key := ek k, val := enc v }, clk, fun w hb => ?_, by simpa using g3 v⟩
    simp only [Instr.mapUpdate, Sem.run_bind, run_underlying ht, Result.andThen_ok, MapKept.run_getObj_map hb, K.check, K.find _ _ _ _ _ _ hr, hi, Option.map_some,
      g1', Option.getD_some, g2, Instr.keyThatStays, K.stays, if_true, Sem.run_pure, MapKept.run_setObj_map _ hb, putObj]
theorem run_delete_k (K : KeyOK P kt ek) (ht : P.underlying t = some (.map kt et)) (ty : TypeId) (ks : TypeId)
    {es : Array MapEntry} {clk : Nat} (hr : RepK ek enc es.toList L) (m : Nat) (k : α) : ∃ es', (∀ w : World, obj w m = some (.map es clk) → (Builtin.delete_ #[t, ks] ty #[.map (some m), ek k]).run P w = .ok (.tuple #[]) (putObj w m (.map es' clk))) ∧
      RepK ek enc es'.toList (kDel k L) := by
  cases hi : kIdx k L 0 with
  | none =>
    obtain ⟨_, g1⟩ := RepK.absent k hr hi
    refine ⟨es, fun w hb => ?_, by rw [g1]; exact hr⟩
    simp [Builtin.delete_, run_underlying ht, MapKept.run_getObj_map hb, K.check, K.find _ _ _ _ _ _ hr, hi, MapKept.run_setObj_map _ hb, putObj]
  | some x =>
    obtain ⟨i, u⟩ := x
    obtain ⟨e, g1, g2, _, g3⟩ := RepK.found k hr hi
    refine ⟨es.eraseIdxIfInBounds i, fun w hb => ?_, by simpa [Array.toList_eraseIdxIfInBounds] using g3⟩
    simp [Builtin.delete_, run_underlying ht, MapKept.run_getObj_map hb, K.check, K.find _ _ _ _ _ _ hr, hi, MapKept.run_setObj_map _ hb, putObj]
/-- names as keys -/
def idV (a : ID) : Value := .agg (idL a).toArray
theorem checkKey_items (b : Bool) (n : Nat) {e : TypeId} (he : P.underlying e = some (.int .u8)) (hA : ∀ w, (isAgg e).run P w = .ok false w) (hS : ∀ w, (Go.sizeOf e).run P w = .ok 1 w) (a : ID) (w : World) :
    ∀ (is : List Nat), (∀ i ∈ is, i < 32) → (forIn is PUnit.unit fun i _ => do Instr.checkKey b (n + 1) e (← part e (idL a).toArray (i * (← Go.sizeOf e))); pure (ForInStep.yield PUnit.unit) : Sem PUnit).run P w = .ok PUnit.unit w
  | [], _ => by simp
  | i :: is, h => by
    have ih := checkKey_items b n he hA hS a w is (fun j hj => h j (by simp [hj]))
    have hi := h i (by simp)
    have hc : ∀ v, (Instr.checkKey b (n + 1) e (.int .u8 v)).run P w = .ok () w := fun v => by
      unfold Instr.checkKey
      simp [run_underlying he]
    have hp : (part e (idL a).toArray i).run P w = .ok (.int .u8 ((a.l[i]'(by rw [a.h]; exact hi)).toNat : Int)) w := by
      simp only [part, Sem.run_bind, hA, Result.andThen_ok, Bool.false_eq_true, if_false, List.getElem?_toArray, idL_get a hi, Sem.run_pure]
    simp only [List.forIn_cons, Sem.run_bind, hS, Result.andThen_ok, Nat.mul_one, hp, hc, Sem.run_pure, ih]
theorem findAsking_id (hq : ∀ (a b : ID) (w : World), (Op.equal kt (idV a) (idV b)).run P w = .ok (decide (a = b)) w) (k : ID) (w : World) {ν : Type} {enc : ν → Value} : ∀ {es : List MapEntry} {L : List (ID × ν)} (i : Nat), RepK idV enc es L →
    (Instr.findAsking kt (idV k) es i).run P w = .ok ((kIdx k L i).map fun x => (x.1, enc x.2)) w
  | [], [], i, _ => by simp [Instr.findAsking, kIdx]
  | e :: es, (j, u) :: L, i, h => by
    have ih := findAsking_id hq k w (enc := enc) (i + 1) h.2
    have h1 : e.key = idV j := h.1.1
    have h2 : e.val = enc u := h.1.2
    simp only [Instr.findAsking, Sem.run_bind, h1, hq, Result.andThen_ok, kIdx]
    by_cases hj : k = j
    · simp [hj, h2]
    · simp [hj, ih]
  | [], _ :: _, _, h => h.elim
  | _ :: _, [], _, h => h.elim
theorem keyOK_id {e : TypeId} {ie : TypeInfo} (hu : P.underlying kt = some (.array 32 e)) (hi : P.info? e = some ie) (hc : P.cellsOf e = 1) (he : P.underlying e = some (.int .u8)) (hA : ∀ w, (isAgg e).run P w = .ok false w) (hS : ∀ w, (Go.sizeOf e).run P w = .ok 1 w) :
    KeyOK P kt idV where
  check b k w := by
    unfold Instr.checkKey
    simp only [Sem.run_bind, run_underlying hu, Result.andThen_ok, idV]
    rw [Std.Legacy.Range.forIn_eq_forIn_range']
    have h0 := checkKey_items b 9998 he hA hS k w (List.range' 0 32) (fun i hi => by
      have h1 := List.mem_range'.1 hi
      omega)
    simp only [Std.Legacy.Range.size, Nat.sub_zero, Nat.add_one_sub_one, Nat.div_one]
    rw [h0]
    rfl
  find ν enc es L k w h := by
    have hq : ∀ (a b : ID) (w : World), (Op.equal kt (idV a) (idV b)).run P w = .ok (decide (a = b)) w := fun a b w => run_equalIn_id 9998 hu hi hc he hA a b w
    cases es with
    | nil =>
      cases L with
      | nil => simp [Instr.findKey, run_underlying hu, Instr.findNow, kIdx]
      | cons _ _ => exact h.elim
    | cons e' es =>
      have hn : Instr.findNow (.array 32 e) (idV k) (e' :: es) 0 = none := by simp [Instr.findNow, Instr.sameNow]
      simp only [Instr.findKey, Sem.run_bind, run_underlying hu, Result.andThen_ok, hn]
      exact findAsking_id hq k w 0 h
  stays k := by
    unfold idV Instr.sameBits
    simp only [BEq.rfl, Bool.true_and, List.all_eq_true]
    intro x hx
    have : x.1 = x.2 ∧ x.1 ∈ idL k := by
      have h1 := List.of_mem_zip hx
      refine ⟨?_, by simpa using h1.1⟩
      obtain ⟨i, hi⟩ := List.getElem?_of_mem hx
      simp only [List.getElem?_zip_eq_some] at hi
      have := hi.1.symm.trans hi.2
      simpa using this
    obtain ⟨h1, h2⟩ := this
    obtain ⟨x1, x2⟩ := x
    simp only at h1 h2
    subst h1
    simp only [idL, List.mem_map] at h2
    obtain ⟨b, _, rfl⟩ := h2
    simp [Instr.sameBits]
end
theorem subA_list (l : List Value) (off n : Nat) : subA l.toArray off n = ((l.drop off).take n).toArray := by
  simp [subA]
/-! ### rows of such elements -/
/-- the elements of a row from a place on -/
def RowAt {α : Type} (w : World) (b off k : Nat) (enc : α → List Value) (xs : List α) : Prop :=
  ∀ j (h : j < xs.length), subOf (obj w b) (off + j * k) k = some (enc xs[j]).toArray
/-- a slice that holds these elements -/
def SlIn {α : Type} (w : World) (v : Value) (k : Nat) (enc : α → List Value) (xs : List α) : Prop :=
  ∃ oa cap, v = .slice oa xs.length cap ∧ xs.length ≤ cap ∧ cap ≤ maxLen ∧ (0 < xs.length → ∃ b off, oa = some ⟨b, off, none⟩ ∧ b < w.heap.size ∧ RowAt w b off k enc xs)
theorem RowAt.of_obj {α : Type} {w W : World} {b off k : Nat} {enc : α → List Value} {xs : List α} (h : RowAt w b off k enc xs) (e : obj W b = obj w b) : RowAt W b off k enc xs :=
  fun j hj => by rw [e]; exact h j hj
theorem SlIn.below {α : Type} {w W : World} {v : Value} {k : Nat} {enc : α → List Value} {xs : List α} (h : SlIn w v k enc xs) (hb : Below w.heap.size w W) : SlIn W v k enc xs := by
  obtain ⟨oa, cap, h1, h2, h3, h4⟩ := h
  refine ⟨oa, cap, h1, h2, h3, fun hl => ?_⟩
  obtain ⟨b, off, e, hb1, hr⟩ := h4 hl
  exact ⟨b, off, e, Nat.lt_of_lt_of_le hb1 hb.size, hr.of_obj (obj_below hb hb1)⟩
theorem SlIn.of_below {α : Type} {B : Nat} {w w0 W : World} {v : Value} {k : Nat} {enc : α → List Value} {xs : List α} (h : SlIn w v k enc xs) (h0 : Below w.heap.size w w0) (hb : Below w.heap.size w0 W) : SlIn W v k enc xs :=
  h.below (h0.trans hb)
theorem subOf_cell {w : World} {b o n : Nat} {cs : Array Value} (h : subOf (obj w b) o n = some cs) {j : Nat} (hj : j < n) : w.cell? ⟨b, o + j, none⟩ = cs[j]? := by
  unfold subOf at h
  split at h
  · rename_i c T fr ho
    split at h
    · rename_i hle
      rw [cell_at ho]
      simp only [Option.some.injEq] at h
      subst h
      simp only [subA, Array.getElem?_extract]
      rw [if_pos (by omega)]
    · cases h
  · cases h
theorem subOf_of_cells {w : World} {b o n : Nat} {cs : List Value} (hn : cs.length = n) (h0 : 0 < n) (h : ∀ j, j < n → w.cell? ⟨b, o + j, none⟩ = cs[j]?) : subOf (obj w b) o n = some cs.toArray := by
  have hc : ∀ j, j < n → ∃ v, w.cell? ⟨b, o + j, none⟩ = some v := fun j hj => ⟨cs[j]'(by omega), by rw [h j hj]; simp [hn, hj]⟩
  obtain ⟨v0, hv0⟩ := hc 0 h0
  unfold World.cell? at hv0
  simp only at hv0
  split at hv0
  · rename_i c T fr ho
    have ho' : obj w b = some (.cells c T fr) := ho
    have hget : ∀ j, j < n → c[o + j]? = cs[j]? := fun j hj => by rw [← h j hj, cell_at ho']
    have hsz : o + n ≤ c.size := by
      have h1 := hget (n - 1) (by omega)
      have h2 : cs[n - 1]? = some (cs[n - 1]'(by omega)) := by simp
      rw [h2] at h1
      have := (Array.getElem?_eq_some_iff.1 h1).1
      omega
    rw [ho', subOf_cells hsz]
    congr 1
    apply Array.ext_getElem?
    intro j
    simp only [subA, Array.getElem?_extract, List.getElem?_toArray]
    by_cases hj : j < n
    · rw [if_pos (by omega), hget j hj]
    · rw [if_neg (by omega), List.getElem?_eq_none (by omega)]
  · cases hv0
theorem subOf_sub {o : Option Obj} {p n i m : Nat} {cs : Array Value} (h : subOf o p n = some cs) (hi : i + m ≤ n) : subOf o (p + i) m = some (subA cs i m) := by
  unfold subOf at h ⊢
  split at h
  · rename_i c T fr
    split at h
    · rename_i hle
      simp only [Option.some.injEq] at h
      subst h
      rw [if_pos (by omega)]
      congr 1
      apply Array.ext_getElem?
      intro j
      simp only [subA, Array.getElem?_extract, Array.size_extract]
      by_cases hj : j < m
      · rw [if_pos (by omega), if_pos (by omega), if_pos (by omega)]
        congr 1
        omega
      · rw [if_neg (by omega), if_neg (by omega)]
    · cases h
  · cases h
theorem subOf_size {o : Option Obj} {p n : Nat} {cs : Array Value} (h : subOf o p n = some cs) : cs.size = n := by
  unfold subOf at h
  split at h
  · split at h
    · simp only [Option.some.injEq] at h; subst h; simp [subA]; omega
    · cases h
  · cases h
/-- a slice of the call's own that holds these elements; nil just where there is none -/
def OwnS {α : Type} (w : World) (base E k : Nat) (enc : α → List Value) (v : Value) (xs : List α) : Prop :=
  w.ownsRow base E k v xs.length (xs.flatMap enc) ∧ (v = .slice none 0 0 ↔ xs = [])
theorem OwnS.nil {α : Type} (w : World) (base E k : Nat) (enc : α → List Value) : OwnS w base E k enc (.slice none 0 0) [] := ⟨World.ownsRow_nil _ _ _ _, by simp⟩
/-- what a function hands back that makes a new slice -/
def RetOwn {α : Type} (w : World) (E k : Nat) (enc : α → List Value) (xs : List α) (e : Ending) (w' : World) : Prop :=
  ∃ v, e = .returned v ∧ OwnS w' w.heap.size E k enc v xs ∧ Below w.heap.size w w'
theorem OwnS.keeps {α : Type} {w W : World} {base E k : Nat} {enc : α → List Value} {v : Value} {xs : List α} (h : OwnS w base E k enc v xs) (hk : ∀ g, v.ownBlock = some g → obj W g = obj w g) : OwnS W base E k enc v xs := by
  refine ⟨⟨h.1.1, ?_⟩, h.2⟩
  rcases h.1.2 with h1 | ⟨g, cap, cur, rfl, h2, h3, h4⟩
  · exact .inl h1
  · exact .inr ⟨g, cap, cur, rfl, h2, (hk g rfl).trans h3, h4⟩
theorem OwnS.alloc {α : Type} {w : World} {base E k : Nat} {enc : α → List Value} {v : Value} {xs : List α} (h : OwnS w base E k enc v xs) (o : Obj) : OwnS (w.alloc o) base E k enc v xs :=
  h.keeps fun g hg => obj_alloc_past _ _ _ (h.1.lt g hg).2
theorem OwnS.drew {α : Type} {w : World} {base E k : Nat} {enc : α → List Value} {v : Value} {xs : List α} (h : OwnS w base E k enc v xs) : OwnS w.drew base E k enc v xs := h
theorem OwnS.drewN {α : Type} {w : World} {base E k : Nat} {enc : α → List Value} {v : Value} {xs : List α} (h : OwnS w base E k enc v xs) (n : Nat) : OwnS (w.drewN n) base E k enc v xs := h
theorem OwnS.below {α : Type} {w W : World} {base E k : Nat} {enc : α → List Value} {v : Value} {xs : List α} (h : OwnS w base E k enc v xs) (hb : Below w.heap.size w W) : OwnS W base E k enc v xs :=
  h.keeps fun g hg => obj_below hb (h.1.lt g hg).2
theorem OwnS.snoc {α : Type} {w : World} {base E k : Nat} {enc : α → List Value} {v : Value} {xs : List α} {y : α} (h : OwnS w base E k enc v (xs ++ [y])) : ∃ g cap, v = .slice (some ⟨g, 0, none⟩) (xs.length + 1) cap := by
  rcases h.1.2 with ⟨h1, _⟩ | ⟨g, cap, _, h1, _⟩
  · exact absurd (h.2.1 h1) (by simp)
  · exact ⟨g, cap, by rw [h1]; simp⟩
/-- a block that holds something else is not such a slice's -/
theorem OwnS.ne {α : Type} {w : World} {base E k : Nat} {enc : α → List Value} {v : Value} {xs : List α} (h : OwnS w base E k enc v xs) {j : Nat} {o : Obj} (ho : obj w j = some o) (hne : ∀ cur, o ≠ .cells cur E (0, 0)) : v.ownBlock ≠ some j := by
  intro e
  rcases h.1.2 with ⟨rfl, _⟩ | ⟨g, cap, cur, rfl, _, hg, _⟩
  · simp [Value.ownBlock] at e
  · simp [Value.ownBlock] at e
    subst e
    have hg' : obj w g = some (.cells cur E (0, 0)) := hg
    rw [ho] at hg'
    exact hne cur (Option.some.inj hg')
theorem flatMap_sub {α : Type} {k : Nat} {enc : α → List Value} (hk : ∀ x, (enc x).length = k) : ∀ (xs : List α) (j : Nat) (h : j < xs.length), ((xs.flatMap enc).drop (j * k)).take k = enc xs[j]
  | [], _, h => by simp at h
  | x :: xs, 0, _ => by simp [hk x]
  | x :: xs, j + 1, h => by
    have := flatMap_sub hk xs j (by simpa using h)
    rw [List.flatMap_cons, show (j + 1) * k = (enc x).length + j * k by rw [hk]; rw [Nat.add_mul]; omega, List.drop_append, List.drop_eq_nil_of_le (by omega), Nat.add_sub_cancel_left]
    simpa using this
theorem flatMap_len {α : Type} {k : Nat} {enc : α → List Value} (hk : ∀ x, (enc x).length = k) (xs : List α) : (xs.flatMap enc).length = xs.length * k := by
  induction xs with
  | nil => simp
  | cons x xs ih => rw [List.flatMap_cons, List.length_append, ih, hk, List.length_cons, Nat.add_mul]; omega
/-- such a slice, read as any other -/
theorem OwnS.slIn {α : Type} {w : World} {base E k : Nat} {enc : α → List Value} {v : Value} {xs : List α} (hk : ∀ x, (enc x).length = k) (h : OwnS w base E k enc v xs) : SlIn w v k enc xs := by
  obtain ⟨⟨hl, h⟩, _⟩ := h
  rcases h with ⟨rfl, h0⟩ | ⟨g, cap, cur, rfl, hb, hg, h1, h2, h3, h4⟩
  · exact ⟨none, 0, by rw [h0], by omega, Nat.zero_le _, fun h => by omega⟩
  · refine ⟨_, cap, rfl, h1, h2, fun _ => ⟨g, 0, rfl, lt_of_obj hg, fun j hj => ?_⟩⟩
    have hle : (j + 1) * k ≤ xs.length * k := Nat.mul_le_mul_right _ hj
    have hle2 : xs.length * k ≤ cap * k := Nat.mul_le_mul_right _ h1
    rw [Nat.add_mul] at hle
    have e1 : obj w g = some (.cells cur E (0, 0)) := hg
    rw [e1, subOf_cells (by omega)]
    congr 1
    apply Array.ext'
    rw [subA, Array.toList_extract, List.extract_eq_take_drop, ← flatMap_sub hk xs j hj, ← h4, List.drop_take, List.take_take, Nat.min_eq_left (by omega)]
    simp
/-- a block that holds these elements, as a slice of it -/
theorem SlIn.of_cells {α : Type} {w : World} {b E k : Nat} {fr : Nat × Nat} {enc : α → List Value} (hk : ∀ x, (enc x).length = k) (xs : List α) (h : obj w b = some (.cells (xs.flatMap enc).toArray E fr)) (hl : xs.length ≤ maxLen) :
    SlIn w (.slice (some ⟨b, 0, none⟩) xs.length xs.length) k enc xs :=
  ⟨_, _, rfl, Nat.le_refl _, hl, fun _ => ⟨b, 0, rfl, lt_of_obj h, fun j hj => by
    have hle : (j + 1) * k ≤ xs.length * k := Nat.mul_le_mul_right _ hj
    rw [Nat.add_mul] at hle
    have hs : (xs.flatMap enc).toArray.size = xs.length * k := by simp [flatMap_len hk]
    rw [h, subOf_cells (by omega)]
    congr 1
    rw [subA_list, Nat.zero_add, flatMap_sub hk xs j hj]⟩⟩
theorem SlIn.one {α : Type} {w : World} {b E k : Nat} {fr : Nat × Nat} {enc : α → List Value} (hk : ∀ x, (enc x).length = k) (x : α) (h : obj w b = some (.cells (enc x).toArray E fr)) : SlIn w (.slice (some ⟨b, 0, none⟩) 1 1) k enc [x] :=
  SlIn.of_cells (E := E) (fr := fr) hk [x] (by simpa using h) (by simp [maxLen])
/-- the first ones of such a slice -/
theorem SlIn.take {α : Type} {w : World} {k : Nat} {enc : α → List Value} {xs : List α} {oa : Option Addr} {cap : Nat} (h : SlIn w (.slice oa xs.length cap) k enc xs) {n : Nat} (hn : n ≤ xs.length) : SlIn w (.slice oa n cap) k enc (xs.take n) := by
  obtain ⟨oa', cap', h1, h2, h3, h4⟩ := h
  simp only [Value.slice.injEq] at h1
  obtain ⟨rfl, _, rfl⟩ := h1
  have hl : (xs.take n).length = n := by simp; omega
  refine ⟨oa, cap, by rw [hl], by rw [hl]; omega, h3, fun h0 => ?_⟩
  obtain ⟨b, off, e, hb, hr⟩ := h4 (by omega)
  exact ⟨b, off, e, hb, fun j hj => by
    rw [hr j (by omega)]
    simp⟩
/-- append of one element onto such a slice -/
theorem wpList_push {α : Type} {P : Program} {ops : Array Oper} {rest : List Oper} {o : Oper} {a : Act} {w : World} {Q : Exit → Act → World → Prop} {t E : TypeId} {i : TypeInfo} {z : Value} {k bytes : Nat}
    (ht : P.underlying t = some (.slice E)) (hi : P.info? E = some i) (hz : i.zero = some z) (hsize : i.size = k) (hby : i.bytes = bytes) (hzs : z.cells.size = k) (hk0 : 0 < k)
    (enc : α → List Value) (hk : ∀ x, (enc x).length = k) (hone : ∀ x, allOne (enc x).toArray = true)
    (hgd : o.guard = none) (s x : Operand) (ho : o.op = .call { callee := .builtin .append, args := #[s, x], argTypes := #[t, t] })
    (base : Nat) (v : Value) (xs : List α) (y : α) (hs : a.eval s = v) (hown : OwnS w base E k enc v xs) (g : Nat) (hx : a.eval x = .slice (some ⟨g, 0, none⟩) 1 1) (hg : obj w g = some (.cells (enc y).toArray E (0, 0)))
    (hlen : xs.length ≤ 1048576) (hbt : bytes ≤ 4096) (hbase : base ≤ w.heap.size)
    (h : ∀ v' w', OwnS w' base E k enc v' (xs ++ [y]) → Below base w w' → (∀ k, k < w.heap.size → v.ownBlock ≠ some k → obj w' k = obj w k) → wpList P ops Q rest (a.put o.dst v') w') : wpList P ops Q (o :: rest) a w := by
  refine wpList_append_own (P := P) w hgd s x t ho base E i z k bytes ht hi hz hsize hby hzs hk0 v xs.length (xs.flatMap enc) hs hown.1 ⟨g, 0, none⟩ 1 1 (enc y) hx (by rw [hk, Nat.one_mul]) (fun j u hu => ?_) (fun u hu => ?_) (by unfold maxLen; omega) ?_ hbase ?_
  · rw [Addr.add_lit, cell_at hg]; simpa using hu
  · have := hone y; simp only [allOne, List.all_eq_true] at this; exact this u hu
  · have : (xs.length + 1) * bytes ≤ 1048577 * 4096 := Nat.mul_le_mul (by omega) hbt
    omega
  · intro v' w' h1 h2 h3
    refine h v' w' ⟨by simpa using h1, ?_⟩ ⟨h2.os, h2.tape, h2.output, h2.size, fun j hj => h2.block j (by omega) (fun e => ?_)⟩ (fun j hj hne => h2.block j hj (fun e => hne e.symm))
    · rw [h3]; simp
    · have := (hown.1.lt j e.symm).1; omega
/-! ### literals: what 'build' and 'buildSlice' lay -/
theorem foldl_set_get (off : Nat) : ∀ (l : List Value) (k : Nat) (cells : Array Value) (i : Nat), off + k + l.length ≤ cells.size →
    ((l.zipIdx k).foldl (fun cs x => cs.setIfInBounds (off + x.2) x.1) cells)[i]? = if off + k ≤ i ∧ i < off + k + l.length then l[i - (off + k)]? else cells[i]?
  | [], k, cells, i, _ => by simp; omega
  | v :: l, k, cells, i, h => by
    simp only [List.length_cons] at h
    rw [List.zipIdx_cons, List.foldl_cons, foldl_set_get off l (k + 1) _ i (by simp; omega)]
    by_cases h1 : off + (k + 1) ≤ i ∧ i < off + (k + 1) + l.length
    · rw [if_pos h1, if_pos (by simp; omega)]
      obtain ⟨d, hd⟩ : ∃ d, i - (off + k) = d + 1 := ⟨i - (off + k) - 1, by omega⟩
      rw [hd, List.getElem?_cons_succ]
      congr 1
      omega
    · rw [if_neg h1, Array.getElem?_setIfInBounds]
      by_cases h2 : off + k = i
      · subst h2
        rw [if_pos rfl, if_pos (by omega), if_pos (by simp)]
        simp
      · rw [if_neg h2, if_neg (by simp; omega)]
theorem foldl_splice (off : Nat) (cs cells : Array Value) (h : off + cs.size ≤ cells.size) : cs.zipIdx.foldl (fun acc x => acc.setIfInBounds (off + x.2) x.1) cells = spliceA cells off cs := by
  apply Array.ext_getElem?
  intro i
  rw [← Array.foldl_toList, Array.toList_zipIdx, foldl_set_get off cs.toList 0 cells i (by simpa using h)]
  simp only [spliceA, Nat.add_zero, Array.length_toList, List.getElem?_toArray]
  by_cases h1 : off ≤ i ∧ i < off + cs.size
  · rw [if_pos h1, List.append_assoc, List.getElem?_append_right (by simp; omega), List.getElem?_append_left (by simp; omega)]
    simp
    congr 1
    omega
  · rw [if_neg h1]
    by_cases h2 : i < off
    · rw [List.append_assoc, List.getElem?_append_left (by simp; omega), List.getElem?_take_of_lt h2]
      simp
    · rw [List.getElem?_append_right (by simp; omega), List.getElem?_drop]
      simp
      congr 1
      omega
/-- the parts laid, one after the other -/
def fillA (cells : Array Value) : List (Nat × Array Value) → Array Value
  | [] => cells
  | (off, cs) :: r => fillA (spliceA cells off cs) r
theorem fill_agg {place : Nat → Option (Nat × Nat)} {i off n : Nat} {cells : Array Value} {v : Value} {rest : List (Nat × Value)} (hp : place i = some (off, n)) (hv : v.cells.size = n) (hf : off + n ≤ cells.size) :
    Instr.fill place cells ((i, v) :: rest) = Instr.fill place (spliceA cells off v.cells) rest := by
  have e : v.cells.zipIdx.foldl (fun cs x => cs.setIfInBounds (off + x.2) x.1) cells = spliceA cells off v.cells := foldl_splice off v.cells cells (by omega)
  simp only [Instr.fill, hp, hv, ne_eq, not_true_eq_false, false_or, gt_iff_lt, show ¬ cells.size < off + n by omega, decide_false, Bool.or_self, Bool.false_eq_true, if_false]
  rw [← e]
/-- a slice written out; a struct or an array written out -/
def buildRow (t : TypeId) (n : Nat) (parts : Array (Nat × Value)) : Sem Value := Instr.buildSlice t n parts
def buildAgg (t : TypeId) (parts : Array (Nat × Value)) : Sem Value := Instr.build t parts
theorem run_buildOne {P : Program} {t e : TypeId} {ie : TypeInfo} {z : Value} {n : Nat} (hu : P.underlying t = some (.slice e)) (hie : P.info? e = some ie) (hz : ie.zero = some z) (hn : ie.size = n) (hpos : 0 < n) (hsm : n ≤ 1000)
    (cs : Array Value) (hcs : cs.size = n) (w : World) : (buildRow t 1 #[(0, .agg cs)]).run P w = .ok (.slice (some ⟨w.heap.size, 0, none⟩) 1 1) (w.alloc (.cells cs e)) := by
  refine run_buildSlice w t e 1 _ cs ie z hu hie hz (by omega) (by omega) ?_
  simp only [hn, Nat.one_mul]
  rw [fill_agg (place := fun i => some (i * n, n)) (off := 0) (n := n) (v := .agg cs) (by simp) hcs (by simp)]
  simp only [Value.cells, Instr.fill]
  rw [spliceA_all (by simp [hcs])]
/-! ### a region that draws: reads of cells that no call of the region touches are taken first, the rest is forced -/
theorem yieldsIf_agg {P : Program} {ops : Array Oper} {S : World → Prop} {op : Oper} {a : Act} (hw : Region.wanted op (yielded ops a.tmps) = true) (ty : TypeId) (x : Operand) (ho : op.op = .load ty x)
    (b off : Nat) (hx : a.eval x = .pointer (some ⟨b, off, none⟩)) {v : Value} (hl : ∀ W, S W → (loadAgg ty ⟨b, off, none⟩).run P W = .ok v W) : YieldsIf P ops S op v a :=
  .inl ⟨hw, fun w hw' => by
    have h1 : (loadVar ty ⟨b, off, none⟩).run P w = .ok v w := hl w hw'
    unfold execOp
    simp only [ho, hx, Instr.loadAt, Instr.sureAddr, Sem.run_bind, Sem.run_pure, Result.andThen_ok, h1]⟩
theorem yieldsIf_move {P : Program} {ops : Array Oper} {S : World → Prop} {op : Oper} {a : Act} (hw : Region.wanted op (yielded ops a.tmps) = true) (x : Operand) (ho : op.op = .move x) : YieldsIf P ops S op (a.eval x) a :=
  .inl ⟨hw, fun w _ => by unfold execOp; simp only [ho]; rfl⟩
end Go.Proofs.Ytfejhekoijemdaa
