import Derived.Test.YtfejhekoijemdaaRows
import Derived.WalkKit
import Derived.WalkSpells
import Derived.WalkLawsBesides
import Derived.Lib.Hide
import Derived.Deep.Draws
import Derived.BigQuiet
import Derived.StillTailTactics
namespace Go.Proofs.Ytfejhekoijemdaa
open Go.RowKit

/-! ### worlds -/
/-- what lies in a block; a name of its own, so that no rule on arrays takes it apart -/
def obj (w : World) (n : Nat) : Option Obj := w.heap[n]?
def putObj (w : World) (m : Nat) (o : Obj) : World := { w with heap := w.heap.setIfInBounds m o }

section
variable (w : World) (o : Obj) (a : Addr) (v : Value) (m n i : Nat)
@[go_sem] theorem putObj_drew : putObj w.drew m o = (putObj w m o).drew := rfl
@[go_sem] theorem putObj_drewN (k : Nat) : putObj (w.drewN k) m o = (putObj w m o).drewN k := rfl
@[go_sem, simp] theorem size_putObj : (putObj w m o).heap.size = w.heap.size := by simp [putObj]
@[go_sem] theorem putObj_alloc (o' : Obj) (h : m < w.heap.size) : putObj (w.alloc o') m o = (putObj w m o).alloc o' := by
  unfold putObj World.alloc
  congr 1
  apply Array.ext_getElem?
  intro k
  by_cases hk : m = k
  · subst hk
    rw [Array.getElem?_push_lt (by simpa using h), Array.getElem?_setIfInBounds_self_of_lt (by simp; omega)]
    simp
  · simp [Array.getElem?_push, Array.getElem?_setIfInBounds_ne hk]
theorem obj_drew' : obj w.drew n = obj w n := rfl
theorem obj_drewN' (k : Nat) : obj (w.drewN k) n = obj w n := rfl
@[go_sem] theorem obj_drew : obj w.drew n = obj w n := by rw [obj_drew']
@[go_sem] theorem obj_drewN (k : Nat) : obj (w.drewN k) n = obj w n := by rw [obj_drewN']
@[go_sem] theorem obj_alloc_past (h : n < w.heap.size) : obj (w.alloc o) n = obj w n := (Go.MapKept.heap_alloc w o).2 n h
@[go_sem] theorem obj_alloc_at (h : n = w.heap.size) : obj (w.alloc o) n = some o := by
  subst h; exact (Go.MapKept.heap_alloc w o).1
@[go_sem] theorem obj_setCell_ne (h : n ≠ a.block) : obj (w.setCell a v) n = obj w n := Below.heap_setCell w a v n h
@[go_sem] theorem obj_putObj_ne (h : n ≠ m) : obj (putObj w m o) n = obj w n := by
  simp [putObj, obj, Ne.symm h]
theorem obj_putObj_eq (h : m < w.heap.size) : obj (putObj w m o) m = some o := by
  simp [putObj, obj, h]
@[go_sem] theorem cell_putObj_ne (h : n ≠ m) : (putObj w m o).cell? ⟨n, i, none⟩ = w.cell? ⟨n, i, none⟩ :=
  World.cell?_of_block (w := w) (a := ⟨n, i, none⟩) (obj_putObj_ne w o m n h)
@[go_sem] theorem frozen_putObj_ne (h : n ≠ m) : (putObj w m o).frozen? ⟨n, i, none⟩ = w.frozen? ⟨n, i, none⟩ :=
  World.frozen?_of_block (w := w) (a := ⟨n, i, none⟩) (obj_putObj_ne w o m n h)
end
theorem obj_setCell_at {w : World} {b i : Nat} {cs : Array Value} {T : TypeId} {fr : Nat × Nat} (v : Value) (h : obj w b = some (.cells cs T fr)) :
    obj (w.setCell ⟨b, i, none⟩ v) b = some (.cells (cs.setIfInBounds i v) T fr) := by
  unfold obj at *
  simp [World.setCell, Array.getElem?_modify, h]
def setC (a : Addr) (v : Value) : Obj → Obj
  | .cells c e f => .cells (if a.spot.isSome then c else c.setIfInBounds a.off v) e f
  | o => o
theorem obj_setCell (w : World) (a : Addr) (v : Value) (n : Nat) : obj (w.setCell a v) n = if n = a.block then (obj w n).map (setC a v) else obj w n := by
  by_cases h : n = a.block
  · subst h
    unfold obj
    simp only [World.setCell, Array.getElem?_modify, if_true]
    congr 1
  · rw [if_neg h, obj_setCell_ne _ _ _ _ h]
theorem obj_putObj (w : World) (m n : Nat) (o : Obj) : obj (putObj w m o) n = if n = m then (obj w n).map (fun _ => o) else obj w n := by
  by_cases h : n = m
  · subst h
    rw [if_pos rfl]
    unfold obj putObj
    by_cases hn : n < w.heap.size
    · simp [hn]
    · simp [hn]
  · rw [if_neg h, obj_putObj_ne _ _ _ _ h]
theorem cell_at {w : World} {b : Nat} {cs : Array Value} {T : TypeId} {fr : Nat × Nat} (h : obj w b = some (.cells cs T fr)) (i : Nat) : w.cell? ⟨b, i, none⟩ = cs[i]? := by
  unfold obj at h
  simp [World.cell?, h]
theorem frozen_at {w : World} {b : Nat} {cs : Array Value} {T : TypeId} (h : obj w b = some (.cells cs T (0, 0))) (i : Nat) : w.frozen? ⟨b, i, none⟩ = false := by
  unfold obj at h
  simp [World.frozen?, h]
theorem lt_of_obj {w : World} {b : Nat} {o : Obj} (h : obj w b = some o) : b < w.heap.size := (Array.getElem?_eq_some_iff.1 h).1

structure Keeps (F : Nat → Prop) (w w' : World) : Prop where
  os : w'.os = w.os
  tape : w'.tape = w.tape
  output : w'.output = w.output
  size : w.heap.size ≤ w'.heap.size
  block : ∀ k, k < w.heap.size → ¬ F k → obj w' k = obj w k
theorem Keeps.refl (F : Nat → Prop) (w : World) : Keeps F w w := ⟨rfl, rfl, rfl, Nat.le_refl _, fun _ _ _ => rfl⟩
theorem Keeps.below {F : Nat → Prop} {w w' : World} {B : Nat} (h : Keeps F w w') (hF : ∀ k, F k → B ≤ k) (hB : B ≤ w.heap.size) : Below B w w' :=
  ⟨h.os, h.tape, h.output, h.size, fun k hk => h.block k (by omega) fun hf => by have := hF k hf; omega⟩
theorem obj_below {w w' : World} {B n : Nat} (h : Below B w w') (hn : n < B) : obj w' n = obj w n := h.block n hn
theorem Keeps.of_below {F : Nat → Prop} {w w' : World} (h : Below w.heap.size w w') : Keeps F w w' := ⟨h.os, h.tape, h.output, h.size, fun k hk _ => h.block k hk⟩
theorem Keeps.drew {F : Nat → Prop} {w w' : World} (h : Keeps F w w') : Keeps F w w'.drew := ⟨h.os, h.tape, h.output, h.size, h.block⟩
theorem Keeps.drewN {F : Nat → Prop} {w w' : World} (h : Keeps F w w') (n : Nat) : Keeps F w (w'.drewN n) := ⟨h.os, h.tape, h.output, h.size, h.block⟩
theorem Keeps.setCell {F : Nat → Prop} {w w' : World} (h : Keeps F w w') {a : Addr} (ha : F a.block ∨ w.heap.size ≤ a.block) (v : Value) : Keeps F w (w'.setCell a v) :=
  ⟨h.os, h.tape, h.output, by simpa using h.size, fun k hk hf => by
    rw [obj_setCell_ne _ _ _ _ (by rintro rfl; rcases ha with ha | ha; exact hf ha; omega)]; exact h.block k hk hf⟩
theorem Keeps.putObj {F : Nat → Prop} {w w' : World} (h : Keeps F w w') {m : Nat} (ha : F m) (o : Obj) : Keeps F w (putObj w' m o) :=
  ⟨h.os, h.tape, h.output, by rw [size_putObj]; exact h.size, fun k hk hf => by rw [obj_putObj_ne _ _ _ _ (by rintro rfl; exact hf ha)]; exact h.block k hk hf⟩
theorem Keeps.alloc {F : Nat → Prop} {w w' : World} (h : Keeps F w w') (o : Obj) : Keeps F w (w'.alloc o) :=
  ⟨h.os, h.tape, h.output, by have := h.size; simp; omega, fun k hk hf => by rw [obj_alloc_past _ _ _ (by have := h.size; omega)]; exact h.block k hk hf⟩
theorem Keeps.mono {F G : Nat → Prop} {w w' : World} (h : Keeps F w w') (hFG : ∀ k, F k → G k) : Keeps G w w' :=
  ⟨h.os, h.tape, h.output, h.size, fun k hk hf => h.block k hk fun hk' => hf (hFG k hk')⟩
theorem Keeps.trans {F : Nat → Prop} {a b c : World} (h : Keeps F a b) (k : Keeps F b c) : Keeps F a c :=
  ⟨k.os.trans h.os, k.tape.trans h.tape, k.output.trans h.output, Nat.le_trans h.size k.size,
    fun i hi hf => (k.block i (Nat.lt_of_lt_of_le hi h.size) hf).trans (h.block i hi hf)⟩

/-! ### a region that draws: quiet operations, then a forced tail -/
theorem still_of_quiet {P : Program} {ops : Array Oper} {w : World} {Q : Act → Prop} : ∀ (l : List Oper) (a : Act),
    wpQuiet P ops (fun w' => w' = w) Q l a → wpStill P ops w Q l a
  | [], _, h => h
  | o :: l, a, h => by
    unfold wpQuiet at h
    unfold wpStill
    split
    · rename_i hw
      rw [if_pos hw] at h
      obtain ⟨v, h1, h2⟩ := h
      have h3 := h1 w rfl
      unfold Oper.quietAt at h3
      unfold Oper.still
      generalize (execOp a.eval o).run P w = r at *
      have ih := still_of_quiet l _ h2
      cases r with
      | ok n w' =>
        cases n <;> simp only [Oper.quietUpon] at h3 <;> simp only [Oper.stillUpon]
        case value u => exact ⟨h3.1, by rw [h3.2]; exact ih⟩
        case skip => exact ⟨h3.1, by rw [← h3.2]; exact ih⟩
        case enter f args => exact ⟨h3.1, v, h3.2, ih⟩
      | halt x w' => simp only [Oper.quietUpon] at h3
    · rename_i hw
      rw [if_neg hw] at h
      exact still_of_quiet l _ h
theorem wp_region_quiet_tail {P : Program} {id : Nat} {Q : Exit → Act → World → Prop} {a : Act} {w : World} {l : List Oper} (n : Nat) (hm : P.follows .mixedOrders = true) (hB : Region.lexTailB .any l.toArray n = true)
    (h : wpQuiet P l.toArray (fun w' => w' = w.drew) (fun a' => wpList P l.toArray Q (l.drop n) a' w.drew) (l.take n) a) : (Code.region id l.toArray true).wp P Q a w :=
  wp_region_still_tail n hm hB (still_of_quiet _ _ h)
/-! ### a region that draws: calls that make memory -/
/-- a world in which all that was there stands as it did -/
structure Later (W : World) where
  w : World
  h : Below W.heap.size W w
instance later_nonempty (W : World) : Nonempty (Later W) := ⟨⟨W, Below.refl _ _⟩⟩
section
variable {P : Program} {ops : Array Oper} {md : Region.Mode} {C : World → Prop}
/-- the operations below n in whatever order, each quiet in the class; then what L says -/
def headQ (P : Program) (md : Region.Mode) (ops : Array Oper) (C : World → Prop) (n : Nat) (L : Array Bool → Act → Prop) : Nat → Array Bool → Act → Prop
  | 0, listed, a => L listed a
  | f + 1, listed, a => Region.ready md ops listed ≠ [] ∧ ∀ i ∈ Region.ready md ops listed, i < n ∧ qOp P ops C i (headQ P md ops C n L f (listed.setIfInBounds i true)) a

theorem headQ_any {n g : Nat} {L : Array Bool → Act → Prop} {Q' : Exit → Act → World → Prop} (hL : ∀ listed a w, C w → L listed a → wpAny P md ops Q' g listed a w) :
    ∀ (f : Nat) (listed : Array Bool) (a : Act) (w : World), C w → headQ P md ops C n L f listed a → wpAny P md ops Q' (f + g) listed a w := by
  intro f
  induction f with
  | zero => intro listed a w hw h; rw [Nat.zero_add]; exact hL _ _ _ hw h
  | succ f ih =>
    intro listed a w hw h
    rw [show f + 1 + g = (f + g) + 1 by omega]
    exact ⟨fun h0 => absurd h0 h.1, fun i hi => wpOp_of_qOp hw (fun a' w' hw' h' => ih _ a' w' hw' h') (h.2 i hi).2⟩

theorem headQ_first {n i : Nat} {oi : Oper} {v : Value} {L : Array Bool → Act → Prop} (hi : ops[i]? = some oi) (hsel : ∀ (j : Nat) (o : Oper) cs b, ops[j]? = some o → o.op ≠ .select cs b)
    (hs : Region.sinkB md ops n = true) (hc : Region.chainB md ops n = true) (hn : n < ops.size) (hin : i < n)
    (hdone : ∀ listed a, L listed a → ∀ j ∈ Region.ready md ops listed, n ≤ j) :
    ∀ (f : Nat) (listed : Array Bool) (a : Act), HeadInv md ops n listed →
      (∀ j oj, ops[j]? = some oj → j ≠ i → listed.getD j true = false → (∀ e ∈ oj.after, Region.binds md e = true → e.on ≠ i) → oi.apart ops oj = true) →
      i ∈ Region.ready md ops listed → YieldsIn P ops C oi v a →
      headQ P md ops C n L f (listed.setIfInBounds i true) (a.put oi.dst v) → headQ P md ops C n L (f + 1) listed a := by
  intro f
  induction f with
  | zero =>
    intro listed a inv _ hr hy H
    refine ⟨fun h => (by rw [h] at hr; cases hr), fun j hj => ?_⟩
    have hjn : j < n := Nat.lt_of_not_le fun h => tail_waits hs hc hn inv _ i rfl hin (mem_ready.1 hr).1 j h hj
    by_cases hji : j = i
    · subst hji; exact ⟨hjn, hy.qOp hi H⟩
    · exact absurd (hdone _ _ H j (ready_mono hj hji)) (by omega)
  | succ f ih =>
    intro listed a inv hfree hr hy H
    refine ⟨fun h => (by rw [h] at hr; cases hr), fun j hj => ?_⟩
    have hun := (mem_ready.1 hr).1
    have hjn : j < n := Nat.lt_of_not_le fun h => tail_waits hs hc hn inv _ i rfl hin hun j h hj
    refine ⟨hjn, ?_⟩
    by_cases hji : j = i
    · subst hji; exact hy.qOp hi H
    · obtain ⟨hjun, oj, hoj, hall⟩ := mem_ready.1 hj
      have hnot : ∀ e ∈ oj.after, Region.binds md e = true → e.on ≠ i := fun e he hb heq => by
        have := hall e he hb
        rw [heq, getD_both hun] at this
        cases this
      refine qOp_mono (fun a' h3 => ih (listed.setIfInBounds j true) a' (inv.set hj hjn) (fun k ok hk hki hun' hno => hfree k ok hk hki ?_ hno) (ready_mono hr (Ne.symm hji)) h3.1 ?_)
        (qOp_put hoj (hfree j oj hoj hji hjun hnot) (fun cs b => hsel i oi cs b hi) (fun cs b => hsel j oj cs b hoj) hy (H.2 j (ready_mono hj hji)).2)
      · by_cases hjk : j = k
        · subst hjk; exact hjun
        · rw [getD_set_ne true hjk] at hun'; exact hun'
      · rw [Array.setIfInBounds_comm _ _ hji]
        exact h3.2

theorem headQ_lex {n g : Nat} {Lq : Act → Prop} (hsel : Region.noSelect ops = true) (hs : Region.sinkB md ops n = true) (hc : Region.chainB md ops n = true) (hn : n < ops.size) :
    ∀ (l : List Oper) (k : Nat) (listed : Array Bool) (a : Act), (∀ j, j < l.length → l[j]? = ops[k + j]?) → k + l.length = n → HeadInv md ops n listed →
    Region.lexHead md ops g l.length k listed = true → wpQuiet P ops C Lq l a →
    headQ P md ops C n (fun listed' a' => Region.seqB md ops g n listed' = true ∧ Lq a') l.length listed a
  | [], k, listed, a, _, hk, _, hB, h => by
    obtain rfl : k = n := by simpa using hk
    exact ⟨by simpa [Region.lexHead] using hB, h⟩
  | o :: l, k, listed, a, hl, hk, inv, hB, h => by
    have h0 : ops[k]? = some o := by simpa using (hl 0 (by simp)).symm
    simp only [List.length_cons, Region.lexHead, Bool.and_eq_true] at hB
    simp only [List.length_cons] at hk
    have hr' : k ∈ Region.ready md ops listed := by simpa using hB.1.1
    obtain ⟨v, hy, hK⟩ := yieldsIn_of_qOp (C := C) h0 (show qOp P ops C k (wpQuiet P ops C Lq l) a by unfold qOp; simp only [h0]; exact h)
    exact headQ_first h0 (Region.noSelect_spec hsel) hs hc hn (by omega) (fun listed' a' hL => seqB_ready hL.1) l.length listed a inv (Region.free_spec h0 hB.1.2) hr' hy
      (headQ_lex hsel hs hc hn l (k + 1) _ _ (fun j hj => by have := hl (j + 1) (by simp; omega); simpa [Nat.add_assoc, Nat.add_comm 1 j] using this) (by omega) (inv.set hr' (by omega)) hB.2 hK)

/-- a region that draws: a head of quiet operations in a class of worlds, then a forced tail, walked in every world of the class -/
theorem wp_region_head_tail {id : Nat} {Q : Exit → Act → World → Prop} {a : Act} {w : World} {l : List Oper} (n : Nat) (hm : P.follows .mixedOrders = true) (hB : Region.lexTailB .any l.toArray n = true) (hC : C w.drew)
    (h : wpQuiet P l.toArray C (fun a' => ∀ w', C w' → wpList P l.toArray Q (l.drop n) a' w') (l.take n) a) : (Code.region id l.toArray true).wp P Q a w := by
  simp only [Region.lexTailB, Bool.and_eq_true, decide_eq_true_eq] at hB
  obtain ⟨⟨⟨⟨hsel, hn⟩, hs⟩, hc⟩, hlex⟩ := hB
  have htl : (l.take n).length = n := by simp at hn ⊢; omega
  have hdl : (l.drop n).length = l.toArray.size - n := by simp
  have inv0 : HeadInv .any l.toArray n (Array.replicate l.toArray.size false) :=
    ⟨by simp, fun j oj _ hl => (by rw [getD_replicate_false] at hl; cases hl), fun t _ ht => getD_in (by simpa using ht) (getD_replicate_false _ _)⟩
  have H := headQ_lex (md := .any) (g := l.toArray.size - n) (C := C) hsel hs hc hn (l.take n) 0 _ a (fun j hj => by
    rw [htl] at hj
    simp [hj]) (by simpa using htl) inv0 (by rw [htl]; exact hlex) h
  refine wp_region_any hm ?_
  have := headQ_any (Q' := Q) (g := l.toArray.size - n) (fun listed a' w' hw' hL => by
    have := wpAny_of_seq (md := .any) (Q' := Q) (l.drop n) n listed a' w' (fun j => by simp [List.getElem?_drop]) (by rw [hdl]; exact hL.1) (hL.2 w' hw')
    rwa [hdl] at this) _ _ _ w.drew hC H
  rw [htl, show n + (l.toArray.size - n) = l.toArray.size by omega] at this
  exact this
end
section
variable {P : Program}
/-- all of the region quiet, its calls free to make memory; W0: a world at or ahead of the region's, of which the cells are known -/
theorem wp_region_later {id : Nat} {Q : Exit → Act → World → Prop} {a : Act} {w : World} {l : List Oper} (W0 : World) (h0 : Below W0.heap.size W0 w) (hm : P.follows .mixedOrders = true) (hB : Region.lexB .any l.toArray = true)
    (h : wpQuiet P l.toArray (fun w' => ∃ x : Later W0, w' = x.w) (fun a' => ∀ w', (∃ x : Later W0, w' = x.w) → Q .normal a' w') l a) : (Code.region id l.toArray true).wp P Q a w :=
  wp_region_quiet (C := fun w' => ∃ x : Later W0, w' = x.w) hm hB ⟨⟨w.drew, h0.drew⟩, rfl⟩ (by simpa using h)
/-- .. then a forced tail -/
theorem wp_region_later_tail {id : Nat} {Q : Exit → Act → World → Prop} {a : Act} {w : World} {l : List Oper} (W0 : World) (h0 : Below W0.heap.size W0 w) (n : Nat) (hm : P.follows .mixedOrders = true) (hB : Region.lexTailB .any l.toArray n = true)
    (h : wpQuiet P l.toArray (fun w' => ∃ x : Later W0, w' = x.w) (fun a' => ∀ w', (∃ x : Later W0, w' = x.w) → wpList P l.toArray Q (l.drop n) a' w') (l.take n) a) : (Code.region id l.toArray true).wp P Q a w :=
  wp_region_head_tail (C := fun w' => ∃ x : Later W0, w' = x.w) n hm hB ⟨⟨w.drew, h0.drew⟩, rfl⟩ h
theorem below_drewN {B : Nat} {a w : World} (h : Below B a w) (n : Nat) : Below B a (w.drewN n) := ⟨h.os, h.tape, h.output, h.size, h.block⟩
@[go_sem] theorem later_cell {w : World} (x : Later w) (a : Addr) (h : a.block < w.heap.size) : x.w.cell? a = w.cell? a := x.h.cell h
@[go_sem] theorem later_frozen {w : World} (x : Later w) (a : Addr) (h : a.block < w.heap.size) : x.w.frozen? a = w.frozen? a := x.h.frozen h
@[go_sem] theorem later_obj {w : World} (x : Later w) (n : Nat) (h : n < w.heap.size) : obj x.w n = obj w n := x.h.block n h
@[go_sem] theorem later_lt {w : World} (x : Later w) (n : Nat) (h : n < w.heap.size) : (n < x.w.heap.size) = True := by
  have := x.h.size
  simp; omega
/-- a contract that makes memory alone, met in a later world -/
theorem Calls.later {f : FuncId} {args : Array Value} {w : World} {x : Later w} {v : Value}
    (h : Calls P f args x.w fun e w' => e = .returned v ∧ Below x.w.heap.size x.w w') : Calls P f args x.w fun e w'' => e = .returned v ∧ ∃ y : Later w, w'' = y.w :=
  h.mono fun _ w'' ⟨he, hb⟩ => ⟨he, ⟨w'', x.h.trans (hb.mono x.h.size)⟩, rfl⟩
theorem Calls.later_same {f : FuncId} {args : Array Value} {w : World} {x : Later w} {v : Value}
    (h : Calls P f args x.w fun e w' => e = .returned v ∧ x.w = w') : Calls P f args x.w fun e w'' => e = .returned v ∧ ∃ y : Later w, w'' = y.w :=
  h.mono fun _ w'' ⟨he, hb⟩ => ⟨he, x, hb.symm⟩
end
/-! ### maps with int64 keys -/
def aPut {ν : Type} (k : Int) (v : ν) : List (Int × ν) → List (Int × ν)
  | [] => [(k, v)]
  | (j, u) :: r => if k = j then (j, v) :: r else (j, u) :: aPut k v r
def aDel {ν : Type} (k : Int) : List (Int × ν) → List (Int × ν)
  | [] => []
  | (j, u) :: r => if k = j then r else (j, u) :: aDel k r
def aGet {ν : Type} (k : Int) : List (Int × ν) → Option ν
  | [] => none
  | (j, u) :: r => if k = j then some u else aGet k r

def entI {ν : Type} (enc : ν → Value) (e : MapEntry) : (Int × ν) → Prop := fun x => e.key = .int .i64 x.1 ∧ e.val = enc x.2
def RepI {ν : Type} (enc : ν → Value) : List MapEntry → List (Int × ν) → Prop
  | [], [] => True
  | e :: es, x :: xs => (e.key = .int .i64 x.1 ∧ e.val = enc x.2) ∧ RepI enc es xs
  | _, _ => False
def MapI {ν : Type} (w : World) (m : Nat) (enc : ν → Value) (L : List (Int × ν)) : Prop :=
  ∃ es clk, obj w m = some (.map es clk) ∧ RepI enc es.toList L

theorem RepI.length {ν : Type} {enc : ν → Value} : ∀ {es : List MapEntry} {L : List (Int × ν)}, RepI enc es L → es.length = L.length
  | [], [], _ => rfl
  | _ :: _, _ :: _, h => by simp [RepI.length h.2]
  | [], _ :: _, h => h.elim
  | _ :: _, [], h => h.elim

def aIdx {ν : Type} (k : Int) : List (Int × ν) → Nat → Option (Nat × ν)
  | [], _ => none
  | (j, u) :: r, i => if k = j then some (i, u) else aIdx k r (i + 1)
theorem aIdx_get {ν : Type} (k : Int) : ∀ (L : List (Int × ν)) (i : Nat), (aIdx k L i).map (·.2) = aGet k L
  | [], _ => rfl
  | (j, u) :: r, i => by unfold aIdx aGet; split <;> simp [aIdx_get k r]
theorem findNow_int {ν : Type} {enc : ν → Value} (k : Int) : ∀ {es : List MapEntry} {L : List (Int × ν)} (i : Nat), RepI enc es L →
    Instr.findNow (.int .i64) (.int .i64 k) es i = some ((aIdx k L i).map fun x => (x.1, enc x.2))
  | [], [], i, _ => rfl
  | e :: es, (j, u) :: L, i, h => by
    have ih := findNow_int (enc := enc) k (i + 1) h.2
    have h1 : e.key = .int .i64 j := h.1.1
    have h2 : e.val = enc u := h.1.2
    simp only [Instr.findNow, h1, Instr.sameNow, if_true, aIdx]
    by_cases hj : k = j
    · subst hj; simp [h2]
    · have hb : (k == j) = false := by simpa using hj
      simp only [hb, ih, if_neg hj]
  | [], _ :: _, _, h => h.elim
  | _ :: _, [], _, h => h.elim

theorem aIdx_ge {ν : Type} (k : Int) : ∀ (L : List (Int × ν)) (i j : Nat) (u : ν), aIdx k L i = some (j, u) → i ≤ j
  | [], _, _, _, h => by simp [aIdx] at h
  | (a, b) :: r, i, j, u, h => by
    unfold aIdx at h
    split at h
    · simp at h; omega
    · have := aIdx_ge k r (i + 1) j u h; omega
theorem aIdx_shift {ν : Type} (k : Int) : ∀ (L : List (Int × ν)) (i : Nat), aIdx k L (i + 1) = (aIdx k L i).map fun x => (x.1 + 1, x.2)
  | [], _ => rfl
  | (j, u) :: r, i => by unfold aIdx; split <;> simp [aIdx_shift k r]
theorem RepI.found {ν : Type} {enc : ν → Value} (k : Int) : ∀ {es : List MapEntry} {L : List (Int × ν)} {i : Nat} {u : ν}, RepI enc es L → aIdx k L 0 = some (i, u) →
    ∃ e, es[i]? = some e ∧ e.key = .int .i64 k ∧ (∀ v, RepI enc (es.modify i fun e => { e with key := .int .i64 k, val := enc v }) (aPut k v L)) ∧ RepI enc (es.eraseIdx i) (aDel k L)
  | [], [], _, _, _, h => by simp [aIdx] at h
  | e :: es, (j, x) :: L, i, u, hr, h => by
    obtain ⟨⟨h1, h2⟩, h3⟩ := hr
    simp only at h1 h2
    unfold aIdx at h
    by_cases hj : k = j
    · subst hj
      simp at h
      obtain ⟨rfl, rfl⟩ := h
      exact ⟨e, rfl, h1, fun v => by simp [aPut, RepI, h3], by simpa [aDel] using h3⟩
    · rw [if_neg hj, aIdx_shift] at h
      cases hx : aIdx k L 0 with
      | none => simp [hx] at h
      | some y =>
        obtain ⟨i', u'⟩ := y
        simp [hx] at h
        obtain ⟨rfl, rfl⟩ := h
        obtain ⟨e', g1, g2, g3, g4⟩ := RepI.found k h3 hx
        exact ⟨e', by simpa using g1, g2, fun v => by simp [aPut, hj, RepI, h1, h2, g3 v], by simp [aDel, hj, RepI, h1, h2, g4]⟩
  | [], _ :: _, _, _, h, _ => h.elim
  | _ :: _, [], _, _, h, _ => h.elim
theorem RepI.absent {ν : Type} {enc : ν → Value} (k : Int) : ∀ {es : List MapEntry} {L : List (Int × ν)}, RepI enc es L → aIdx k L 0 = none →
    (∀ v b, RepI enc (es ++ [{ key := .int .i64 k, val := enc v, born := b }]) (aPut k v L)) ∧ aDel k L = L
  | [], [], _, _ => ⟨fun v b => by simp [aPut, RepI], rfl⟩
  | e :: es, (j, x) :: L, hr, h => by
    obtain ⟨⟨h1, h2⟩, h3⟩ := hr
    simp only at h1 h2
    unfold aIdx at h
    by_cases hj : k = j
    · simp [hj] at h
    · rw [if_neg hj, aIdx_shift] at h
      have hx : aIdx k L 0 = none := by simpa using h
      obtain ⟨g1, g2⟩ := RepI.absent k h3 hx
      exact ⟨fun v b => by simp [aPut, hj, RepI, h1, h2, g1 v b], by simp [aDel, hj, g2]⟩
  | [], _ :: _, h, _ => h.elim
  | _ :: _, [], h, _ => h.elim

section
variable {P : Program} {ν : Type} {enc : ν → Value} {w : World} {m : Nat} {t kt et : TypeId} {L : List (Int × ν)}
theorem run_findKey_int (hk : P.underlying kt = some (.int .i64)) {es : List MapEntry} (h : RepI enc es L) (k : Int) :
    (Instr.findKey kt (.int .i64 k) es).run P w = .ok ((aIdx k L 0).map fun x => (x.1, enc x.2)) w := by
  simp [Instr.findKey, run_underlying hk, findNow_int k 0 h]
theorem run_checkKey_int (hk : P.underlying kt = some (.int .i64)) (b : Bool) (k : Int) : (Instr.checkKey b 10000 kt (.int .i64 k)).run P w = .ok () w := by
  unfold Instr.checkKey
  simp [run_underlying hk]

theorem run_lookup_int (ht : P.underlying t = some (.map kt et)) (hk : P.underlying kt = some (.int .i64)) {z : Value} (hz : ∀ w, (zeroValue et).run P w = .ok z w)
    (h : MapI w m enc L) (k : Int) : (Instr.lookup t (.map (some m)) (.int .i64 k) true).run P w =
      .ok (match aGet k L with | some v => .tuple #[enc v, .bool true] | none => .tuple #[z, .bool false]) w := by
  obtain ⟨es, clk, hb, hr⟩ := h
  simp only [Instr.lookup, Sem.run_bind, run_underlying ht, Result.andThen_ok, MapKept.run_getObj_map hb, Sem.run_pure, run_checkKey_int hk, run_findKey_int hk hr]
  rw [← aIdx_get k L 0]
  cases aIdx k L 0 <;> simp [hz]
theorem run_lookup1_int (ht : P.underlying t = some (.map kt et)) (hk : P.underlying kt = some (.int .i64)) {z : Value} (hz : ∀ w, (zeroValue et).run P w = .ok z w)
    (h : MapI w m enc L) (k : Int) : (Instr.lookup t (.map (some m)) (.int .i64 k) false).run P w =
      .ok (match aGet k L with | some v => enc v | none => z) w := by
  obtain ⟨es, clk, hb, hr⟩ := h
  simp only [Instr.lookup, Sem.run_bind, run_underlying ht, Result.andThen_ok, MapKept.run_getObj_map hb, Sem.run_pure, run_checkKey_int hk, run_findKey_int hk hr]
  rw [← aIdx_get k L 0]
  cases aIdx k L 0 <;> simp [hz]
/-- a store into a map, told of every world that holds it -/
theorem run_mapUpdate_int (ht : P.underlying t = some (.map kt et)) (hk : P.underlying kt = some (.int .i64))
    {es : Array MapEntry} {clk : Nat} (hr : RepI enc es.toList L) (m : Nat) (k : Int) (v : ν) : ∃ es' clk', (∀ w : World, obj w m = some (.map es clk) → (Instr.mapUpdate t (.map (some m)) (.int .i64 k) (enc v)).run P w = .ok () (putObj w m (.map es' clk'))) ∧
      RepI enc es'.toList (aPut k v L) := by
  cases hi : aIdx k L 0 with
  | none =>
    obtain ⟨g1, _⟩ := RepI.absent k hr hi
    refine ⟨es.push { key := .int .i64 k, val := enc v, born := clk }, clk + 1, fun w hb => ?_, by simpa using g1 v clk⟩
    simp only [Instr.mapUpdate, Sem.run_bind, run_underlying ht, Result.andThen_ok, MapKept.run_getObj_map hb, run_checkKey_int hk, run_findKey_int hk hr, hi, Option.map_none,
      MapKept.run_setObj_map _ hb, putObj]
  | some x =>
    obtain ⟨i, u⟩ := x
    obtain ⟨e, g1, g2, g3, _⟩ := RepI.found k hr hi
    have g1' : es[i]? = some e := by simpa using g1
    refine ⟨es.modify i fun e => { e with key := .int .i64 k, val := enc v }, clk, fun w hb => ?_, by simpa using g3 v⟩
    simp only [Instr.mapUpdate, Sem.run_bind, run_underlying ht, Result.andThen_ok, MapKept.run_getObj_map hb, run_checkKey_int hk, run_findKey_int hk hr, hi, Option.map_some,
      g1', Option.getD_some, g2, Instr.keyThatStays, Instr.sameBits, beq_self_eq_true, Bool.and_self, if_true, Sem.run_pure, MapKept.run_setObj_map _ hb, putObj]
theorem run_delete_int (ht : P.underlying t = some (.map kt et)) (hk : P.underlying kt = some (.int .i64)) (ty : TypeId) (ks : TypeId)
    {es : Array MapEntry} {clk : Nat} (hr : RepI enc es.toList L) (m : Nat) (k : Int) : ∃ es', (∀ w : World, obj w m = some (.map es clk) → (Builtin.delete_ #[t, ks] ty #[.map (some m), .int .i64 k]).run P w = .ok (.tuple #[]) (putObj w m (.map es' clk))) ∧
      RepI enc es'.toList (aDel k L) := by
  cases hi : aIdx k L 0 with
  | none =>
    obtain ⟨_, g1⟩ := RepI.absent k hr hi
    refine ⟨es, fun w hb => ?_, by rw [g1]; exact hr⟩
    simp [Builtin.delete_, run_underlying ht, MapKept.run_getObj_map hb, run_checkKey_int hk, run_findKey_int hk hr, hi, MapKept.run_setObj_map _ hb, putObj]
  | some x =>
    obtain ⟨i, u⟩ := x
    obtain ⟨e, g1, g2, _, g3⟩ := RepI.found k hr hi
    refine ⟨es.eraseIdxIfInBounds i, fun w hb => ?_, by simpa [Array.toList_eraseIdxIfInBounds] using g3⟩
    simp [Builtin.delete_, run_underlying ht, MapKept.run_getObj_map hb, run_checkKey_int hk, run_findKey_int hk hr, hi, MapKept.run_setObj_map _ hb, putObj]
theorem run_len_int (ht : P.underlying t = some (.map kt et)) (ty : TypeId) (h : MapI w m enc L) :
    (Builtin.len_ #[t] ty #[.map (some m)]).run P w = .ok (.int .i64 L.length) w := by
  obtain ⟨es, clk, hb, hr⟩ := h
  have := hr.length
  simp at this
  simp [Builtin.len_, run_underlying ht, MapKept.run_getObj_map hb, goInt, this]
end
end Go.Proofs.Ytfejhekoijemdaa
