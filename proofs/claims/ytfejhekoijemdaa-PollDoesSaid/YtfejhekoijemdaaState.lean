import Derived.Test.YtfejhekoijemdaaModel
import Derived.Test.YtfejhekoijemdaaAdd
import Derived.Test.YtfejhekoijemdaaMode
import Derived.Test.YtfejhekoijemdaaGoT
namespace Go.Proofs.Ytfejhekoijemdaa
open Go.RowKit

/-! ### polls, as they lie in a heap -/
def intV (n : Int) : Value := .int .i64 n
def ptrV (p : Nat × Nat) : Value := .pointer (some ⟨p.1, 0, none⟩)
def ptrL (p : Nat × Nat) : List Value := [ptrV p]
theorem ptrL_length (p : Nat × Nat) : (ptrL p).length = 1 := rfl
theorem flat_ptr (ps : List (Nat × Nat)) : ps.flatMap ptrL = ps.map ptrV := by
  induction ps with
  | nil => rfl
  | cons p r ih => rw [List.flatMap_cons, ih]; rfl
/-- votes in blocks of V -/
def VoteAt (w : World) (V : Nat → Prop) (v : Value) (l : List Vt) : Prop :=
  SlIn w v 33 vtL l ∧ ∀ b off len cap, v = .slice (some ⟨b, off, none⟩) len cap → 0 < l.length → V b
theorem VoteAt.frame {w W : World} {V V' : Nat → Prop} {v : Value} {l : List Vt} (h : VoteAt w V v l) (hz : w.heap.size ≤ W.heap.size) (hk : ∀ n, n < w.heap.size → V n → obj W n = obj w n) (hV : ∀ n, V n → V' n) : VoteAt W V' v l := by
  obtain ⟨⟨oa, cap, rfl, h1, h2, h3⟩, h4⟩ := h
  refine ⟨⟨oa, cap, rfl, h1, h2, fun h0 => ?_⟩, fun b off len cap' e h0 => hV _ (h4 b off len cap' e h0)⟩
  obtain ⟨b, off, e, hb, hr⟩ := h3 h0
  subst e
  exact ⟨b, off, rfl, Nat.lt_of_lt_of_le hb hz, RowAt.of_obj hr (hk b hb (h4 b off _ _ rfl h0))⟩
structure OneW (w : World) (V : Nat → Prop) (p m : Nat) (v : Value) (o : OneM) : Prop where
  at_ : obj w p = some (.cells #[.int .i64 o.id, .int .i64 o.slots, .map (some m), .int .i64 o.left, v] 85 (0, 0))
  map : MapI w m intV o.W
  vt : VoteAt w V v o.votes
theorem OneW.frame {w W : World} {M V : Nat → Prop} {p m : Nat} {v : Value} {o : OneM} (h : OneW w V p m v o) (hp : M p) (hm : M m) (hz : w.heap.size ≤ W.heap.size) (hk : ∀ n, n < w.heap.size → M n ∨ V n → obj W n = obj w n) : OneW W V p m v o := by
  obtain ⟨es, clk, h1, h2⟩ := h.map
  exact ⟨(hk _ (lt_of_obj h.at_) (.inl hp)).trans h.at_, ⟨es, clk, (hk _ (lt_of_obj h1) (.inl hm)).trans h1, h2⟩, h.vt.frame hz (fun n hn hv => hk n hn (.inr hv)) fun _ h => h⟩
theorem OneW.ne {w : World} {V : Nat → Prop} {p m : Nat} {v : Value} {o : OneM} (h : OneW w V p m v o) : p ≠ m := by
  intro e
  subst e
  obtain ⟨es, clk, h1, _⟩ := h.map
  rw [h.at_] at h1
  cases h1
theorem OneW.mlt {w : World} {V : Nat → Prop} {p m : Nat} {v : Value} {o : OneM} (h : OneW w V p m v o) : m < w.heap.size := by
  obtain ⟨es, clk, h1, _⟩ := h.map
  exact lt_of_obj h1
def RowP (w : World) (lv : Value) (ps : List (Nat × Nat)) : Prop := w.ownsRow 0 83 1 lv ps.length (ps.map ptrV)
theorem RowP.slIn {w : World} {lv : Value} {ps : List (Nat × Nat)} (h : RowP w lv ps) : SlIn w lv 1 ptrL ps := by
  obtain ⟨hl, h⟩ := h
  rcases h with ⟨rfl, h0⟩ | ⟨g, cap, cur, rfl, hb, hg, h1, h2, h3, h4⟩
  · exact ⟨none, 0, by rw [h0], by omega, Nat.zero_le _, fun h => by omega⟩
  · refine ⟨_, cap, rfl, h1, h2, fun _ => ⟨g, 0, rfl, lt_of_obj hg, fun j hj => ?_⟩⟩
    have e1 : obj w g = some (.cells cur 83 (0, 0)) := hg
    rw [e1, subOf_cells (by omega)]
    congr 1
    apply Array.ext'
    rw [← flat_ptr] at h4
    have h5 := flatMap_sub (k := 1) ptrL_length ps j hj
    rw [subA, Array.toList_extract, List.extract_eq_take_drop, ← h5, ← h4, List.drop_take, List.take_take, Nat.min_eq_left (by omega)]
    simp
theorem RowP.frame {w W : World} {lv : Value} {ps : List (Nat × Nat)} (h : RowP w lv ps) (hk : ∀ g, lv.ownBlock = some g → obj W g = obj w g) : RowP W lv ps := by
  refine ⟨h.1, ?_⟩
  rcases h.2 with h1 | ⟨g, cap, cur, rfl, h2, h3, h4⟩
  · exact .inl h1
  · exact .inr ⟨g, cap, cur, rfl, h2, (hk g rfl).trans h3, h4⟩
theorem RowP.ne {w : World} {lv : Value} {ps : List (Nat × Nat)} (h : RowP w lv ps) {j : Nat} {o : Obj} (ho : obj w j = some o) (hne : ∀ cur, o ≠ .cells cur 83 (0, 0)) : lv.ownBlock ≠ some j := by
  intro e
  rcases h.2 with ⟨rfl, _⟩ | ⟨g, cap, cur, rfl, _, hg, _⟩
  · simp [Value.ownBlock] at e
  · simp [Value.ownBlock] at e
    subst e
    have hg' : obj w g = some (.cells cur 83 (0, 0)) := hg
    rw [ho] at hg'
    exact hne cur (Option.some.inj hg')
/-- a set at b: its own blocks are in M, its votes' blocks in V -/
structure SetW (w : World) (M V : Nat → Prop) (b : Nat) (lv : Value) (ps : List (Nat × Nat)) (S : SetM) : Prop where
  box : obj w b = some (.cells #[.int .i64 S.pref, .int .i64 S.conf, .int .i64 S.last, lv] 78 (0, 0))
  row : RowP w lv ps
  len : ps.length = S.l.length
  one : ∀ (i : Nat) (p : Nat × Nat) (o : OneM), ps[i]? = some p → S.l[i]? = some o → ∃ v, OneW w V p.1 p.2 v o
  nd1 : (ps.map (·.1)).Nodup
  nd2 : (ps.map (·.2)).Nodup
  mb : M b
  ml : ∀ g, lv.ownBlock = some g → M g
  mp : ∀ p ∈ ps, M p.1 ∧ M p.2
  dis : ∀ n, M n → ¬ V n
  mlt : ∀ n, M n → n < w.heap.size
  vlt : ∀ n, V n → n < w.heap.size
theorem SetW.frame {w W : World} {M V : Nat → Prop} {b : Nat} {lv : Value} {ps : List (Nat × Nat)} {S : SetM} (h : SetW w M V b lv ps S) (hz : w.heap.size ≤ W.heap.size) (hk : ∀ n, n < w.heap.size → M n ∨ V n → obj W n = obj w n) : SetW W M V b lv ps S where
  box := (hk _ (lt_of_obj h.box) (.inl h.mb)).trans h.box
  row := h.row.frame fun g hg => hk g (h.mlt _ (h.ml g hg)) (.inl (h.ml g hg))
  len := h.len
  one := fun i p o hp ho => by
    obtain ⟨v, h1⟩ := h.one i p o hp ho
    have := h.mp p (List.mem_of_getElem? hp)
    exact ⟨v, h1.frame this.1 this.2 hz hk⟩
  nd1 := h.nd1
  nd2 := h.nd2
  mb := h.mb
  ml := h.ml
  mp := h.mp
  dis := h.dis
  mlt := fun n hn => Nat.lt_of_lt_of_le (h.mlt n hn) hz
  vlt := fun n hn => Nat.lt_of_lt_of_le (h.vlt n hn) hz
theorem SetW.below {w W : World} {M V : Nat → Prop} {b : Nat} {lv : Value} {ps : List (Nat × Nat)} {S : SetM} (h : SetW w M V b lv ps S) (hb : Below w.heap.size w W) : SetW W M V b lv ps S :=
  h.frame hb.size fun n hn _ => obj_below hb hn
theorem SetW.alloc {w : World} {M V : Nat → Prop} {b : Nat} {lv : Value} {ps : List (Nat × Nat)} {S : SetM} (h : SetW w M V b lv ps S) (o : Obj) : SetW (w.alloc o) M V b lv ps S :=
  h.below ((Below.refl _ w).alloc (Nat.le_refl _) o)
theorem SetW.drewN {w : World} {M V : Nat → Prop} {b : Nat} {lv : Value} {ps : List (Nat × Nat)} {S : SetM} (h : SetW w M V b lv ps S) (n : Nat) : SetW (w.drewN n) M V b lv ps S :=
  h.frame (Nat.le_refl _) fun _ _ _ => rfl
theorem SetW.lt {w : World} {M V : Nat → Prop} {b : Nat} {lv : Value} {ps : List (Nat × Nat)} {S : SetM} (h : SetW w M V b lv ps S) : b < w.heap.size := lt_of_obj h.box
/-- whatever lies at a poll's pointer -/
def ptrO (ps : List (Nat × Nat)) : Option Nat → Option Addr
  | none => none
  | some i => (ps[i]?).map fun p => ⟨p.1, 0, none⟩
def SetAt (w : World) (M V : Nat → Prop) (b : Nat) (S : SetM) : Prop := ∃ lv ps, SetW w M V b lv ps S
/-- what an act leaves behind: its own blocks are the elder ones, and new ones -/
structure GrowsMV (w : World) (M V M' V' : Nat → Prop) : Prop where
  m : ∀ n, M' n → M n ∨ w.heap.size ≤ n
  v : ∀ n, V' n → V n ∨ w.heap.size ≤ n
  mm : ∀ n, M n → M' n
  vv : ∀ n, V n → V' n
theorem GrowsMV.refl (w : World) (M V : Nat → Prop) : GrowsMV w M V M V := ⟨fun _ h => .inl h, fun _ h => .inl h, fun _ h => h, fun _ h => h⟩
def ActR (w : World) (M V : Nat → Prop) (b : Nat) (S' : SetM) (w' : World) : Prop :=
  ∃ M' V', SetAt w' M' V' b S' ∧ GrowsMV w M V M' V' ∧ Keeps M w w'
end Go.Proofs.Ytfejhekoijemdaa
