import Derived.Test.YtmgpfmgmpmkkaaaGreatVd
import Derived.Test.YtmgpfmgmpmkkaaaGreatCmp
import Derived.Test.YtmgpfmgmpmkkaaaGreatHas
namespace Go.Proofs.YtmgpfmgmpmkkaaaGreat
open Go.RowKit

/-! ### a front, as plain data -/
structure SaidM where
  node : Int
  ids : List ID
structure FrM where
  phase : Int
  op : List Int
  tips : List ID
  said : List SaidM
def intL (n : Int) : List Value := [.int .i64 n]
theorem intL_length (n : Int) : (intL n).length = 1 := rfl
theorem intL_one (n : Int) : allOne (intL n).toArray = true := rfl
/-- one that said something, as it lies in a row -/
structure SdD where
  node : Int
  oa : Option Addr
  n : Nat
  cap : Nat
instance : Inhabited SdD := ⟨⟨0, none, 0, 0⟩⟩
def sdL (x : SdD) : List Value := [.int .i64 x.node, .slice x.oa x.n x.cap]
theorem sdL_length (x : SdD) : (sdL x).length = 2 := rfl
theorem sdL_one (x : SdD) : allOne (sdL x).toArray = true := rfl
def SdAt (w : World) (rows : List SdD) (l : List SaidM) : Prop :=
  rows.length = l.length ∧ ∀ (i : Nat) (r : SdD) (s : SaidM), rows[i]? = some r → l[i]? = some s → r.node = s.node ∧ SlIn w (.slice r.oa r.n r.cap) 32 idL s.ids
theorem SdAt.below {w W : World} {rows : List SdD} {l : List SaidM} (h : SdAt w rows l) (hb : Below w.heap.size w W) : SdAt W rows l :=
  ⟨h.1, fun i r s h1 h2 => ⟨(h.2 i r s h1 h2).1, (h.2 i r s h1 h2).2.below hb⟩⟩
/-- a front, as it lies in memory -/
structure FrD where
  phase : Int
  oa : Option Addr
  on : Nat
  oc : Nat
  ta : Option Addr
  tn : Nat
  tc : Nat
  sa : Option Addr
  sn : Nat
  sc : Nat
@[reducible] def frC (d : FrD) : Array Value := #[.int .i64 d.phase, .slice d.oa d.on d.oc, .slice d.ta d.tn d.tc, .slice d.sa d.sn d.sc]
@[reducible] def frV (d : FrD) : Value := .agg (frC d)
structure FrAt (w : World) (d : FrD) (m : FrM) : Prop where
  phase : d.phase = m.phase
  op : SlIn w (.slice d.oa d.on d.oc) 1 intL m.op
  tips : SlIn w (.slice d.ta d.tn d.tc) 32 idL m.tips
  said : ∃ rows, SlIn w (.slice d.sa d.sn d.sc) 2 sdL rows ∧ SdAt w rows m.said
theorem FrAt.below {w W : World} {d : FrD} {m : FrM} (h : FrAt w d m) (hb : Below w.heap.size w W) : FrAt W d m := by
  obtain ⟨rows, h1, h2⟩ := h.said
  exact ⟨h.phase, h.op.below hb, h.tips.below hb, rows, h1.below hb, h2.below hb⟩
theorem SlIn.n {α : Type} {w : World} {oa : Option Addr} {n cap k : Nat} {enc : α → List Value} {xs : List α} (h : SlIn w (.slice oa n cap) k enc xs) : n = xs.length := by
  obtain ⟨oa', cap', e, _⟩ := h
  injection e with _ h _
/-! ### what may be -/
def risB (l : List ID) : Bool := decide (l.Pairwise fun a b => ltI a b = true)
def placesB (n : Int) (l : List Int) : Bool := decide (∀ x ∈ l, 0 ≤ x ∧ x < n) && decide (l.Pairwise (· < ·))
def saidB (n : Int) (m : FrM) : Bool := (m.said.all fun s => !decide (s.node ∈ m.op) && risB s.ids && s.ids.all fun id => decide (id ∈ m.tips)) && placesB n (m.said.map (·.node))
def phaseB (m : FrM) : Bool :=
  if m.phase = 1 then decide (m.said.length = 0) && decide (0 < m.op.length)
  else if m.phase = 2 then decide (0 < m.tips.length) && decide (0 < m.op.length)
  else if m.phase = 3 then decide (m.op.length = 0) else false
def mayB (l : List Vd) (m : FrM) : Bool := decide (chk l = 0) && placesB l.length m.op && risB m.tips && decide (m.tips.length ≤ 32) && saidB l.length m && phaseB m
def mayE (l : List Vd) (m : FrM) : Int := if mayB l m = true then 0 else 210
theorem pair_of_next {α : Type} {R : α → α → Prop} (ht : ∀ a b c, R a b → R b c → R a c) {l : List α} (h : ∀ i (h1 : i + 1 < l.length), R (l[i]'(by omega)) l[i + 1]) : l.Pairwise R := by
  rw [List.pairwise_iff_getElem]
  intro i j hi hj hij
  have : ∀ d, (hd : i + 1 + d < l.length) → R l[i] (l[i + 1 + d]) := by
    intro d
    induction d with
    | zero => intro hd; exact h i hd
    | succ d ih =>
      intro hd
      exact ht _ _ _ (ih (by omega)) (h (i + 1 + d) hd)
  have h2 := this (j - i - 1) (by omega)
  have e : i + 1 + (j - i - 1) = j := by omega
  simpa only [e] using h2
theorem placesB_yes {n : Int} {l : List Int} (h : ∀ i (hi : i < l.length), 0 ≤ l[i] ∧ l[i] < n ∧ ∀ j, (hj : j + 1 = i) → l[j]'(by omega) < l[i]) : placesB n l = true := by
  unfold placesB
  rw [decide_eq_true, decide_eq_true]
  · rfl
  · exact pair_of_next (fun a b c h1 h2 => by omega) fun i hi => (h (i + 1) hi).2.2 i rfl
  · intro x hx
    obtain ⟨i, hi, rfl⟩ := List.getElem_of_mem hx
    exact ⟨(h i hi).1, (h i hi).2.1⟩
theorem placesB_no {n : Int} {l : List Int} {i : Nat} (hi : i < l.length) (h : l[i] < 0 ∨ n ≤ l[i] ∨ ∃ j, ∃ hj : j + 1 = i, l[i] ≤ l[j]'(by omega)) : placesB n l = false := by
  cases hp : placesB n l with
  | false => rfl
  | true =>
    unfold placesB at hp
    simp only [Bool.and_eq_true, decide_eq_true_eq] at hp
    have h1 := hp.1 l[i] (List.getElem_mem hi)
    rcases h with h | h | ⟨j, hj, h⟩
    · omega
    · omega
    · have := List.pairwise_iff_getElem.1 hp.2 j i (by omega) hi (by omega)
      omega
theorem risB_yes {l : List ID} (h : ∀ i (hi : i + 1 < l.length), ltI (l[i]'(by omega)) l[i + 1] = true) : risB l = true :=
  decide_eq_true (pair_of_next (R := fun a b => ltI a b = true) (fun a b c h1 h2 => ltI_trans h1 h2) h)
theorem risB_no {l : List ID} {i : Nat} (hi : i + 1 < l.length) (h : ltI (l[i]'(by omega)) l[i + 1] = false) : risB l = false := by
  cases hp : risB l with
  | false => rfl
  | true =>
    have := List.pairwise_iff_getElem.1 (of_decide_eq_true hp) i (i + 1) (by omega) hi (by omega)
    rw [h] at this
    cases this
end Go.Proofs.YtmgpfmgmpmkkaaaGreat
