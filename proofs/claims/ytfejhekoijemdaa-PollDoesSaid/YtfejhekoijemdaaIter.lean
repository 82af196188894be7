import Derived.RangeFuncNested
import Derived.RangeFuncBound
import Derived.RangeFuncCalls
import Derived.RangeFuncLeaves
import Derived.Shelf.Abstract
import Derived.Shelf.RegionOpen
import Derived.WalkKit
import Derived.OwnWalkIn
import Derived.TacticsInMore
import Derived.LoopNIn
import Derived.LoopIn
import Derived.RegionIn
import Derived.Test.YtfejhekoijemdaaWide
namespace Go.Proofs.Ytfejhekoijemdaa
open Go.RowKit Go.Shelf

/-! ### ranges over functions -/
/-- cells lie as they lay where a block that is no cells has turned -/
theorem grown_obj {W W' : World} {row : Option Nat} (hg : W.grownBy W' row) {B : Nat} (hr : ∀ r, row = some r → B ≤ r ∧ ∃ o : Obj, W.heap[r]? = some o ∧ o.isCells = false) {k : Nat} {c : Array Value} {T : TypeId} {fr : Nat × Nat}
    (h : obj W k = some (.cells c T fr)) : obj W' k = some (.cells c T fr) := by
  refine (hg.block k (lt_of_obj h) (fun e => ?_)).trans h
  obtain ⟨_, o, ho, hc⟩ := hr k e.symm
  unfold obj at h
  rw [h] at ho
  cases ho
  cases hc
theorem OwnS.grown {α : Type} {W W' : World} {row : Option Nat} {base E k : Nat} {enc : α → List Value} {v : Value} {xs : List α} (h : OwnS W base E k enc v xs) (hg : W.grownBy W' row) {B : Nat} (hr : ∀ r, row = some r → B ≤ r ∧ ∃ o : Obj, W.heap[r]? = some o ∧ o.isCells = false) : OwnS W' base E k enc v xs := by
  refine h.keeps fun g hg' => ?_
  rcases h.1.2 with ⟨rfl, _⟩ | ⟨g', cap, cur, rfl, _, ho, _⟩
  · simp [Value.ownBlock] at hg'
  · simp [Value.ownBlock] at hg'
    subst hg'
    have ho' : obj W g' = some (.cells cur E (0, 0)) := ho
    rw [ho']
    exact grown_obj hg hr ho'
theorem below_grown {W W' w : World} {n0 B : Nat} {row : Option Nat} (h : Below n0 w W) (hn : n0 ≤ w.heap.size) (hB : n0 ≤ B) (hg : W.grownBy W' row) (hr : ∀ r, row = some r → B ≤ r ∧ ∃ o : Obj, W.heap[r]? = some o ∧ o.isCells = false) : Below n0 w W' :=
  h.grown hg (Nat.le_trans hn h.size) (fun k e => Nat.le_trans hB (hr k e).1)
theorem keepsFrom_push {α : Type} {w w' : World} {B base E k : Nat} {enc : α → List Value} {v : Value} {xs : List α} (h : OwnS w base E k enc v xs) (hsz : w.heap.size ≤ w'.heap.size) (hk : ∀ k, k < w.heap.size → v.ownBlock ≠ some k → obj w' k = obj w k) : KeepsFrom B w w' :=
  ⟨hsz, fun j o _ ho hc => (hk j (Array.getElem?_eq_some_iff.1 ho).1 (h.ne (j := j) (o := o) ho (fun cur e => by subst e; cases hc))).trans ho⟩
theorem wpListIn_push {α : Type} {F : Fence} {n : Nat} {P : Program} {ops : Array Oper} {rest : List Oper} {o : Oper} {a : Act} {w : World} {Q : Exit → Act → World → Prop} {t E : TypeId} {i : TypeInfo} {z : Value} {k bytes : Nat}
    (ht : P.underlying t = some (.slice E)) (hi : P.info? E = some i) (hz : i.zero = some z) (hsize : i.size = k) (hby : i.bytes = bytes) (hzs : z.cells.size = k) (hk0 : 0 < k)
    (enc : α → List Value) (hk : ∀ x, (enc x).length = k) (hone : ∀ x, allOne (enc x).toArray = true)
    (hgd : o.guard = none) (s x : Operand) (ho : o.op = .call { callee := .builtin .append, args := #[s, x], argTypes := #[t, t] })
    (base : Nat) (v : Value) (xs : List α) (y : α) (hs : a.eval s = v) (hown : OwnS w base E k enc v xs) (g : Nat) (hx : a.eval x = .slice (some ⟨g, 0, none⟩) 1 1) (hg : obj w g = some (.cells (enc y).toArray E (0, 0)))
    (hlen : xs.length ≤ 1048576) (hbt : bytes ≤ 4096) (hbase : base ≤ w.heap.size)
    (h : ∀ v' w', OwnS w' base E k enc v' (xs ++ [y]) → Below base w w' → (∀ k, k < w.heap.size → v.ownBlock ≠ some k → obj w' k = obj w k) → wpListIn F n P ops Q rest (a.put o.dst v') w') : wpListIn F n P ops Q (o :: rest) a w := by
  refine wpListIn_append_own w hgd s x t ho base E i z k bytes ht hi hz hsize hby hzs hk0 v xs.length (xs.flatMap enc) hs hown.1 ⟨g, 0, none⟩ 1 1 (enc y) hx (by rw [hk, Nat.one_mul]) (fun j u hu => ?_) (fun u hu => ?_) (by unfold maxLen; omega) ?_ hbase ?_
  · rw [Addr.add_lit, cell_at hg]; simpa using hu
  · have := hone y; simp only [allOne, List.all_eq_true] at this; exact this u hu
  · have : (xs.length + 1) * bytes ≤ 1048577 * 4096 := Nat.mul_le_mul (by omega) hbt
    omega
  · intro v' w' h1 h2 h3
    refine h v' w' ⟨by simpa using h1, ?_⟩ ⟨h2.os, h2.tape, h2.output, h2.size, fun j hj => h2.block j (by omega) (fun e => ?_)⟩ (fun j hj hne => h2.block j hj (fun e => hne e.symm))
    · rw [h3]; simp
    · have := (hown.1.lt j e.symm).1; omega
end Go.Proofs.Ytfejhekoijemdaa
