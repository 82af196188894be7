import Derived.Test.YtfejhekoijemdaaWide
import Derived.Lib.AppendZeros
import Derived.Deep.Upon
namespace Go.Proofs.Ytfejhekoijemdaa
open Go.RowKit

/-! ### append of a whole slice onto one of the call's own -/
theorem flatMap_getD {α : Type} {k : Nat} {enc : α → List Value} (hk : ∀ x, (enc x).length = k) : ∀ (xs : List α) (i r : Nat) (h : i < xs.length), r < k → (xs.flatMap enc)[i * k + r]? = (enc xs[i])[r]? := by
  intro xs i r h hr
  have := flatMap_sub hk xs i h
  have e : (((xs.flatMap enc).drop (i * k)).take k)[r]? = (enc xs[i])[r]? := by rw [this]
  rwa [List.getElem?_take_of_lt hr, List.getElem?_drop] at e
theorem row_cells {α : Type} {w : World} {b off k : Nat} {enc : α → List Value} (hk : ∀ x, (enc x).length = k) (h0 : 0 < k) {xs : List α} (h : RowAt w b off k enc xs) {j : Nat} {u : Value} (hj : (xs.flatMap enc)[j]? = some u) : w.cell? ⟨b, off + j, none⟩ = some u := by
  have hlt : j < xs.length * k := by
    rw [← flatMap_len hk]
    exact (List.getElem?_eq_some_iff.1 hj).1
  have hi : j / k < xs.length := Nat.div_lt_of_lt_mul (by rw [Nat.mul_comm]; exact hlt)
  have hr : j % k < k := Nat.mod_lt _ h0
  have e : j / k * k + j % k = j := by rw [Nat.mul_comm]; exact Nat.div_add_mod j k
  have := subOf_cell (h _ hi) hr
  have h5 : ((enc xs[j / k]).toArray)[j % k]? = some u := by
    rw [List.getElem?_toArray, ← flatMap_getD hk xs _ _ hi hr, e]; exact hj
  rw [h5] at this
  rw [← this]
  congr 2
  omega
section
variable {α : Type} {P : Program} {w : World} {t E : TypeId} {i : TypeInfo} {z : Value} {k bytes : Nat} {enc : α → List Value}
/-- append of a whole slice, as it runs -/
theorem run_pushAll (ht : P.underlying t = some (.slice E)) (hi : P.info? E = some i) (hz : i.zero = some z) (hsize : i.size = k) (hby : i.bytes = bytes) (hzs : z.cells.size = k) (hk0 : 0 < k)
    (hk : ∀ x, (enc x).length = k) (hone : ∀ x, allOne (enc x).toArray = true) (ty : TypeId)
    (base : Nat) (v : Value) (xs ys : List α) (hown : OwnS w base E k enc v xs) (sv : Value) (hsl : SlIn w sv k enc ys)
    (hlen : xs.length + ys.length ≤ 1048577) (hbt : bytes ≤ 4096) (hbase : base ≤ w.heap.size) :
    ∃ v' w', (Builtin.append_ #[t, t] ty #[v, sv]).run P w = .ok v' w' ∧ OwnS w' base E k enc v' (xs ++ ys) ∧ Below base w w' ∧ (∀ k, k < w.heap.size → v.ownBlock ≠ some k → obj w' k = obj w k) := by
  obtain ⟨oa, c, rfl, g1, g2, g3⟩ := hsl
  cases oa with
  | none =>
    have hy : ys = [] := by
      cases ys with
      | nil => rfl
      | cons y ys => obtain ⟨b, off, e, _⟩ := g3 (by simp); cases e
    subst hy
    obtain ⟨ba, n, cp, rfl⟩ : ∃ ba n cp, v = .slice ba n cp := by
      rcases hown.1.2 with ⟨h1, _⟩ | ⟨g, cap, cur, h1, _⟩
      · exact ⟨_, _, _, h1⟩
      · exact ⟨_, _, _, h1⟩
    have hle : n ≤ cp := by
      rcases hown.1.2 with ⟨h1, _⟩ | ⟨g, cap, cur, h1, _, _, h2, _⟩
      · simp only [Value.slice.injEq] at h1; omega
      · simp only [Value.slice.injEq] at h1; omega
    exact ⟨_, _, run_append_nothing w t t ty E i ht hi ba n cp hle _ (Src.ofNil w ht c), by rw [List.append_nil]; exact hown, Below.refl _ _, fun _ _ _ => rfl⟩
  | some ad =>
    obtain ⟨v', w', hr, h1, h2, h3⟩ := run_append_own (P := P) (w := w) base t ty E i z k bytes ht hi hz hsize hby hzs hk0 v xs.length (xs.flatMap enc) hown.1 ad ys.length c (ys.flatMap enc) (flatMap_len hk _) (fun j u hu => by
      have hpos : 0 < ys.length := by
        cases ys with
        | nil => simp at hu
        | cons => simp
      obtain ⟨b, off, e, _, hr⟩ := g3 hpos
      cases e
      rw [Addr.add_lit]
      exact row_cells hk hk0 hr hu) (fun u hu => by
      obtain ⟨y, _, hy⟩ := List.mem_flatMap.1 hu
      have := hone y; simp only [allOne, List.all_eq_true] at this; exact this u hy) (by unfold maxLen; omega) (by
      have : (xs.length + ys.length) * bytes ≤ 1048577 * 4096 := Nat.mul_le_mul (by omega) hbt
      omega) hbase
    refine ⟨v', w', hr, ⟨by simpa using h1, ?_⟩, ⟨h2.os, h2.tape, h2.output, h2.size, fun j hj => h2.block j (by omega) (fun e => ?_)⟩, fun j hj hne => h2.block j hj (fun e => hne e.symm)⟩
    · rw [h3, hown.2]
      constructor
      · rintro ⟨rfl, h0⟩
        exact List.eq_nil_of_length_eq_zero h0
      · intro e
        obtain ⟨rfl, rfl⟩ := List.append_eq_nil_iff.1 e
        exact ⟨rfl, rfl⟩
    · have := (hown.1.lt j e.symm).1; omega
variable {ops : Array Oper} {o : Oper} {a : Act} {Q : Exit → Act → World → Prop}
theorem wpList_pushAll {rest : List Oper} (ht : P.underlying t = some (.slice E)) (hi : P.info? E = some i) (hz : i.zero = some z) (hsize : i.size = k) (hby : i.bytes = bytes) (hzs : z.cells.size = k) (hk0 : 0 < k)
    (hk : ∀ x, (enc x).length = k) (hone : ∀ x, allOne (enc x).toArray = true)
    (hgd : o.guard = none) (s x : Operand) (ho : o.op = .call { callee := .builtin .append, args := #[s, x], argTypes := #[t, t] })
    (base : Nat) (v : Value) (xs ys : List α) (hs : a.eval s = v) (hown : OwnS w base E k enc v xs) (sv : Value) (hx : a.eval x = sv) (hsl : SlIn w sv k enc ys)
    (hlen : xs.length + ys.length ≤ 1048577) (hbt : bytes ≤ 4096) (hbase : base ≤ w.heap.size)
    (h : ∀ v' w', OwnS w' base E k enc v' (xs ++ ys) → Below base w w' → (∀ k, k < w.heap.size → v.ownBlock ≠ some k → obj w' k = obj w k) → wpList P ops Q rest (a.put o.dst v') w') : wpList P ops Q (o :: rest) a w := by
  obtain ⟨v', w', hr, h1, h2, h3⟩ := run_pushAll ht hi hz hsize hby hzs hk0 hk hone o.type base v xs ys hown sv hsl hlen hbt hbase
  exact Lib.wpList_append_run (P := P) w hgd s x t t ho _ _ hs hx _ _ hr (h v' w' h1 h2 h3)
/-- as one step of a region that draws -/
theorem step_pushAll {K : Act → World → Prop} {Z : Prop} (ht : P.underlying t = some (.slice E)) (hi : P.info? E = some i) (hz : i.zero = some z) (hsize : i.size = k) (hby : i.bytes = bytes) (hzs : z.cells.size = k) (hk0 : 0 < k)
    (hk : ∀ x, (enc x).length = k) (hone : ∀ x, allOne (enc x).toArray = true)
    (hgd : o.guard = none) (s x : Operand) (ho : o.op = .call { callee := .builtin .append, args := #[s, x], argTypes := #[t, t] })
    (base : Nat) (v : Value) (xs ys : List α) (hs : a.eval s = v) (hown : OwnS w base E k enc v xs) (sv : Value) (hx : a.eval x = sv) (hsl : SlIn w sv k enc ys)
    (hlen : xs.length + ys.length ≤ 1048577) (hbt : bytes ≤ 4096) (hbase : base ≤ w.heap.size)
    (h : ∀ v' w', OwnS w' base E k enc v' (xs ++ ys) → Below base w w' → (∀ k, k < w.heap.size → v.ownBlock ≠ some k → obj w' k = obj w k) → K (a.put o.dst v') w') : if Region.wanted o (yielded ops a.tmps) = true then Oper.wp P o a w K Q else Z := by
  have hw : Region.wanted o (yielded ops a.tmps) = true := by simp [Region.wanted, hgd]
  rw [if_pos hw]
  obtain ⟨v', w', hr, h1, h2, h3⟩ := run_pushAll ht hi hz hsize hby hzs hk0 hk hone o.type base v xs ys hown sv hsl hlen hbt hbase
  unfold Oper.wp
  simp [execOp, ho, resolve, invoke, builtin, hs, hx, hr, Result.andThen]
  exact h v' w' h1 h2 h3
end
/-- the last ones of a slice -/
theorem SlIn.drop {α : Type} {w : World} {k : Nat} {enc : α → List Value} {xs : List α} {oa : Option Addr} {cap : Nat} (h : SlIn w (.slice oa xs.length cap) k enc xs) {n : Nat} (hn : n ≤ xs.length) : SlIn w (.slice (oa.map fun a => ⟨a.block, a.off + n * k, none⟩) (xs.length - n) (cap - n)) k enc (xs.drop n) := by
  obtain ⟨oa', cap', h1, h2, h3, h4⟩ := h
  simp only [Value.slice.injEq] at h1
  obtain ⟨rfl, _, rfl⟩ := h1
  have hl : (xs.drop n).length = xs.length - n := by simp
  refine ⟨_, cap - n, by rw [hl], by rw [hl]; omega, by omega, fun h0 => ?_⟩
  rw [hl] at h0
  obtain ⟨b, off, e, hb, hr⟩ := h4 (by omega)
  subst e
  refine ⟨b, off + n * k, rfl, hb, fun j hj => ?_⟩
  rw [hl] at hj
  rw [show off + n * k + j * k = off + (n + j) * k by rw [Nat.add_mul]; omega, hr (n + j) (by omega)]
  simp
end Go.Proofs.Ytfejhekoijemdaa
