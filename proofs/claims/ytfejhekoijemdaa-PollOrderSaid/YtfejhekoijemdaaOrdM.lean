import Derived.Test.YtfejhekoijemdaaBegunW
import Derived.Test.YtfejhekoijemdaaReads
namespace Go.Proofs.Ytfejhekoijemdaa
open Go.RowKit

/-! ### polls in order, as plain data -/
structure OrdI (k : Nat) (a u : Int) (S : SetM) : Prop where
  ok : SetOK S
  last : S.last = a
  ids : ∀ (i : Nat) (o : OneM), S.l[i]? = some o → o.id = u + 1 + i
  len : (S.l.length : Int) = a - u
  u0 : 0 ≤ u
  ak : a ≤ k
theorem OrdI.new {pref conf : Int} (h1 : 1 ≤ pref) (h2 : pref ≤ conf) (h3 : conf ≤ 64) : OrdI 0 0 0 ⟨pref, conf, 0, []⟩ :=
  ⟨SetOK.new h1 h2 h3, rfl, fun i o h => by simp at h, rfl, Int.le_refl _, Int.le_refl _⟩
theorem OrdI.next {k : Nat} {a u : Int} {S : SetM} (h : OrdI k a u S) : OrdI (k + 1) a u S := ⟨h.ok, h.last, h.ids, h.len, h.u0, by have := h.ak; omega⟩
theorem OrdI.add {k : Nat} {a u : Int} {S : SetM} (h : OrdI k a u S) {slots : List Int} (ho : openC S slots = 0) : OrdI (k + 1) (a + 1) u (addS S slots) where
  ok := h.ok.add ho
  last := by have := h.last; unfold addS; simp; omega
  ids := fun i o hi => by
    unfold addS at hi
    have h1 := h.len
    have h2 := h.last
    rcases get_snoc hi with ⟨_, g⟩ | ⟨g1, g2⟩
    · exact h.ids i o g
    · subst g2
      show S.last + 1 = _
      omega
  len := by have := h.len; unfold addS; simp; omega
  u0 := h.u0
  ak := by have := h.ak; omega
theorem OrdI.mod {k : Nat} {a u : Int} {S : SetM} (h : OrdI k a u S) (i : Nat) (f : OneM → OneM) (hf : ∀ o, OneOK o → OneOK (f o)) (hi : ∀ o, (f o).id = o.id) : OrdI k a u (modS S i f) where
  ok := h.ok.mod i f hf
  last := h.last
  ids := fun j o hj => by
    unfold modS at hj
    simp only [List.getElem?_modify] at hj
    cases hg : S.l[j]? with
    | none => rw [hg] at hj; simp at hj
    | some o' =>
      rw [hg] at hj
      have := h.ids j o' hg
      simp at hj
      subst hj
      split
      · rw [hi]; exact this
      · exact this
  len := by have := h.len; unfold modS; simpa using this
  u0 := h.u0
  ak := h.ak
theorem OrdI.dropM {k : Nat} {a u : Int} {S : SetM} (h : OrdI k a u S) (n v : Int) : OrdI k a u (dropM S n v).1 := by
  unfold Ytfejhekoijemdaa.dropM
  cases findI n S.l with
  | none => exact h
  | some i =>
    simp only
    cases S.l[i]? with
    | none => exact h
    | some o =>
      simp only
      split
      · exact h
      · exact h.mod _ _ (fun o ho => ho.take v) (fun _ => rfl)
theorem OrdI.voteM {k : Nat} {a u : Int} {S : SetM} (h : OrdI k a u S) (n v : Int) (id : ID) : OrdI k a u (voteM S n v id).1 := by
  unfold Ytfejhekoijemdaa.voteM
  cases findI n S.l with
  | none => exact h
  | some i =>
    simp only
    cases S.l[i]? with
    | none => exact h
    | some o =>
      simp only
      split
      · exact h
      · split
        · exact h.mod _ _ (fun o ho => ho.take v) (fun _ => rfl)
        · exact h.mod _ _ (fun o ho => ho.vote v id) (fun _ => rfl)
theorem OrdI.drop {k : Nat} {a u : Int} {S : SetM} (h : OrdI k a u S) (d : Nat) (hd : d ≤ S.l.length) : OrdI k a (u + d) (dropS S d) where
  ok := h.ok.dropS d
  last := h.last
  ids := fun i o hi => by
    unfold dropS at hi
    simp only [List.getElem?_drop] at hi
    have := h.ids _ o hi
    rw [this]; omega
  len := by have := h.len; unfold dropS; simp; omega
  u0 := by have := h.u0; omega
  ak := h.ak
/-- a poll that is out is not found -/
theorem OrdI.gone {k : Nat} {a u n : Int} {S : SetM} (h : OrdI k a u S) (hn : n ≤ u) : findI n S.l = none := by
  refine findI_miss fun j hj he => ?_
  have := h.ids j S.l[j] (List.getElem?_eq_getElem hj)
  omega
theorem OrdI.waits {k : Nat} {a u n : Int} {S : SetM} (h : OrdI k a u S) (hn : n ≤ u) (v : Int) : waitsM S n v = false := by
  unfold waitsM; rw [h.gone hn]
theorem OrdI.votes {k : Nat} {a u n : Int} {S : SetM} (h : OrdI k a u S) (hn : n ≤ u) (v : Int) (id : ID) : Ytfejhekoijemdaa.voteM S n v id = (S, 4) := by
  unfold Ytfejhekoijemdaa.voteM; rw [h.gone hn]
/-- the first poll behind those that are done is not done -/
theorem first_rest {S : SetM} {o : OneM} (h : (dropS S (doneN S)).l[0]? = some o) : isDone (dropS S (doneN S)) o = false := by
  unfold dropS at h
  simp only at h
  cases hd : S.l.drop (doneN S) with
  | nil => rw [hd] at h; simp at h
  | cons x r =>
    rw [hd] at h
    simp at h
    subst h
    have h1 := (doneN_at (Nat.le_refl _) hd).1
    have h2 : isDone (dropS S (doneN S)) x = isDone S x := rfl
    rw [h2]
    cases hx : isDone S x with
    | false => rfl
    | true => have := h1 hx; omega
end Go.Proofs.Ytfejhekoijemdaa
