import Derived.Test.YtggpmepiggnnnaaNone
namespace Go.Proofs.Ytggpmepiggnnnaa
open Go.RowKit

theorem at'_snoc (L : List Al) (a : Al) (j : Nat) : at' (L ++ [a]) j = if j < L.length then at' L j else if j = L.length then a else (0, 0) := by
  unfold at'
  by_cases h : j < L.length
  · rw [if_pos h, List.getElem?_append_left h]
  · rw [if_neg h, List.getElem?_append_right (by omega)]
    by_cases h2 : j = L.length
    · subst h2; simp
    · rw [if_neg h2, List.getElem?_eq_none (by simp; omega)]; rfl
theorem Spec.push {L : List Al} {M : List (Int × Int)} (h : Spec L M) (a : Al) (hn : aGet a.2 M = none) : Spec (L ++ [a]) (aPut a.2 L.length M) := by
  have hne : ∀ j, j < L.length → (at' L j).2 ≠ a.2 := fun j hj e => by
    have := h.at_ j hj
    rw [e, hn] at this
    cases this
  refine ⟨fun j hj => ?_, fun k hk => ?_, h.once.put _ _⟩
  · simp at hj
    rw [at'_snoc, aGet_aPut']
    by_cases h1 : j < L.length
    · rw [if_pos h1, if_neg (hne j h1)]
      exact h.at_ j h1
    · have : j = L.length := by omega
      subst this
      rw [if_neg h1, if_pos rfl, if_pos rfl]
  · have h1 := hk L.length (by simp)
    rw [at'_snoc, if_neg (by omega), if_pos rfl] at h1
    rw [aGet_aPut', if_neg (fun e => h1 e.symm)]
    refine h.no k fun j hj e => hk j (by simp; omega) ?_
    rw [at'_snoc, if_pos hj, e]
/-- append of an alarm: the new row is the old one's, or a block just made -/
theorem push29 {ops : Array Oper} {rest : List Oper} {o : Oper} {a : Act} {w : World} {Q : Exit → Act → World → Prop} (hgd : o.guard = none) (s x : Operand) (ho : o.op = .call { callee := .builtin .append, args := #[s, x], argTypes := #[29, 29] })
    (v : Value) (L : List Al) (y : Al) (hs : a.eval s = v) (hown : w.ownsRow 0 32 2 v L.length (L.flatMap alL)) (g : Nat) (hx : a.eval x = .slice (some ⟨g, 0, none⟩) 1 1) (hg : obj w g = some (.cells #[.int .i64 y.1, .int .i64 y.2] 32 (0, 0)))
    (hlen : L.length ≤ 1048576)
    (h : ∀ v' w', w'.ownsRow 0 32 2 v' (L ++ [y]).length ((L ++ [y]).flatMap alL) → w.grownBy w' v.ownBlock → (v'.ownBlock = v.ownBlock ∨ v'.ownBlock = some w.heap.size) → wpList Try.prog ops Q rest (a.put o.dst v') w') : wpList Try.prog ops Q (o :: rest) a w := by
  obtain ⟨i0, hi, hz0, hz1, hz2⟩ := info_parts info32
  refine wpList_append_own_at (P := Try.prog) w hgd s x 29 ho 0 32 i0 _ 2 16 Try.underlying29 hi hz0 hz1 hz2 (by simp [Value.cells]) (by decide) v L.length (L.flatMap alL) hs hown ⟨g, 0, none⟩ 1 1 (alL y) hx rfl (fun j u hu => ?_) (fun u hu => ?_) (by unfold maxLen; omega) (by omega) (Nat.zero_le _) ?_
  · rw [Addr.add_lit, cell_at hg]; simpa using hu
  · have := alL_one y; simp only [allOne, List.all_eq_true] at this; exact this u hu
  · intro v' w' h1 h2 h3 h4
    refine h v' w' ?_ h2 h4
    have e1 : (L ++ [y]).length = L.length + 1 := by simp
    have e2 : (L ++ [y]).flatMap alL = L.flatMap alL ++ alL y := by simp
    rw [e1, e2]
    exact h1
end Go.Proofs.Ytggpmepiggnnnaa
