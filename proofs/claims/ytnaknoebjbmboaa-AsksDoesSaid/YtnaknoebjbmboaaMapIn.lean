import Derived.Test.YtnaknoebjbmboaaMapR
import Derived.Test.YtnaknoebjbmboaaIter
namespace Go.Proofs.Ytnaknoebjbmboaa
open Go.RowKit
open Go.ChangeMaps (setBlock)

/-! ### ranges over maps, inside an iterator -/
section
variable {α ν : Type} {ek : α → Value} {enc : ν → Value}
variable {F : Fence} {n : Nat} {P : Program} {ops : Array Oper} {rest : List Oper} {o : Oper} {a : Act} {w : World} {Q : Exit → Act → World → Prop}
theorem wpListIn_rangeB (hg : o.guard = none) (mo : Operand) {t kt et : TypeId} (hop : o.op = Op.range t mo) (ht : P.underlying t = some (.map kt et)) {m : Nat} {L : List (α × ν)} (hm : a.eval mo = .map (some m)) (h : MapB w m ek enc L)
    (hK : ∀ w', RngB w' w.heap.size m ek enc L L → (∃ s c0, w' = w.alloc (.mapIter (some m) s #[] c0)) → wpListIn F n P ops Q rest (a.put o.dst (.pointer (some ⟨w.heap.size, 0, none⟩))) w') : wpListIn F n P ops Q (o :: rest) a w := by
  obtain ⟨es, clk, h1, h2, h3, h4⟩ := h
  refine wpListIn_plain hg fun K' hK' => ?_
  have hrun := run_range_map w t kt et m es clk ht h1
  unfold Oper.wpIn
  refine ⟨by simp [Oper.about, hop, Sem.run_pure], ?_⟩
  rw [Oper.semAt_plain F _ _ (by rw [hop]; intro c hc'; cases hc')]
  simp [execOp, hop, hm, hrun, Result.andThen]
  refine hK' _ _ (hK _ ⟨es, clk, clk, #[], clk, (obj_alloc_past _ _ _ (lt_of_obj h1)).trans h1, h2, h3, h4, Nat.le_refl _, Nat.le_refl _, obj_alloc_at _ _ _ rfl, ?_⟩ ⟨_, _, rfl⟩)
  have : leftOf es #[] = es := by unfold leftOf; simp
  rw [this]; exact h2
theorem wpListIn_nextB (hg : o.guard = none) (it : Operand) (hop : o.op = Op.next it false) {r m : Nat} {L todo : List (α × ν)} (hit : a.eval it = .pointer (some ⟨r, 0, none⟩)) (h : RngB w r m ek enc L todo)
    (hDone : todo = [] → wpListIn F n P ops Q rest (a.put o.dst (.tuple #[.bool false])) w)
    (hMore : ∀ (i : Nat) (hi : i < todo.length) (w' : World), RngB w' r m ek enc L (todo.eraseIdx i) → Keeps (fun k => k = r) w w' → w'.heap.size = w.heap.size → (Instr.entry (.pointer (some ⟨r, 0, none⟩))).run P w' = .ok (.tuple #[ek todo[i].1, enc todo[i].2]) w' →
      wpListIn F n P ops Q rest (a.put o.dst (.tuple #[.bool true, ek todo[i].1, enc todo[i].2])) w') : wpListIn F n P ops Q (o :: rest) a w := by
  obtain ⟨es, clk, since, seen, c0, h1, h2, h3, h4, h5, h8, h6, h7⟩ := h
  refine wpListIn_plain hg fun K' hK' => ?_
  unfold Oper.wpIn
  refine ⟨by simp [Oper.about, hop, Sem.run_pure], ?_⟩
  rw [Oper.semAt_plain F _ _ (by rw [hop]; intro c hc'; cases hc')]
  rcases run_next_at (P := P) w o.type r m since c0 seen es clk h6 h1 h4 h5 with ⟨h0, hrun⟩ | ⟨e, he, w1, hw1, hrun⟩
  · have ht : todo = [] := by
      have := h7.length
      rw [Array.length_toList, h0] at this
      exact List.eq_nil_of_length_eq_zero this.symm
    simp [execOp, hop, hit, hrun, Result.andThen]
    exact hK' _ _ (hDone ht)
  · obtain ⟨i, hi⟩ := List.getElem?_of_mem he
    obtain ⟨hlt, hk, hv⟩ := h7.get i e hi
    have hee : e ∈ es.toList := by
      have : e ∈ (leftOf es seen) := by simpa using he
      unfold leftOf at this
      have := (Array.mem_filter.1 this).1
      simpa using this
    have k1 : Keeps (fun k => k = r) w w1 := by
      rcases hw1 with rfl | rfl
      · exact Keeps.refl _ _
      · exact (Keeps.refl _ _).drew
    have hr1 : w1.heap = w.heap := by rcases hw1 with rfl | rfl <;> rfl
    have hb : setBlock w1 r (.mapIter (some m) since (seen.push e.born) clk) = putObj w1 r (.mapIter (some m) since (seen.push e.born) clk) := rfl
    have hm1 : obj w1 m = some (.map es clk) := by unfold obj; rw [hr1]; exact h1
    have hrl : r < w1.heap.size := by rw [hr1]; exact lt_of_obj h6
    have hrm : m ≠ r := fun e' => by subst e'; rw [h1] at h6; cases h6
    have hrg : RngB (setBlock w1 r (.mapIter (some m) since (seen.push e.born) clk)) r m ek enc L (todo.eraseIdx i) := by
      rw [hb]
      refine ⟨es, clk, since, seen.push e.born, clk, (obj_putObj_ne _ _ _ _ hrm).trans hm1, h2, h3, h4, h8, h8, obj_putObj_eq _ _ _ hrl, ?_⟩
      · have hl : (leftOf es (seen.push e.born)).toList = (leftOf es seen).toList.eraseIdx i := by
          have hn : ((leftOf es seen).toList.map (·.born)).Nodup := by
            unfold leftOf
            rw [Array.toList_filter]
            exact List.Nodup.sublist (List.Sublist.map _ List.filter_sublist) h3
          rw [← filter_born hn hi]
          unfold leftOf
          rw [Array.toList_filter, Array.toList_filter, List.filter_filter]
          congr 1
          funext x
          rw [Bool.eq_iff_iff]
          simp
          constructor
          · intro hh; exact ⟨hh.2, hh.1⟩
          · intro hh; exact ⟨hh.2, hh.1⟩
        rw [hl]
        exact h7.eraseIdx i
    simp [execOp, hop, hit, hrun, Result.andThen]
    have hen : (Instr.entry (.pointer (some ⟨r, 0, none⟩))).run P (setBlock w1 r (.mapIter (some m) since (seen.push e.born) clk)) = .ok (.tuple #[ek todo[i].1, enc todo[i].2]) (setBlock w1 r (.mapIter (some m) since (seen.push e.born) clk)) := by
      rw [← hk, ← hv]
      refine run_entry_at (P := P) _ r m since seen es clk e ?_ ?_ hee h3
      · rw [hb]; exact obj_putObj_eq _ _ _ hrl
      · rw [hb]; exact (obj_putObj_ne _ _ _ _ hrm).trans hm1
    have := hMore i hlt _ hrg (by rw [hb]; exact k1.putObj rfl _) (by rw [hb, size_putObj, hr1]) hen
    rw [← hk, ← hv] at this
    exact hK' _ _ this
end
end Go.Proofs.Ytnaknoebjbmboaa
