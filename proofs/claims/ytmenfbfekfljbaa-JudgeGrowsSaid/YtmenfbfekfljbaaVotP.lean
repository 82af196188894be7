import Derived.Test.YtmenfbfekfljbaaWins
import Derived.Test.YtmenfbfekfljbaaPredF
namespace Go.Proofs.Ytmenfbfekfljbaa
open Go.RowKit Go.Shelf

def vpB (xs : List FactD) (nd : Int) (id : ID) (v : Int) (x : FactD) : Bool := x.kind == 6 && x.node == nd && x.to == v && underM xs x.id id
theorem eg37 : ∀ args w, (callFunc 37 args).run Try.prog w = .ok (.enter 37 args) w := enters_of Try.func37 (by kernel_rfl) rfl
set_option maxRecDepth 100000 in
set_option maxHeartbeats 2000000 in
theorem vote_clo (w : World) (b1 b2 b3 : Nat) (z : WinD) (v : Int) (sl : Value) (xs : List FactD) (x : FactD) (h1 : obj w b1 = some (.cells (winL z).toArray 74 (0, 0))) (h2 : obj w b2 = some (.cells #[.int .i64 v] 3 (0, 0))) (h3 : obj w b3 = some (.cells #[sl] 22 (0, 0))) (h : SlIn w sl 72 factL xs) (hlen : xs.length ≤ 1000) :
    Calls Try.prog 37 #[.agg (factL x).toArray, .pointer (some ⟨b1, 0, none⟩), .pointer (some ⟨b2, 0, none⟩), .pointer (some ⟨b3, 0, none⟩)] w fun e w' => e = .returned (.bool (vpB xs z.node z.id v x)) ∧ Below w.heap.size w w' := by
  have c1 : w.cell? ⟨b1, 0, none⟩ = some (.int .i64 z.node) := (cell_at h1 0).trans (by rw [List.getElem?_toArray]; exact winL_0 z)
  have s1 : subOf (obj w b1) 1 32 = some (idL z.id).toArray := by rw [h1, subOf_cells (by simp), winL_id]
  have c2 : w.cell? ⟨b2, 0, none⟩ = some (.int .i64 v) := cell_at h2 0
  have c3 : w.cell? ⟨b3, 0, none⟩ = some sl := cell_at h3 0
  have l1 := lt_of_obj h1
  have l2 := lt_of_obj h2
  have l3 := lt_of_obj h3
  have HB : Hid (vpB xs z.node z.id v x = (x.kind == 6 && x.node == z.node && x.to == v && underM xs x.id z.id)) := Lib.hid rfl
  have b0 : Below w.heap.size w (w.alloc (.cells (factL x).toArray 54)) := (Below.refl _ w).alloc (Nat.le_refl _) _
  have HU := Lib.hid (judge_under_any (w.alloc (.cells (factL x).toArray 54)) sl xs x.id z.id (h.below b0) hlen)
  have B0 := Lib.hid b0
  have hz : (w.alloc (.cells (factL x).toArray 54)).heap.size = w.heap.size + 1 := by simp
  obtain ⟨oa, cap, rfl, _, _, _⟩ := h
  clear h1 h2 h3 b0
  cases e6 : x.kind == 6
  · go_enter Try.func37, Try.ntmps37
    go_wp2
    go_ret
    exact ⟨ret_bool (by rw [HB.out, e6]; rfl), B0.out⟩
  · cases en : x.node == z.node
    · go_enter Try.func37, Try.ntmps37
      go_wp2
      go_ret
      exact ⟨ret_bool (by rw [HB.out, e6, en]; rfl), B0.out⟩
    · cases et : x.to == v
      · go_enter Try.func37, Try.ntmps37
        go_wp2
        go_ret
        exact ⟨ret_bool (by rw [HB.out, e6, en, et]; rfl), B0.out⟩
      · have HB2 : Hid (vpB xs z.node z.id v x = underM xs x.id z.id) := Lib.hid (by rw [HB.out, e6, en, et]; rfl)
        generalize vpB xs z.node z.id v x = r at *
        generalize underM xs x.id z.id = u at *
        clear HB
        go_enter Try.func37, Try.ntmps37
        go_wp2_with fail
        refine HU.out.mono ?_
        rintro e w1 ⟨rfl, hb⟩
        have HB3 := Lib.hid (B0.out.trans (hb.mono (by omega)))
        clear hb
        go_wp2
        go_ret
        exact ⟨ret_bool HB2.out.symm, HB3.out⟩
/-! ### what a window's lists are -/
def GoodW (xs : List FactD) (beta : Int) (m : WinM) : Prop :=
  (m.vs.length : Int) ≤ max beta 0 ∧ m.id ∈ lineM xs m.node ∧ ∀ l ∈ m.vs, ∀ j (h : j < l.length), 0 ≤ l[j] ∧ l[j] < 32 ∧ xs.any (vpB xs m.node m.id l[j]) = true ∧ ∀ i (h' : i < l.length), i < j → l[i] < l[j]
theorem reignL_mem {nd : Int} {xs : List FactD} {y : FactD} (h : y ∈ reignL nd xs) : y ∈ xs := by
  unfold reignL at h
  split at h
  · cases h
  · exact List.mem_of_mem_drop h
theorem wins_good {xs : List FactD} {beta : Int} {k : Nat} {m : WinM} (h : m ∈ winsK xs beta k) : GoodW xs beta m := by
  unfold winsK at h
  simp only [List.mem_map, List.mem_filter, List.mem_range] at h
  obtain ⟨i, ⟨hi, hs⟩, rfl⟩ := h
  unfold wsel at hs
  unfold winOf
  cases hx : xs[i]? with
  | none => rw [hx] at hs; cases hs
  | some x =>
    rw [hx] at hs
    simp only [Bool.and_eq_true, beq_iff_eq] at hs
    have hxm : x ∈ xs := List.mem_of_getElem? hx
    refine ⟨?_, ?_, ?_⟩
    · simp only [windowF, lastN, List.length_map, List.length_drop]
      omega
    · unfold lineM
      exact List.mem_map.2 ⟨x, List.mem_filter.2 ⟨hxm, by simp [accB, hs.1]⟩, rfl⟩
    · intro l hl j hj
      simp only [windowF, List.mem_map] at hl
      obtain ⟨a, _, rfl⟩ := hl
      unfold wv at hj ⊢
      unfold votersF at hj ⊢
      have hp := compact_sorted (votL xs x.node ((reignL x.node (xs.take i))[a]?.getD FactD.zero).poll x.id ((reignL x.node (xs.take i)).take a))
      have hm := mem_compact (List.getElem_mem hj)
      rw [List.mem_mergeSort] at hm
      have hv : ∀ t, t ∈ votL xs x.node ((reignL x.node (xs.take i))[a]?.getD FactD.zero).poll x.id ((reignL x.node (xs.take i)).take a) → 0 ≤ t ∧ t < 32 ∧ xs.any (vpB xs x.node x.id t) = true := by
        intro t ht
        unfold votL at ht
        simp only [List.mem_map, List.mem_filter] at ht
        obtain ⟨y, ⟨hy, hb⟩, rfl⟩ := ht
        have hyx : y ∈ xs := List.mem_of_mem_take (reignL_mem (List.mem_of_mem_take hy))
        unfold votB at hb
        simp only [Bool.and_eq_true, decide_eq_true_eq] at hb
        obtain ⟨⟨⟨⟨⟨h6, hn⟩, _⟩, h0⟩, h32⟩, hu⟩ := hb
        exact ⟨h0, h32, List.any_eq_true.2 ⟨y, hyx, by simp [vpB, h6, hn, hu]⟩⟩
      obtain ⟨h0, h32, ha⟩ := hv _ hm
      exact ⟨h0, h32, ha, fun i' hi' hlt => List.pairwise_iff_getElem.1 hp i' j hi' hj hlt⟩
end Go.Proofs.Ytmenfbfekfljbaa
