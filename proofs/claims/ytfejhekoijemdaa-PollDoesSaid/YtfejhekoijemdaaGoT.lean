import Derived.Test.YtfejhekoijemdaaCheck
import Derived.Test.YtfejhekoijemdaaPlainA
namespace Go.Proofs.Ytfejhekoijemdaa
open Go.RowKit

set_option maxRecDepth 100000 in
set_option maxHeartbeats 1000000 in
/-- bag.good -/
theorem good_at (w w0 : World) (v : Value) (l : List Vt) (h : SlIn w0 v 33 vtL l) (hb0 : Below w0.heap.size w0 w) : Calls Try.prog 63 #[v] w fun e w' => ∃ oa cap, e = .returned (.slice oa (goodV l).length cap) ∧ SlIn w0 (.slice oa (goodV l).length cap) 33 vtL (goodV l) ∧ Below w.heap.size w w' := by
  have HC := Lib.hid (check_any w v l (h.below hb0))
  clear hb0
  have HSL := Lib.hid h
  obtain ⟨oa, cap, rfl, g1, g2, g3⟩ := h
  clear g3
  by_cases hb : bagE l = 0
  · have hg : goodV l = l := by unfold goodV; rw [if_pos hb]
    rw [hb] at HC
    have HG := Lib.hid hg
    clear hg hb
    go_enter Try.func63, Try.ntmps63
    go_wp2_with fail
    refine HC.out.mono ?_
    rintro e w1 ⟨rfl, b1⟩
    have B1 := Lib.hid b1
    clear b1
    go_wp2
    go_ret
    rw [HG.out]
    exact ⟨oa, cap, rfl, HSL.out, B1.out⟩
  · have hg : goodV l = [] := by unfold goodV; rw [if_neg hb]
    have h70 : bagE l = 70 := by
      unfold bagE at hb ⊢
      split at hb
      · exact absurd rfl hb
      · rename_i h; rw [if_neg h]
    rw [h70] at HC
    have HG := Lib.hid hg
    clear hg hb h70
    go_enter Try.func63, Try.ntmps63
    go_wp2_with fail
    refine HC.out.mono ?_
    rintro e w1 ⟨rfl, b1⟩
    have B1 := Lib.hid b1
    clear b1
    go_wp2
    go_ret
    rw [HG.out]
    exact ⟨none, 0, rfl, ⟨none, 0, rfl, Nat.le_refl _, Nat.zero_le _, fun h => absurd h (Nat.lt_irrefl _)⟩, B1.out⟩
theorem good_any (w : World) (v : Value) (l : List Vt) (h : SlIn w v 33 vtL l) : Calls Try.prog 63 #[v] w fun e w' => ∃ oa cap, e = .returned (.slice oa (goodV l).length cap) ∧ SlIn w (.slice oa (goodV l).length cap) 33 vtL (goodV l) ∧ Below w.heap.size w w' := good_at w w v l h (Below.refl _ _)
end Go.Proofs.Ytfejhekoijemdaa
namespace Go.Proofs.Ytfejhekoijemdaa
open Go.RowKit

theorem sumN_app : ∀ (a b : List Vt), sumN (a ++ b) = sumN a + sumN b := by
  intro a b
  induction a with
  | nil => simp [sumN]
  | cons x a ih => simp only [List.cons_append, sumN]; rw [ih]; omega
theorem sumN_take {l : List Vt} (hp : Pos l) (k : Nat) : 0 ≤ sumN (l.take k) ∧ sumN (l.take k) ≤ sumN l := by
  have h1 := sumN_pos (fun y hy => hp y (List.mem_of_mem_take hy) : Pos (l.take k))
  have h2 := sumN_pos (fun y hy => hp y (List.mem_of_mem_drop hy) : Pos (l.drop k))
  have h3 := sumN_app (l.take k) (l.drop k)
  rw [List.take_append_drop] at h3
  omega
set_option maxRecDepth 100000 in
set_option maxHeartbeats 1000000 in
/-- bag.Total -/
theorem total_any (w : World) (v : Value) (l : List Vt) (h : SlIn w v 33 vtL l) : Calls Try.prog 53 #[v] w fun e w' => e = .returned (.int .i64 (totV l)) ∧ Below w.heap.size w w' := by
  have HC := Lib.hid (good_any w v l h)
  have HT : Hid (totV l = sumN (goodV l)) := Lib.hid rfl
  obtain ⟨_, hp, hs⟩ := goodV_ok l
  generalize totV l = T at *
  generalize goodV l = g at *
  clear h
  go_enter Try.func53, Try.ntmps53
  go_wp2_with fail
  refine HC.out.mono ?_
  rintro e w1 ⟨oa, cap, rfl, ⟨oa', cap', e1, g1, g2, g3⟩, b1⟩
  simp only [Value.slice.injEq] at e1
  obtain ⟨rfl, _, rfl⟩ := e1
  unfold maxLen at g2
  have H3 := Lib.hid g3
  have B1 := Lib.hid b1
  clear g3 b1 HC
  go_wp2
  go_loopw [3, 9] (fun v3 v9 wr => ∃ (k : Nat), k ≤ g.length ∧ v9 = .int .i64 k ∧ v3 = .int .i64 (sumN (g.take k)) ∧ Hid (Below w.heap.size w wr)) (fun _ i _ => g.length - (intOf i).toNat)
  case atStart => exact ⟨0, Nat.zero_le _, rfl, rfl, B1⟩
  case round =>
    obtain ⟨k, hk, rfl, rfl, HB⟩ := hrel
    by_cases hlt : k < g.length
    · obtain ⟨b, off, hoa, hbb, hrow⟩ := H3.out (by omega)
      subst hoa
      have hs1 := hrow k hlt
      rw [← obj_below HB.out hbb] at hs1
      have hbl : b < wr.heap.size := Nat.lt_of_lt_of_le hbb HB.out.size
      have hmulk : off + k * 33 + 33 ≤ off + k * 33 + 33 := Nat.le_refl _
      have hn : Hid (sumN (g.take (k + 1)) = sumN (g.take k) + g[k].n) := Lib.hid (by rw [List.take_succ_eq_append_getElem hlt, sumN_app]; simp [sumN])
      have h1 := sumN_take hp k
      have h2 := sumN_take hp (k + 1)
      rw [hn.out] at h2
      have hwr : IntKind.i64.wrap (sumN (g.take k) + g[k].n) = sumN (g.take k) + g[k].n := by simp [IntKind.wrap, IntKind.signed, IntKind.bits]; omega
      have HB2 := Lib.hid (HB.out.alloc HB.out.size (.cells (vtL g[k]).toArray 58))
      have o2 : obj (wr.alloc (.cells (vtL g[k]).toArray 58)) wr.heap.size = some (.cells (vtL g[k]).toArray 58 (0, 0)) := obj_alloc_at _ _ _ rfl
      clear h1 h2 hrow
      generalize g[k] = x at *
      obtain ⟨_, p2⟩ := vt_parts (x := x) (W := wr.alloc (.cells (vtL x).toArray 58)) (b := wr.heap.size) (o := 0) (by rw [o2, subOf_cells (by simp), subA_all (by simp)])
      rw [Nat.zero_add] at p2
      clear o2
      go_wp2
      go_roundw
      case rel => exact ⟨k + 1, by omega, by go_num, by rw [hn.out], HB2⟩
      case measure => simp [intOf]; omega
    · have HG : Hid (sumN (g.take k) = T) := Lib.hid (by rw [List.take_of_length_le (by omega), HT.out])
      go_wp2
      go_ret
      exact ⟨ret_int HG.out, HB.out⟩
end Go.Proofs.Ytfejhekoijemdaa
