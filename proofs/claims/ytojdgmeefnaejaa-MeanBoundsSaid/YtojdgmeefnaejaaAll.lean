import Derived.Test.YtojdgmeefnaejaaGoes
namespace Go.Proofs.Ytojdgmeefnaejaa
open Go.RowKit

/-- the elements of a slice of means -/
def SlAt (w : World) (oa : Option Addr) (len : Nat) (L : Nat → MeanD) : Prop :=
  0 < len → ∃ b off, oa = some ⟨b, off, none⟩ ∧ b < w.heap.size ∧ ∀ i, i < len → w.cell? ⟨b, off + i * 2, none⟩ = some (.int .i64 (L i).value) ∧ w.cell? ⟨b, off + i * 2 + 1, none⟩ = some (.int .i64 (L i).at_)
theorem SlAt.below {w w' : World} {oa : Option Addr} {len : Nat} {L : Nat → MeanD} (h : SlAt w oa len L) (hb : Below w.heap.size w w') : SlAt w' oa len L := fun hl => by
  obtain ⟨b, off, he, hlt, hc⟩ := h hl
  exact ⟨b, off, he, Nat.lt_of_lt_of_le hlt hb.size, fun i hi => ⟨(hb.cell hlt).trans (hc i hi).1, (hb.cell hlt).trans (hc i hi).2⟩⟩
set_option maxRecDepth 100000 in
set_option maxHeartbeats 2000000 in
theorem all_zero (r : RuleD) (m : MeanD) (oa : Option Addr) (cap : Nat) (hcap : cap ≤ maxLen) (w : World) :
    Calls Try.prog 20 #[ruleV r, meanV m, .slice oa 0 cap] w fun e w' => e = .returned (.tuple #[meanV m, .int .i64 0, .int .i64 0]) ∧ Below w.heap.size w w' := by
  unfold maxLen at hcap
  unfold meanV ruleV
  go_enter Try.func20, Try.ntmps20
  go_wp2_with fail
  go_loopw [15] (fun v wr => v = .int .i64 0 ∧ obj wr (w.heap.size + 1) = some (.cells #[.int .i64 m.value, .int .i64 m.at_] 25 (0, 0)) ∧ obj wr (w.heap.size + 1 + 1) = some (.cells #[.int .i64 0, .int .i64 0] 25 (0, 0)) ∧ Below w.heap.size w wr) (fun _ _ => 0)
  case atStart =>
    refine ⟨rfl, ?_, ?_, ?_⟩
    · rw [obj_alloc_past _ _ _ (by simp)]; exact obj_alloc_at _ _ _ (by simp)
    · exact obj_alloc_at _ _ _ (by simp)
    · exact (((Below.refl _ _).alloc (Nat.le_refl _) _).alloc (by simp) _).alloc (by simp; omega) _
  case round =>
    obtain ⟨rfl, l2, l3, l4⟩ := hrel
    have z0 := lt_of_obj l3
    have z1 := lt_of_obj l2
    have d0 : wr.cell? ⟨w.heap.size + 1, 0, none⟩ = some (.int .i64 m.value) := cell_at l2 0
    have d1 : wr.cell? ⟨w.heap.size + 1, 1, none⟩ = some (.int .i64 m.at_) := cell_at l2 1
    have f0 : wr.cell? ⟨w.heap.size + 1 + 1, 0, none⟩ = some (.int .i64 0) := cell_at l3 0
    have f1 : wr.cell? ⟨w.heap.size + 1 + 1, 1, none⟩ = some (.int .i64 0) := cell_at l3 1
    have ff : ∀ i, wr.frozen? ⟨w.heap.size + 1 + 1, i, none⟩ = false := frozen_at l3
    go_wp2_with fail
    have q := obj_setCell_at (.int .i64 m.at_) (i := 1) (obj_setCell_at (.int .i64 m.value) (i := 0) l3)
    have q0 := cell_at q 0
    have q1 := cell_at q 1
    simp at q0 q1
    refine bodyPost_ret (v := .tuple #[meanV m, .int .i64 0, .int .i64 0]) (by simp [results, Try.results20, go_sem, meanV, q0, q1]) rfl ⟨rfl, ?_⟩
    exact (l4.setCell (by simp; omega) _).setCell (by simp; omega) _
set_option maxRecDepth 100000 in
set_option maxHeartbeats 2000000 in
theorem rall_zero (r : RuleD) (m : MeanD) (oa : Option Addr) (cap : Nat) (hcap : cap ≤ maxLen) (w : World) :
    Calls Try.prog 21 #[ruleV r, meanV m, .slice oa 0 cap] w fun e w' => e = .returned (.tuple #[meanV m, .int .i64 0, .int .i64 0]) ∧ Below w.heap.size w w' := by
  unfold maxLen at hcap
  unfold meanV ruleV
  go_enter Try.func21, Try.ntmps21
  go_wp2_with fail
  go_loopw [9] (fun v wr => v = .int .i64 0 ∧ obj wr (w.heap.size + 1) = some (.cells #[.int .i64 m.value, .int .i64 m.at_] 25 (0, 0)) ∧ obj wr (w.heap.size + 1 + 1) = some (.cells #[.int .i64 0, .int .i64 0] 25 (0, 0)) ∧ Below w.heap.size w wr) (fun _ _ => 0)
  case atStart =>
    refine ⟨rfl, ?_, ?_, ?_⟩
    · rw [obj_alloc_past _ _ _ (by simp)]; exact obj_alloc_at _ _ _ (by simp)
    · exact obj_alloc_at _ _ _ (by simp)
    · exact (((Below.refl _ _).alloc (Nat.le_refl _) _).alloc (by simp) _).alloc (by simp; omega) _
  case round =>
    obtain ⟨rfl, l2, l3, l4⟩ := hrel
    have z0 := lt_of_obj l3
    have z1 := lt_of_obj l2
    have d0 : wr.cell? ⟨w.heap.size + 1, 0, none⟩ = some (.int .i64 m.value) := cell_at l2 0
    have d1 : wr.cell? ⟨w.heap.size + 1, 1, none⟩ = some (.int .i64 m.at_) := cell_at l2 1
    have f0 : wr.cell? ⟨w.heap.size + 1 + 1, 0, none⟩ = some (.int .i64 0) := cell_at l3 0
    have f1 : wr.cell? ⟨w.heap.size + 1 + 1, 1, none⟩ = some (.int .i64 0) := cell_at l3 1
    have ff : ∀ i, wr.frozen? ⟨w.heap.size + 1 + 1, i, none⟩ = false := frozen_at l3
    go_wp2_with fail
    have q := obj_setCell_at (.int .i64 m.at_) (i := 1) (obj_setCell_at (.int .i64 m.value) (i := 0) l3)
    have q0 := cell_at q 0
    have q1 := cell_at q 1
    simp at q0 q1
    refine bodyPost_ret (v := .tuple #[meanV m, .int .i64 0, .int .i64 0]) (by simp [results, Try.results21, go_sem, meanV, q0, q1]) rfl ⟨rfl, ?_⟩
    exact (l4.setCell (by simp; omega) _).setCell (by simp; omega) _
theorem all_any (r : RuleD) (m : MeanD) (oa : Option Addr) (len cap : Nat) (hlc : len ≤ cap) (hcap : cap ≤ maxLen) (L : Nat → MeanD) (w : World) (h : SlAt w oa len L) :
    Calls Try.prog 20 #[ruleV r, meanV m, .slice oa len cap] w fun e w' => e = .returned (.tuple #[meanV (allR r L len 0 m).1, .int .i64 (allR r L len 0 m).2.1, .int .i64 (allR r L len 0 m).2.2]) ∧ Below w.heap.size w w' := by
  by_cases h0 : len = 0
  · subst h0
    exact all_zero r m oa cap hcap w
  · obtain ⟨b, off, rfl, hb, hL⟩ := h (by omega)
    exact all_some r m b off len cap hlc hcap L w hb hL
theorem rall_any (r : RuleD) (m : MeanD) (oa : Option Addr) (len cap : Nat) (hlc : len ≤ cap) (hcap : cap ≤ maxLen) (L : Nat → MeanD) (w : World) (h : SlAt w oa len L) :
    Calls Try.prog 21 #[ruleV r, meanV m, .slice oa len cap] w fun e w' => e = .returned (.tuple #[meanV (allR r L len 0 m).1, .int .i64 (allR r L len 0 m).2.1, .int .i64 (allR r L len 0 m).2.2]) ∧ Below w.heap.size w w' := by
  by_cases h0 : len = 0
  · subst h0
    exact rall_zero r m oa cap hcap w
  · obtain ⟨b, off, rfl, hb, hL⟩ := h (by omega)
    exact rall_some r m b off len cap hlc hcap L w hb hL

set_option maxRecDepth 100000 in
set_option maxHeartbeats 2000000 in
theorem mall_any (r : RuleD) (m : MeanD) (oa : Option Addr) (len cap : Nat) (hlc : len ≤ cap) (hcap : cap ≤ maxLen) (L : Nat → MeanD) (w : World) (h : SlAt w oa len L) :
    Calls Try.prog 7 #[ruleV r, meanV m, .slice oa len cap] w fun e w' => e = .returned (.bool true) ∧ Below w.heap.size w w' := by
  have h1 : ∀ w' : World, Below w.heap.size w w' → _ := fun w' hb => all_any r m oa len cap hlc hcap L w' (h.below hb)
  have h2 : ∀ w' : World, Below w.heap.size w w' → _ := fun w' hb => rall_any r m oa len cap hlc hcap L w' (h.below hb)
  generalize allR r L len 0 m = o at h1 h2
  obtain ⟨y, n, e⟩ := o
  simp only [ruleV, meanV] at h1 h2
  have H1 := Lib.hid h1
  have H2 := Lib.hid h2
  have hm := hcap
  unfold maxLen at hm
  clear h1 h2 h hcap
  unfold ruleV meanV
  go_enter Try.func7, Try.ntmps7
  go_wp2_with fail
  refine (live_any _).mono ?_
  rintro _ w1 ⟨rfl, hb1⟩
  have o1 := (obj_below hb1 (n := w.heap.size) (by simp; omega)).trans ((by rw [obj_alloc_past _ _ _ (by simp)]; exact obj_alloc_at _ _ _ rfl) : _ = some (.cells #[.int .i64 r.first, .int .i64 r.min, .int .i64 r.max, .int .i64 r.half, .int .i64 r.quart] 23 (0, 0)))
  have o2 := (obj_below hb1 (n := w.heap.size + 1) (by simp)).trans ((obj_alloc_at _ _ _ (by simp)) : _ = some (.cells #[.int .i64 m.value, .int .i64 m.at_] 25 (0, 0)))
  have hB : Below w.heap.size w w1 := (((Below.refl _ _).alloc (Nat.le_refl _) _).alloc (by simp) _).trans (hb1.mono (by simp; omega))
  clear hb1
  have z1 := lt_of_obj o1
  have z2 := lt_of_obj o2
  have a0 := cell_at o1 0
  have a1 := cell_at o1 1
  have a2 := cell_at o1 2
  have a3 := cell_at o1 3
  have a4 := cell_at o1 4
  have b0 := cell_at o2 0
  have b1 := cell_at o2 1
  simp at a0 a1 a2 a3 a4 b0 b1
  by_cases hl : 1000 < len
  · go_wp2_with fail
    refine (live_any _).mono ?_
    rintro _ w2 ⟨rfl, hb2⟩
    go_wp2_with fail
    go_ret
    exact ⟨rfl, hB.trans (hb2.mono hB.size)⟩
  · go_wp2_with fail
    refine (H1.out _ hB).mono ?_
    rintro _ w2 ⟨rfl, hb2⟩
    clear a0 a1 a2 a3 a4 b0 b1
    have p2 := (obj_below hb2 (n := w.heap.size) z1).trans o1
    have p3 := (obj_below hb2 (n := w.heap.size + 1) z2).trans o2
    have hB2 : Below w.heap.size w w2 := hB.trans (hb2.mono hB.size)
    clear hb2 o1 o2 z1 z2 hB
    have z1 := lt_of_obj p2
    have z2 := lt_of_obj p3
    have a0 := cell_at p2 0
    have a1 := cell_at p2 1
    have a2 := cell_at p2 2
    have a3 := cell_at p2 3
    have a4 := cell_at p2 4
    have b0 := cell_at p3 0
    have b1 := cell_at p3 1
    simp at a0 a1 a2 a3 a4 b0 b1
    go_wp2_with fail
    refine (H2.out _ (hB2.alloc hB2.size _)).mono ?_
    rintro _ w3 ⟨rfl, hb3⟩
    have q1 := (obj_below hb3 (n := w2.heap.size) (by simp)).trans ((obj_alloc_at _ _ _ rfl) : _ = some (.cells #[.int .i64 y.value, .int .i64 y.at_] 25 (0, 0)))
    have z4 := lt_of_obj q1
    have c0 := cell_at q1 0
    have c1 := cell_at q1 1
    simp at c0 c1
    have hB3 : Below w.heap.size w w3 := (hB2.alloc hB2.size _).trans (hb3.mono (by have := hB2.size; simp; omega))
    clear hb3
    go_wp2_with fail
    go_ret
    exact ⟨rfl, hB3.alloc hB3.size _⟩
end Go.Proofs.Ytojdgmeefnaejaa
