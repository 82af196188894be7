import Derived.Test.YtojdgmeefnaejaaShare
namespace Go.Proofs.Ytojdgmeefnaejaa
open Go.RowKit

set_option maxRecDepth 100000 in
set_option maxHeartbeats 1000000 in
theorem may_rule (r : RuleD) (m : MeanD) (w : World) (h : ¬ RuleOk r) : Calls Try.prog 14 #[ruleV r, meanV m] w fun e w' => e = .returned (.int .i64 130) ∧ Below w.heap.size w w' := by
  have HB := Lib.hid h
  clear h
  unfold ruleV meanV
  go_enter Try.func14, Try.ntmps14
  go_wp2_with fail
  refine (check_bad r _ HB.out).mono ?_
  rintro e w1 ⟨rfl, hb⟩
  go_wp2_with fail
  go_ret
  exact ⟨rfl, (((Below.refl _ _).alloc (Nat.le_refl _) _).alloc (by simp) _).trans (hb.mono (by simp; omega))⟩
set_option maxRecDepth 100000 in
set_option maxHeartbeats 1000000 in
theorem may_any (r : RuleD) (m : MeanD) (w : World) (h : RuleOk r) : Calls Try.prog 14 #[ruleV r, meanV m] w fun e w' => e = .returned (.int .i64 (if 0 ≤ m.value ∧ m.value ≤ 16 * r.max ∧ 0 ≤ m.at_ ∧ m.at_ ≤ 4611686018427387903 then 0 else 130)) ∧ Below w.heap.size w w' := by
  have hr := h
  obtain ⟨h1, h2, h3, h4, h5, h6, h7, h8⟩ := h
  unfold meanV
  go_enter Try.func14, Try.ntmps14
  unfold ruleV
  go_wp2_with fail
  refine (check_ok r _ hr).mono ?_
  rintro e w1 ⟨rfl, hb⟩
  clear hr
  have hz : w.heap.size + 1 < w1.heap.size := by have := hb.size; simp at this; omega
  have o1 : obj w1 w.heap.size = some (.cells #[.int .i64 r.first, .int .i64 r.min, .int .i64 r.max, .int .i64 r.half, .int .i64 r.quart] 23 (0, 0)) := (obj_below hb (by simp; omega)).trans (by rw [obj_alloc_past _ _ _ (by simp)]; exact obj_alloc_at _ _ _ rfl)
  have o2 : obj w1 (w.heap.size + 1) = some (.cells #[.int .i64 m.value, .int .i64 m.at_] 25 (0, 0)) := (obj_below hb (by simp)).trans (obj_alloc_at _ _ _ (by simp))
  have c2 : w1.cell? ⟨w.heap.size, 2, none⟩ = some (.int .i64 r.max) := cell_at o1 2
  have d0 : w1.cell? ⟨w.heap.size + 1, 0, none⟩ = some (.int .i64 m.value) := cell_at o2 0
  have d1 : w1.cell? ⟨w.heap.size + 1, 1, none⟩ = some (.int .i64 m.at_) := cell_at o2 1
  have hB : Below w.heap.size w w1 := (((Below.refl _ _).alloc (Nat.le_refl _) _).alloc (by simp) _).trans (hb.mono (by simp; omega))
  clear hb
  go_wp2_with ((go_at_call 22; refine (in_any _ _ _ (by omega) _).mono ?_; rintro e w' ⟨rfl, rfl⟩))
  all_goals (go_ret; refine ⟨ret_int ?_, hB⟩; simp_all [inB]; try omega)

/-! ### whole numbers -/
theorem floor_pos {w d y : Int} (hw : 0 ≤ w) (hwy : w ≤ y) (hy : 1 ≤ y) (hd : 0 ≤ d) : 0 ≤ w * d / y ∧ w * d / y ≤ d := by
  constructor
  · exact Int.ediv_nonneg (Int.mul_nonneg hw hd) (by omega)
  · apply Int.ediv_le_of_le_mul (by omega)
    rw [Int.mul_comm d y]
    exact Int.mul_le_mul_of_nonneg_right hwy hd
theorem floor_neg {w d y : Int} (hw : 0 ≤ w) (hwy : w ≤ y) (hy : 1 ≤ y) (hd : d ≤ 0) : d ≤ w * d / y ∧ w * d / y ≤ 0 := by
  constructor
  · apply Int.le_ediv_of_mul_le (by omega)
    rw [Int.mul_comm d y]
    have := Int.mul_le_mul_of_nonneg_right hwy (show 0 ≤ -d by omega)
    rw [Int.mul_neg, Int.mul_neg] at this
    omega
  · have h1 : w * d ≤ 0 := by
      have := Int.mul_nonneg hw (show 0 ≤ -d by omega)
      rw [Int.mul_neg] at this
      omega
    exact Int.ediv_le_of_le_mul (by omega) (by omega)
def obsW (r : RuleD) (m : MeanD) (now : Int) : Int := 1 + min r.half (now - m.at_)
def obsD (r : RuleD) (m : MeanD) (took : Int) : Int := 16 * clip 0 took r.max - m.value
def obsV (r : RuleD) (m : MeanD) (took now : Int) : Int := m.value + obsW r m now * obsD r m took / (r.half + 1)
theorem obs_bd {r : RuleD} {m : MeanD} {took now : Int} (hm : MeanOk r m) (h : m.at_ ≤ now) :
    1 ≤ obsW r m now ∧ obsW r m now ≤ r.half + 1 ∧ -17592186044416 ≤ obsD r m took ∧ obsD r m took ≤ 17592186044416 ∧
    -17592186044416 ≤ obsW r m now * obsD r m took / (r.half + 1) ∧ obsW r m now * obsD r m took / (r.half + 1) ≤ 17592186044416 ∧ 0 ≤ obsV r m took now ∧ obsV r m took now ≤ 16 * r.max := by
  obtain ⟨⟨h1, h2, h3, h4, h5, h6, h7, h8⟩, g1, g2, g3, g4⟩ := hm
  have hc := clip_bd 0 took r.max (by omega)
  have hw1 : 1 ≤ obsW r m now := by unfold obsW; omega
  have hw2 : obsW r m now ≤ r.half + 1 := by unfold obsW; omega
  have hD : obsD r m took = 16 * clip 0 took r.max - m.value := rfl
  have hV : obsV r m took now = m.value + obsW r m now * obsD r m took / (r.half + 1) := rfl
  by_cases hd : 0 ≤ obsD r m took
  · have := floor_pos (w := obsW r m now) (y := r.half + 1) (by omega) hw2 (by omega) hd
    omega
  · have := floor_neg (w := obsW r m now) (y := r.half + 1) (by omega) hw2 (by omega) (by omega : obsD r m took ≤ 0)
    omega
def newV (r : RuleD) : Int := if r.min < r.first then (if 16 * r.max < 64 * (r.first - 1) / r.quart + 1 then 16 * r.max else 64 * (r.first - 1) / r.quart + 1) else 0
def tmoV (r : RuleD) (m : MeanD) : Int := clip r.min ((m.value * r.quart + 63) / 64) r.max

set_option maxRecDepth 100000 in
set_option maxHeartbeats 1000000 in
theorem rcheck_ok (r : RuleD) (w : World) (h : RuleOk r) : Calls Try.prog 13 #[ruleV r] w fun e w' => e = .returned (.int .i64 0) ∧ Below w.heap.size w w' := by
  obtain ⟨h1, h2, h3, h4, h5, h6, h7, h8⟩ := h
  unfold ruleV
  go_enter Try.func13, Try.ntmps13
  go_wp2
  go_ret
  exact ⟨rfl, (Below.refl _ _).alloc (Nat.le_refl _) _⟩
set_option maxRecDepth 100000 in
set_option maxHeartbeats 1000000 in
theorem rcheck_bad (r : RuleD) (w : World) (h : ¬ RuleOk r) : Calls Try.prog 13 #[ruleV r] w fun e w' => e = .returned (.int .i64 130) ∧ Below w.heap.size w w' := by
  have HB := Lib.hid h
  clear h
  unfold ruleV
  go_enter Try.func13, Try.ntmps13
  go_wp2
  all_goals first
    | (go_ret; exact ⟨rfl, (Below.refl _ _).alloc (Nat.le_refl _) _⟩)
    | (exfalso; apply HB.out; simp_all [RuleOk]; done)
    | (exfalso; apply HB.out; simp_all [RuleOk]; omega)
def mayV (r : RuleD) (m : MeanD) : Int := if 0 ≤ m.value ∧ m.value ≤ 16 * r.max ∧ 0 ≤ m.at_ ∧ m.at_ ≤ 4611686018427387903 then 0 else 130
theorem may_ok (r : RuleD) (m : MeanD) (w : World) (h : MeanOk r m) : Calls Try.prog 14 #[ruleV r, meanV m] w fun e w' => e = .returned (.int .i64 0) ∧ Below w.heap.size w w' :=
  (may_any r m w h.1).mono fun _ _ ⟨he, hb⟩ => ⟨by rw [he, if_pos h.2], hb⟩
theorem may_bad (r : RuleD) (m : MeanD) (w : World) (h : ¬ MeanOk r m) : Calls Try.prog 14 #[ruleV r, meanV m] w fun e w' => e = .returned (.int .i64 130) ∧ Below w.heap.size w w' := by
  by_cases hr : RuleOk r
  · exact (may_any r m w hr).mono fun _ _ ⟨he, hb⟩ => ⟨by rw [he, if_neg (fun h2 => h ⟨hr, h2⟩)], hb⟩
  · exact may_rule r m w hr
set_option maxRecDepth 100000 in
set_option maxHeartbeats 1000000 in
theorem rmay_rule (r : RuleD) (m : MeanD) (w : World) (h : ¬ RuleOk r) : Calls Try.prog 15 #[ruleV r, meanV m] w fun e w' => e = .returned (.int .i64 130) ∧ Below w.heap.size w w' := by
  have HB := Lib.hid h
  clear h
  unfold ruleV meanV
  go_enter Try.func15, Try.ntmps15
  go_wp2_with fail
  refine (rcheck_bad r _ HB.out).mono ?_
  rintro e w1 ⟨rfl, hb⟩
  go_wp2_with fail
  go_ret
  exact ⟨rfl, (((Below.refl _ _).alloc (Nat.le_refl _) _).alloc (by simp) _).trans (hb.mono (by simp; omega))⟩
set_option maxRecDepth 100000 in
set_option maxHeartbeats 1000000 in
theorem rmay_any (r : RuleD) (m : MeanD) (w : World) (h : RuleOk r) : Calls Try.prog 15 #[ruleV r, meanV m] w fun e w' => e = .returned (.int .i64 (if 0 ≤ m.value ∧ m.value ≤ 16 * r.max ∧ 0 ≤ m.at_ ∧ m.at_ ≤ 4611686018427387903 then 0 else 130)) ∧ Below w.heap.size w w' := by
  have hr := h
  obtain ⟨h1, h2, h3, h4, h5, h6, h7, h8⟩ := h
  unfold meanV
  go_enter Try.func15, Try.ntmps15
  unfold ruleV
  go_wp2_with fail
  refine (rcheck_ok r _ hr).mono ?_
  rintro e w1 ⟨rfl, hb⟩
  clear hr
  have hz : w.heap.size + 1 < w1.heap.size := by have := hb.size; simp at this; omega
  have o1 : obj w1 w.heap.size = some (.cells #[.int .i64 r.first, .int .i64 r.min, .int .i64 r.max, .int .i64 r.half, .int .i64 r.quart] 23 (0, 0)) := (obj_below hb (by simp; omega)).trans (by rw [obj_alloc_past _ _ _ (by simp)]; exact obj_alloc_at _ _ _ rfl)
  have o2 : obj w1 (w.heap.size + 1) = some (.cells #[.int .i64 m.value, .int .i64 m.at_] 25 (0, 0)) := (obj_below hb (by simp)).trans (obj_alloc_at _ _ _ (by simp))
  have c2 : w1.cell? ⟨w.heap.size, 2, none⟩ = some (.int .i64 r.max) := cell_at o1 2
  have d0 : w1.cell? ⟨w.heap.size + 1, 0, none⟩ = some (.int .i64 m.value) := cell_at o2 0
  have d1 : w1.cell? ⟨w.heap.size + 1, 1, none⟩ = some (.int .i64 m.at_) := cell_at o2 1
  have hB : Below w.heap.size w w1 := (((Below.refl _ _).alloc (Nat.le_refl _) _).alloc (by simp) _).trans (hb.mono (by simp; omega))
  clear hb
  go_wp2
  all_goals (go_ret; refine ⟨ret_int ?_, hB⟩; simp_all; try omega)
theorem rmay_ok (r : RuleD) (m : MeanD) (w : World) (h : MeanOk r m) : Calls Try.prog 15 #[ruleV r, meanV m] w fun e w' => e = .returned (.int .i64 0) ∧ Below w.heap.size w w' :=
  (rmay_any r m w h.1).mono fun _ _ ⟨he, hb⟩ => ⟨by rw [he, if_pos h.2], hb⟩
theorem rmay_bad (r : RuleD) (m : MeanD) (w : World) (h : ¬ MeanOk r m) : Calls Try.prog 15 #[ruleV r, meanV m] w fun e w' => e = .returned (.int .i64 130) ∧ Below w.heap.size w w' := by
  by_cases hr : RuleOk r
  · exact (rmay_any r m w hr).mono fun _ _ ⟨he, hb⟩ => ⟨by rw [he, if_neg (fun h2 => h ⟨hr, h2⟩)], hb⟩
  · exact rmay_rule r m w hr
end Go.Proofs.Ytojdgmeefnaejaa
