import Derived.Test.YtojdgmeefnaejaaMean7
namespace Go.Proofs.Ytojdgmeefnaejaa
open Go.RowKit

open Classical in
noncomputable def obsR (r : RuleD) (m : MeanD) (took now : Int) : MeanD × Int :=
  if MeanOk r m then if m.at_ ≤ now ∧ now ≤ 4611686018427387903 then (⟨obsV r m took now, now⟩, 0) else (⟨0, 0⟩, 131) else (⟨0, 0⟩, 130)
theorem obs_any (r : RuleD) (m : MeanD) (took now : Int) (w : World) : Calls Try.prog 18 #[ruleV r, meanV m, .int .i64 took, .int .i64 now] w fun e w' => e = .returned (.tuple #[meanV (obsR r m took now).1, .int .i64 (obsR r m took now).2]) ∧ Below w.heap.size w w' := by
  unfold obsR
  by_cases h : MeanOk r m
  · rw [if_pos h]
    by_cases hn : m.at_ ≤ now ∧ now ≤ 4611686018427387903
    · rw [if_pos hn]; exact obs_ok r m took now w h hn.1 hn.2
    · rw [if_neg hn]; exact obs_past r m took now w h hn
  · rw [if_neg h]; exact obs_bad r m took now w h
theorem robs_any (r : RuleD) (m : MeanD) (took now : Int) (w : World) : Calls Try.prog 19 #[ruleV r, meanV m, .int .i64 took, .int .i64 now] w fun e w' => e = .returned (.tuple #[meanV (obsR r m took now).1, .int .i64 (obsR r m took now).2]) ∧ Below w.heap.size w w' := by
  unfold obsR
  by_cases h : MeanOk r m
  · rw [if_pos h]
    by_cases hn : m.at_ ≤ now ∧ now ≤ 4611686018427387903
    · rw [if_pos hn]; exact robs_ok r m took now w h hn.1 hn.2
    · rw [if_neg hn]; exact robs_past r m took now w h hn
  · rw [if_neg h]; exact robs_bad r m took now w h
open Classical in
noncomputable def newR (r : RuleD) (now : Int) : MeanD × Int :=
  if RuleOk r then if 0 ≤ now ∧ now ≤ 4611686018427387903 then (⟨newV r, now⟩, 0) else (⟨0, 0⟩, 131) else (⟨0, 0⟩, 130)
theorem new_any (r : RuleD) (now : Int) (w : World) : Calls Try.prog 9 #[ruleV r, .int .i64 now] w fun e w' => e = .returned (.tuple #[meanV (newR r now).1, .int .i64 (newR r now).2]) ∧ Below w.heap.size w w' := by
  unfold newR
  by_cases h : RuleOk r
  · rw [if_pos h]
    by_cases hn : 0 ≤ now ∧ now ≤ 4611686018427387903
    · rw [if_pos hn]; exact new_ok r now w h hn.1 hn.2
    · rw [if_neg hn]; exact new_past r now w h hn
  · rw [if_neg h]; exact new_bad r now w h
theorem rnew_any (r : RuleD) (now : Int) (w : World) : Calls Try.prog 10 #[ruleV r, .int .i64 now] w fun e w' => e = .returned (.tuple #[meanV (newR r now).1, .int .i64 (newR r now).2]) ∧ Below w.heap.size w w' := by
  unfold newR
  by_cases h : RuleOk r
  · rw [if_pos h]
    by_cases hn : 0 ≤ now ∧ now ≤ 4611686018427387903
    · rw [if_pos hn]; exact rnew_ok r now w h hn.1 hn.2
    · rw [if_neg hn]; exact rnew_past r now w h hn
  · rw [if_neg h]; exact rnew_bad r now w h
open Classical in
noncomputable def tmoR (r : RuleD) (m : MeanD) : Int := if MeanOk r m then tmoV r m else 0
theorem tmo_any (r : RuleD) (m : MeanD) (w : World) : Calls Try.prog 16 #[ruleV r, meanV m] w fun e w' => e = .returned (.int .i64 (tmoR r m)) ∧ Below w.heap.size w w' := by
  unfold tmoR
  by_cases h : MeanOk r m
  · rw [if_pos h]; exact tmo_ok r m w h
  · rw [if_neg h]; exact tmo_bad r m w h
theorem rtmo_any (r : RuleD) (m : MeanD) (w : World) : Calls Try.prog 17 #[ruleV r, meanV m] w fun e w' => e = .returned (.int .i64 (tmoR r m)) ∧ Below w.heap.size w w' := by
  unfold tmoR
  by_cases h : MeanOk r m
  · rw [if_pos h]; exact rtmo_ok r m w h
  · rw [if_neg h]; exact rtmo_bad r m w h

noncomputable def allR (r : RuleD) (L : Nat → MeanD) : Nat → Nat → MeanD → MeanD × Nat × Int
  | 0, i, m => (m, i, 0)
  | k + 1, i, m => if (obsR r m (L i).value (L i).at_).2 = 0 then allR r L k (i + 1) (obsR r m (L i).value (L i).at_).1 else (m, i, (obsR r m (L i).value (L i).at_).2)

set_option maxRecDepth 100000 in
set_option maxHeartbeats 2000000 in
theorem all_some (r : RuleD) (m : MeanD) (b off len cap : Nat) (hlc : len ≤ cap) (hcap : cap ≤ maxLen) (L : Nat → MeanD) (w : World) (hb : b < w.heap.size)
    (hL : ∀ i, i < len → w.cell? ⟨b, off + i * 2, none⟩ = some (.int .i64 (L i).value) ∧ w.cell? ⟨b, off + i * 2 + 1, none⟩ = some (.int .i64 (L i).at_)) :
    Calls Try.prog 20 #[ruleV r, meanV m, .slice (some ⟨b, off, none⟩) len cap] w fun e w' => e = .returned (.tuple #[meanV (allR r L len 0 m).1, .int .i64 (allR r L len 0 m).2.1, .int .i64 (allR r L len 0 m).2.2]) ∧ Below w.heap.size w w' := by
  have HL := Lib.hid hL
  clear hL
  unfold maxLen at hcap
  obtain ⟨res, hres⟩ : ∃ res, res = allR r L len 0 m := ⟨_, rfl⟩
  rw [← hres]
  have HR := Lib.hid hres
  clear hres
  unfold meanV ruleV
  go_enter Try.func20, Try.ntmps20
  go_wp2_with fail
  go_loopw [15] (fun v15 wr => ∃ (i : Nat) (x : MeanD), v15 = .int .i64 i ∧ i ≤ len ∧ obj wr w.heap.size = some (.cells #[.int .i64 r.first, .int .i64 r.min, .int .i64 r.max, .int .i64 r.half, .int .i64 r.quart] 23 (0, 0)) ∧ obj wr (w.heap.size + 1) = some (.cells #[.int .i64 x.value, .int .i64 x.at_] 25 (0, 0)) ∧ obj wr (w.heap.size + 1 + 1) = some (.cells #[.int .i64 0, .int .i64 0] 25 (0, 0)) ∧ Below w.heap.size w wr ∧ Hid (res = allR r L (len - i) i x)) (fun i _ => len - (intOf i).toNat)
  case atStart =>
    refine ⟨0, m, rfl, Nat.zero_le _, ?_, ?_, ?_, ?_, Lib.hid HR.out⟩
    · rw [obj_alloc_past _ _ _ (by simp; omega), obj_alloc_past _ _ _ (by simp)]; exact obj_alloc_at _ _ _ rfl
    · rw [obj_alloc_past _ _ _ (by simp)]; exact obj_alloc_at _ _ _ (by simp)
    · exact obj_alloc_at _ _ _ (by simp)
    · exact (((Below.refl _ _).alloc (Nat.le_refl _) _).alloc (by simp) _).alloc (by simp; omega) _
  case round =>
    obtain ⟨i, x, rfl, hi, l1, l2, l3, l4, l5⟩ := hrel
    have z0 := lt_of_obj l3
    have z1 := lt_of_obj l2
    have z2 := lt_of_obj l1
    have c0 : wr.cell? ⟨w.heap.size, 0, none⟩ = some (.int .i64 r.first) := cell_at l1 0
    have c1 : wr.cell? ⟨w.heap.size, 1, none⟩ = some (.int .i64 r.min) := cell_at l1 1
    have c2 : wr.cell? ⟨w.heap.size, 2, none⟩ = some (.int .i64 r.max) := cell_at l1 2
    have c3 : wr.cell? ⟨w.heap.size, 3, none⟩ = some (.int .i64 r.half) := cell_at l1 3
    have c4 : wr.cell? ⟨w.heap.size, 4, none⟩ = some (.int .i64 r.quart) := cell_at l1 4
    have d0 : wr.cell? ⟨w.heap.size + 1, 0, none⟩ = some (.int .i64 x.value) := cell_at l2 0
    have d1 : wr.cell? ⟨w.heap.size + 1, 1, none⟩ = some (.int .i64 x.at_) := cell_at l2 1
    have f0 : wr.cell? ⟨w.heap.size + 1 + 1, 0, none⟩ = some (.int .i64 0) := cell_at l3 0
    have f1 : wr.cell? ⟨w.heap.size + 1 + 1, 1, none⟩ = some (.int .i64 0) := cell_at l3 1
    have ff : ∀ i, wr.frozen? ⟨w.heap.size + 1 + 1, i, none⟩ = false := frozen_at l3
    have fd : ∀ i, wr.frozen? ⟨w.heap.size + 1, i, none⟩ = false := frozen_at l2
    by_cases hlt : i < len
    · obtain ⟨e0, e1⟩ := HL.out i hlt
      have q0 := (l4.cell (p := ⟨b, off + i * 2, none⟩) hb).trans e0
      have q1 := (l4.cell (p := ⟨b, off + i * 2 + 1, none⟩) hb).trans e1
      clear e0 e1
      have hc := obs_any r x (L i).value (L i).at_ (wr.alloc (.cells #[.int .i64 (L i).value, .int .i64 (L i).at_] 25 (0, 0)))
      have hN : allR r L (len - i) i x = if (obsR r x (L i).value (L i).at_).2 = 0 then allR r L (len - (i + 1)) (i + 1) (obsR r x (L i).value (L i).at_).1 else (x, i, (obsR r x (L i).value (L i).at_).2) := by
        rw [show len - i = (len - (i + 1)) + 1 from by omega]
        rfl
      generalize obsR r x (L i).value (L i).at_ = o at hc hN
      obtain ⟨y, e⟩ := o
      simp only at hc hN
      have HC := Lib.hid hc
      have HN := Lib.hid hN
      clear hc hN
      go_wp2_with fail
      refine HC.out.mono ?_
      clear HC
      rintro _ w1 ⟨rfl, hb1⟩
      have zz := hb1.size
      simp at zz
      have l1' := (obj_below hb1 (n := w.heap.size) (by simp; omega)).trans ((obj_alloc_past _ _ _ z2).trans l1)
      have l2' := (obj_below hb1 (n := w.heap.size + 1) (by simp; omega)).trans ((obj_alloc_past _ _ _ z1).trans l2)
      have l3' := (obj_below hb1 (n := w.heap.size + 1 + 1) (by simp; omega)).trans ((obj_alloc_past _ _ _ z0).trans l3)
      have l4' := (l4.alloc l4.size (.cells #[.int .i64 (L i).value, .int .i64 (L i).at_] 25 (0, 0))).trans (hb1.mono (by simp; omega))
      clear c0 c1 c2 c3 c4 d0 d1 f0 f1 ff fd q0 q1 hb1
      have c0 : w1.cell? ⟨w.heap.size, 0, none⟩ = some (.int .i64 r.first) := cell_at l1' 0
      have c1 : w1.cell? ⟨w.heap.size, 1, none⟩ = some (.int .i64 r.min) := cell_at l1' 1
      have c2 : w1.cell? ⟨w.heap.size, 2, none⟩ = some (.int .i64 r.max) := cell_at l1' 2
      have c3 : w1.cell? ⟨w.heap.size, 3, none⟩ = some (.int .i64 r.half) := cell_at l1' 3
      have c4 : w1.cell? ⟨w.heap.size, 4, none⟩ = some (.int .i64 r.quart) := cell_at l1' 4
      have d0 : w1.cell? ⟨w.heap.size + 1, 0, none⟩ = some (.int .i64 x.value) := cell_at l2' 0
      have d1 : w1.cell? ⟨w.heap.size + 1, 1, none⟩ = some (.int .i64 x.at_) := cell_at l2' 1
      have f0 : w1.cell? ⟨w.heap.size + 1 + 1, 0, none⟩ = some (.int .i64 0) := cell_at l3' 0
      have f1 : w1.cell? ⟨w.heap.size + 1 + 1, 1, none⟩ = some (.int .i64 0) := cell_at l3' 1
      have ff : ∀ i, w1.frozen? ⟨w.heap.size + 1 + 1, i, none⟩ = false := frozen_at l3'
      have fd : ∀ i, w1.frozen? ⟨w.heap.size + 1, i, none⟩ = false := frozen_at l2'
      have z0' := lt_of_obj l3'
      have z1' := lt_of_obj l2'
      have z2' := lt_of_obj l1'
      unfold meanV
      by_cases he : e = 0
      · go_wp2_with fail
        have n1 : obj (((w1.setCell ⟨w.heap.size + 1, 0, none⟩ (.int .i64 y.value)).setCell ⟨w.heap.size + 1, 1, none⟩ (.int .i64 y.at_)).alloc (.cells #[.int .i64 y.value, .int .i64 y.at_] 25 (0, 0))) w.heap.size = some (.cells #[.int .i64 r.first, .int .i64 r.min, .int .i64 r.max, .int .i64 r.half, .int .i64 r.quart] 23 (0, 0)) := by
          rw [obj_alloc_past _ _ _ (by simpa using z2'), obj_setCell_ne _ _ _ _ (by simp), obj_setCell_ne _ _ _ _ (by simp)]; exact l1'
        have n2 : obj (((w1.setCell ⟨w.heap.size + 1, 0, none⟩ (.int .i64 y.value)).setCell ⟨w.heap.size + 1, 1, none⟩ (.int .i64 y.at_)).alloc (.cells #[.int .i64 y.value, .int .i64 y.at_] 25 (0, 0))) (w.heap.size + 1) = some (.cells #[.int .i64 y.value, .int .i64 y.at_] 25 (0, 0)) := by
          rw [obj_alloc_past _ _ _ (by simpa using z1')]; exact obj_setCell_at (.int .i64 y.at_) (i := 1) (obj_setCell_at (.int .i64 y.value) (i := 0) l2')
        have n3 : obj (((w1.setCell ⟨w.heap.size + 1, 0, none⟩ (.int .i64 y.value)).setCell ⟨w.heap.size + 1, 1, none⟩ (.int .i64 y.at_)).alloc (.cells #[.int .i64 y.value, .int .i64 y.at_] 25 (0, 0))) (w.heap.size + 1 + 1) = some (.cells #[.int .i64 0, .int .i64 0] 25 (0, 0)) := by
          rw [obj_alloc_past _ _ _ (by simpa using z0'), obj_setCell_ne _ _ _ _ (by simp), obj_setCell_ne _ _ _ _ (by simp)]; exact l3'
        have n4 : Below w.heap.size w (((w1.setCell ⟨w.heap.size + 1, 0, none⟩ (.int .i64 y.value)).setCell ⟨w.heap.size + 1, 1, none⟩ (.int .i64 y.at_)).alloc (.cells #[.int .i64 y.value, .int .i64 y.at_] 25 (0, 0))) := ((l4'.setCell (by simp) _).setCell (by simp) _).alloc (by simp; exact l4'.size) _
        have hfin : res = allR r L (len - (i + 1)) (i + 1) y := by
          have h1 := l5.out
          have h2 := HN.out
          rw [if_pos he] at h2
          rw [h1, h2]
        go_roundw
        case rel => exact ⟨i + 1, y, by go_num, by omega, n1, n2, n3, n4, Lib.hid hfin⟩
        case measure => simp [intOf]; omega
      · have hfin : res = (x, i, e) := by
          have h1 := l5.out
          have h2 := HN.out
          rw [if_neg he] at h2
          rw [h1, h2]
        clear HR l5 HN
        subst hfin
        go_wp2_with fail
        have q := obj_setCell_at (.int .i64 x.at_) (i := 1) (obj_setCell_at (.int .i64 x.value) (i := 0) l3')
        have q' := (obj_alloc_past _ (.cells #[.int .i64 y.value, .int .i64 y.at_] 25 (0, 0)) _ (by simpa using z0')).trans q
        have q0 := cell_at q' 0
        have q1 := cell_at q' 1
        simp at q0 q1
        refine bodyPost_ret (v := .tuple #[meanV x, .int .i64 i, .int .i64 e]) (by simp [results, Try.results20, go_sem, meanV, q0, q1]) rfl ⟨rfl, ?_⟩
        exact ((l4'.setCell (by simp; omega) _).setCell (by simp; omega) _).alloc (by simp; exact l4'.size) _
    · have hil : i = len := by omega
      subst hil
      have hfin : res = (x, i, 0) := by
        have h1 := l5.out
        rw [Nat.sub_self] at h1
        exact h1
      clear HR l5
      subst hfin
      go_wp2_with fail
      have q := obj_setCell_at (.int .i64 x.at_) (i := 1) (obj_setCell_at (.int .i64 x.value) (i := 0) l3)
      have q0 := cell_at q 0
      have q1 := cell_at q 1
      simp at q0 q1
      refine bodyPost_ret (v := .tuple #[meanV x, .int .i64 i, .int .i64 0]) (by simp [results, Try.results20, go_sem, meanV, q0, q1]) rfl ⟨rfl, ?_⟩
      exact (l4.setCell (by simp; omega) _).setCell (by simp; omega) _
end Go.Proofs.Ytojdgmeefnaejaa
