import Derived.Test.YtojdgmeefnaejaaMean8
import Derived.Deep.RegionHeld3
namespace Go.Proofs.Ytojdgmeefnaejaa
open Go.RowKit

set_option maxRecDepth 100000 in
set_option maxHeartbeats 2000000 in
theorem rall_some (r : RuleD) (m : MeanD) (b off len cap : Nat) (hlc : len ≤ cap) (hcap : cap ≤ maxLen) (L : Nat → MeanD) (w : World) (hb : b < w.heap.size)
    (hL : ∀ i, i < len → w.cell? ⟨b, off + i * 2, none⟩ = some (.int .i64 (L i).value) ∧ w.cell? ⟨b, off + i * 2 + 1, none⟩ = some (.int .i64 (L i).at_)) :
    Calls Try.prog 21 #[ruleV r, meanV m, .slice (some ⟨b, off, none⟩) len cap] w fun e w' => e = .returned (.tuple #[meanV (allR r L len 0 m).1, .int .i64 (allR r L len 0 m).2.1, .int .i64 (allR r L len 0 m).2.2]) ∧ Below w.heap.size w w' := by
  have HL := Lib.hid hL
  clear hL
  unfold maxLen at hcap
  obtain ⟨res, hres⟩ : ∃ res, res = allR r L len 0 m := ⟨_, rfl⟩
  rw [← hres]
  have HR := Lib.hid hres
  clear hres
  unfold meanV ruleV
  go_enter Try.func21, Try.ntmps21
  go_wp2_with fail
  go_loopw [9] (fun v15 wr => ∃ (i : Nat) (x : MeanD), v15 = .int .i64 i ∧ i ≤ len ∧ obj wr w.heap.size = some (.cells #[.int .i64 r.first, .int .i64 r.min, .int .i64 r.max, .int .i64 r.half, .int .i64 r.quart] 23 (0, 0)) ∧ obj wr (w.heap.size + 1) = some (.cells #[.int .i64 x.value, .int .i64 x.at_] 25 (0, 0)) ∧ obj wr (w.heap.size + 1 + 1) = some (.cells #[.int .i64 0, .int .i64 0] 25 (0, 0)) ∧ Below w.heap.size w wr ∧ Hid (res = allR r L (len - i) i x)) (fun i _ => len - (intOf i).toNat)
  case atStart =>
    refine ⟨0, m, rfl, Nat.zero_le _, ?_, ?_, ?_, ?_, Lib.hid HR.out⟩
    · rw [obj_alloc_past _ _ _ (by simp; omega), obj_alloc_past _ _ _ (by simp)]; exact obj_alloc_at _ _ _ rfl
    · rw [obj_alloc_past _ _ _ (by simp)]; exact obj_alloc_at _ _ _ (by simp)
    · exact obj_alloc_at _ _ _ (by simp)
    · exact (((Below.refl _ _).alloc (Nat.le_refl _) _).alloc (by simp) _).alloc (by simp; omega) _
  case round =>
    obtain ⟨i, x, rfl, hi, l1, l2, l3, l4, l5⟩ := hrel
    have z0 := lt_of_obj l3
    have z1 := lt_of_obj l2
    have z2 := lt_of_obj l1
    have c0 : wr.cell? ⟨w.heap.size, 0, none⟩ = some (.int .i64 r.first) := cell_at l1 0
    have c1 : wr.cell? ⟨w.heap.size, 1, none⟩ = some (.int .i64 r.min) := cell_at l1 1
    have c2 : wr.cell? ⟨w.heap.size, 2, none⟩ = some (.int .i64 r.max) := cell_at l1 2
    have c3 : wr.cell? ⟨w.heap.size, 3, none⟩ = some (.int .i64 r.half) := cell_at l1 3
    have c4 : wr.cell? ⟨w.heap.size, 4, none⟩ = some (.int .i64 r.quart) := cell_at l1 4
    have d0 : wr.cell? ⟨w.heap.size + 1, 0, none⟩ = some (.int .i64 x.value) := cell_at l2 0
    have d1 : wr.cell? ⟨w.heap.size + 1, 1, none⟩ = some (.int .i64 x.at_) := cell_at l2 1
    have f0 : wr.cell? ⟨w.heap.size + 1 + 1, 0, none⟩ = some (.int .i64 0) := cell_at l3 0
    have f1 : wr.cell? ⟨w.heap.size + 1 + 1, 1, none⟩ = some (.int .i64 0) := cell_at l3 1
    have ff : ∀ i, wr.frozen? ⟨w.heap.size + 1 + 1, i, none⟩ = false := frozen_at l3
    have fd : ∀ i, wr.frozen? ⟨w.heap.size + 1, i, none⟩ = false := frozen_at l2
    by_cases hlt : i < len
    · obtain ⟨e0, e1⟩ := HL.out i hlt
      have q0 := (l4.cell (p := ⟨b, off + i * 2, none⟩) hb).trans e0
      have q1 := (l4.cell (p := ⟨b, off + i * 2 + 1, none⟩) hb).trans e1
      clear e0 e1
      have hbr : b < wr.heap.size := Nat.lt_of_lt_of_le hb l4.size
      have hc := robs_any r x (L i).value (L i).at_
      have hN : allR r L (len - i) i x = if (obsR r x (L i).value (L i).at_).2 = 0 then allR r L (len - (i + 1)) (i + 1) (obsR r x (L i).value (L i).at_).1 else (x, i, (obsR r x (L i).value (L i).at_).2) := by
        rw [show len - i = (len - (i + 1)) + 1 from by omega]
        rfl
      generalize obsR r x (L i).value (L i).at_ = o at hc hN
      obtain ⟨y, e⟩ := o
      simp only at hc hN
      have HC := Lib.hid hc
      have HN := Lib.hid hN
      clear hc hN
      go_wp2_with fail
      go_region_held3 (fun w' => w'.cell? ⟨w.heap.size, 0, none⟩ = some (.int .i64 r.first) ∧ w'.cell? ⟨w.heap.size, 1, none⟩ = some (.int .i64 r.min) ∧ w'.cell? ⟨w.heap.size, 2, none⟩ = some (.int .i64 r.max) ∧ w'.cell? ⟨w.heap.size, 3, none⟩ = some (.int .i64 r.half) ∧ w'.cell? ⟨w.heap.size, 4, none⟩ = some (.int .i64 r.quart) ∧ w'.cell? ⟨w.heap.size + 1, 0, none⟩ = some (.int .i64 x.value) ∧ w'.cell? ⟨w.heap.size + 1, 1, none⟩ = some (.int .i64 x.at_) ∧ w'.cell? ⟨b, off + i * 2, none⟩ = some (.int .i64 (L i).value) ∧ w'.cell? ⟨b, off + i * 2 + 1, none⟩ = some (.int .i64 (L i).at_))
        (first | exact ⟨c0, c1, c2, c3, c4, d0, d1, q0, q1⟩ | ((try dsimp only); (repeat' apply And.intro) <;> (simp only [go_sem, *]; done)) | ((try dsimp only); simp [go_sem, *]; done))
        (first | (go_at_call 19; refine (HC.out _).mono ?_; rintro _ w1 ⟨rfl, hb1⟩; have g : Below wr.heap.size wr w1 := (by first | exact (Below.refl _ _).drew.trans hb1 | exact ((Below.refl _ _).drew.alloc (Nat.le_refl _) _).trans (hb1.mono (by simp))); have gz := g.size; have c0' := (g.cell (p := ⟨w.heap.size, 0, none⟩) z2).trans c0; have c1' := (g.cell (p := ⟨w.heap.size, 1, none⟩) z2).trans c1; have c2' := (g.cell (p := ⟨w.heap.size, 2, none⟩) z2).trans c2; have c3' := (g.cell (p := ⟨w.heap.size, 3, none⟩) z2).trans c3; have c4' := (g.cell (p := ⟨w.heap.size, 4, none⟩) z2).trans c4; have d0' := (g.cell (p := ⟨w.heap.size + 1, 0, none⟩) z1).trans d0; have d1' := (g.cell (p := ⟨w.heap.size + 1, 1, none⟩) z1).trans d1; have q0' := (g.cell (p := ⟨b, off + i * 2, none⟩) hbr).trans q0; have q1' := (g.cell (p := ⟨b, off + i * 2 + 1, none⟩) hbr).trans q1; have y0 : w.heap.size < w1.heap.size := (by omega); have y1 : w.heap.size + 1 < w1.heap.size := (by omega); have y2 : b < w1.heap.size := (by omega)
                  try (have k0 : obj w1 wr.heap.size = some (.cells #[.int .i64 0, .int .i64 0] 25 (0, 0)) := (obj_below hb1 (by simp)).trans (obj_alloc_at _ _ _ (by simp)); have k1 : w1.cell? ⟨wr.heap.size, 0, none⟩ = some (.int .i64 0) := cell_at k0 0; have k2 : w1.cell? ⟨wr.heap.size, 1, none⟩ = some (.int .i64 0) := cell_at k0 1; have k3 : ∀ i, w1.frozen? ⟨wr.heap.size, i, none⟩ = false := frozen_at k0; have y3 : wr.heap.size < w1.heap.size := lt_of_obj k0)
                  unfold meanV))
      · have m1 : obj (w1.alloc (.cells #[.int .i64 y.value, .int .i64 y.at_] 25 (0, 0))) w.heap.size = some (.cells #[.int .i64 r.first, .int .i64 r.min, .int .i64 r.max, .int .i64 r.half, .int .i64 r.quart] 23 (0, 0)) := (obj_alloc_past _ _ _ (by omega)).trans ((obj_below g z2).trans l1)
        have m2 : obj (w1.alloc (.cells #[.int .i64 y.value, .int .i64 y.at_] 25 (0, 0))) (w.heap.size + 1) = some (.cells #[.int .i64 x.value, .int .i64 x.at_] 25 (0, 0)) := (obj_alloc_past _ _ _ (by omega)).trans ((obj_below g z1).trans l2)
        have m3 : obj (w1.alloc (.cells #[.int .i64 y.value, .int .i64 y.at_] 25 (0, 0))) (w.heap.size + 1 + 1) = some (.cells #[.int .i64 0, .int .i64 0] 25 (0, 0)) := (obj_alloc_past _ _ _ (by omega)).trans ((obj_below g z0).trans l3)
        have m4 : Below w.heap.size w (w1.alloc (.cells #[.int .i64 y.value, .int .i64 y.at_] 25 (0, 0))) := (l4.trans (g.mono l4.size)).alloc (by have := l4.size; omega) _
        have m5 : obj (w1.alloc (.cells #[.int .i64 y.value, .int .i64 y.at_] 25 (0, 0))) w1.heap.size = some (.cells #[.int .i64 y.value, .int .i64 y.at_] 25 (0, 0)) := obj_alloc_at _ _ _ rfl
        have m6 : w.heap.size + 1 + 1 < w1.heap.size := by omega
        clear c0 c1 c2 c3 c4 d0 d1 f0 f1 ff fd q0 q1 hb1 c0' c1' c2' c3' c4' d0' d1' q0' q1' y0 y1 y2 g gz
        clear hbr z0 z1 z2
        generalize (w1.alloc (.cells #[.int .i64 y.value, .int .i64 y.at_] 25 (0, 0))) = W2 at *
        generalize w1.heap.size = n at *
        clear l1 l2 l3 l4
        have z0 := lt_of_obj m3
        have z1 := lt_of_obj m2
        have z2 := lt_of_obj m1
        have zn := lt_of_obj m5
        have c0 : W2.cell? ⟨w.heap.size, 0, none⟩ = some (.int .i64 r.first) := cell_at m1 0
        have c1 : W2.cell? ⟨w.heap.size, 1, none⟩ = some (.int .i64 r.min) := cell_at m1 1
        have c2 : W2.cell? ⟨w.heap.size, 2, none⟩ = some (.int .i64 r.max) := cell_at m1 2
        have c3 : W2.cell? ⟨w.heap.size, 3, none⟩ = some (.int .i64 r.half) := cell_at m1 3
        have c4 : W2.cell? ⟨w.heap.size, 4, none⟩ = some (.int .i64 r.quart) := cell_at m1 4
        have d0 : W2.cell? ⟨w.heap.size + 1, 0, none⟩ = some (.int .i64 x.value) := cell_at m2 0
        have d1 : W2.cell? ⟨w.heap.size + 1, 1, none⟩ = some (.int .i64 x.at_) := cell_at m2 1
        have f0 : W2.cell? ⟨w.heap.size + 1 + 1, 0, none⟩ = some (.int .i64 0) := cell_at m3 0
        have f1 : W2.cell? ⟨w.heap.size + 1 + 1, 1, none⟩ = some (.int .i64 0) := cell_at m3 1
        have ff : ∀ i, W2.frozen? ⟨w.heap.size + 1 + 1, i, none⟩ = false := frozen_at m3
        have fd : ∀ i, W2.frozen? ⟨w.heap.size + 1, i, none⟩ = false := frozen_at m2
        have g0 : W2.cell? ⟨n, 0, none⟩ = some (.int .i64 y.value) := cell_at m5 0
        have g1 : W2.cell? ⟨n, 1, none⟩ = some (.int .i64 y.at_) := cell_at m5 1
        have nn : ¬ n = w.heap.size + 1 := by omega
        by_cases he : e = 0
        · go_wp2_with fail
          have n1 : obj ((W2.setCell ⟨w.heap.size + 1, 0, none⟩ (.int .i64 y.value)).setCell ⟨w.heap.size + 1, 1, none⟩ (.int .i64 y.at_)) w.heap.size = some (.cells #[.int .i64 r.first, .int .i64 r.min, .int .i64 r.max, .int .i64 r.half, .int .i64 r.quart] 23 (0, 0)) := by
            rw [obj_setCell_ne _ _ _ _ (by simp), obj_setCell_ne _ _ _ _ (by simp)]; exact m1
          have n2 : obj ((W2.setCell ⟨w.heap.size + 1, 0, none⟩ (.int .i64 y.value)).setCell ⟨w.heap.size + 1, 1, none⟩ (.int .i64 y.at_)) (w.heap.size + 1) = some (.cells #[.int .i64 y.value, .int .i64 y.at_] 25 (0, 0)) :=
            obj_setCell_at (.int .i64 y.at_) (i := 1) (obj_setCell_at (.int .i64 y.value) (i := 0) m2)
          have n3 : obj ((W2.setCell ⟨w.heap.size + 1, 0, none⟩ (.int .i64 y.value)).setCell ⟨w.heap.size + 1, 1, none⟩ (.int .i64 y.at_)) (w.heap.size + 1 + 1) = some (.cells #[.int .i64 0, .int .i64 0] 25 (0, 0)) := by
            rw [obj_setCell_ne _ _ _ _ (by simp), obj_setCell_ne _ _ _ _ (by simp)]; exact m3
          have n4 : Below w.heap.size w ((W2.setCell ⟨w.heap.size + 1, 0, none⟩ (.int .i64 y.value)).setCell ⟨w.heap.size + 1, 1, none⟩ (.int .i64 y.at_)) := (m4.setCell (by simp) _).setCell (by simp) _
          have hfin : res = allR r L (len - (i + 1)) (i + 1) y := by
            have h1 := l5.out
            have h2 := HN.out
            rw [if_pos he] at h2
            rw [h1, h2]
          go_roundw
          case rel => exact ⟨i + 1, y, by go_num, by omega, n1, n2, n3, n4, Lib.hid hfin⟩
          case measure => simp [intOf]; omega
        · have hfin : res = (x, i, e) := by
            have h1 := l5.out
            have h2 := HN.out
            rw [if_neg he] at h2
            rw [h1, h2]
          clear HR l5 HN
          subst hfin
          go_wp2_with fail
          have q := obj_setCell_at (.int .i64 x.at_) (i := 1) (obj_setCell_at (.int .i64 x.value) (i := 0) m3)
          have q0 := cell_at q 0
          have q1 := cell_at q 1
          simp at q0 q1
          refine bodyPost_ret (v := .tuple #[meanV x, .int .i64 i, .int .i64 e]) (by simp [results, Try.results21, go_sem, meanV, q0, q1]) rfl ⟨rfl, ?_⟩
          exact (m4.setCell (by simp; omega) _).setCell (by simp; omega) _
      · have m1 : obj ((w1.setCell ⟨wr.heap.size, 0, none⟩ (.int .i64 y.value)).setCell ⟨wr.heap.size, 1, none⟩ (.int .i64 y.at_)) w.heap.size = some (.cells #[.int .i64 r.first, .int .i64 r.min, .int .i64 r.max, .int .i64 r.half, .int .i64 r.quart] 23 (0, 0)) := by rw [obj_setCell_ne _ _ _ _ (by simp; omega), obj_setCell_ne _ _ _ _ (by simp; omega)]; exact ((obj_below g z2).trans l1)
        have m2 : obj ((w1.setCell ⟨wr.heap.size, 0, none⟩ (.int .i64 y.value)).setCell ⟨wr.heap.size, 1, none⟩ (.int .i64 y.at_)) (w.heap.size + 1) = some (.cells #[.int .i64 x.value, .int .i64 x.at_] 25 (0, 0)) := by rw [obj_setCell_ne _ _ _ _ (by simp; omega), obj_setCell_ne _ _ _ _ (by simp; omega)]; exact ((obj_below g z1).trans l2)
        have m3 : obj ((w1.setCell ⟨wr.heap.size, 0, none⟩ (.int .i64 y.value)).setCell ⟨wr.heap.size, 1, none⟩ (.int .i64 y.at_)) (w.heap.size + 1 + 1) = some (.cells #[.int .i64 0, .int .i64 0] 25 (0, 0)) := by rw [obj_setCell_ne _ _ _ _ (by simp; omega), obj_setCell_ne _ _ _ _ (by simp; omega)]; exact ((obj_below g z0).trans l3)
        have m4 : Below w.heap.size w ((w1.setCell ⟨wr.heap.size, 0, none⟩ (.int .i64 y.value)).setCell ⟨wr.heap.size, 1, none⟩ (.int .i64 y.at_)) := ((l4.trans (g.mono l4.size)).setCell (by simp; exact l4.size) _).setCell (by simp; exact l4.size) _
        have m5 : obj ((w1.setCell ⟨wr.heap.size, 0, none⟩ (.int .i64 y.value)).setCell ⟨wr.heap.size, 1, none⟩ (.int .i64 y.at_)) wr.heap.size = some (.cells #[.int .i64 y.value, .int .i64 y.at_] 25 (0, 0)) := obj_setCell_at _ (i := 1) (obj_setCell_at _ (i := 0) k0)
        have m6 : w.heap.size + 1 + 1 < wr.heap.size := by omega
        clear k0 k1 k2 k3 y3
        clear c0 c1 c2 c3 c4 d0 d1 f0 f1 ff fd q0 q1 hb1 c0' c1' c2' c3' c4' d0' d1' q0' q1' y0 y1 y2 g gz
        clear hbr z0 z1 z2
        generalize ((w1.setCell ⟨wr.heap.size, 0, none⟩ (.int .i64 y.value)).setCell ⟨wr.heap.size, 1, none⟩ (.int .i64 y.at_)) = W2 at *
        generalize wr.heap.size = n at *
        clear l1 l2 l3 l4
        have z0 := lt_of_obj m3
        have z1 := lt_of_obj m2
        have z2 := lt_of_obj m1
        have zn := lt_of_obj m5
        have c0 : W2.cell? ⟨w.heap.size, 0, none⟩ = some (.int .i64 r.first) := cell_at m1 0
        have c1 : W2.cell? ⟨w.heap.size, 1, none⟩ = some (.int .i64 r.min) := cell_at m1 1
        have c2 : W2.cell? ⟨w.heap.size, 2, none⟩ = some (.int .i64 r.max) := cell_at m1 2
        have c3 : W2.cell? ⟨w.heap.size, 3, none⟩ = some (.int .i64 r.half) := cell_at m1 3
        have c4 : W2.cell? ⟨w.heap.size, 4, none⟩ = some (.int .i64 r.quart) := cell_at m1 4
        have d0 : W2.cell? ⟨w.heap.size + 1, 0, none⟩ = some (.int .i64 x.value) := cell_at m2 0
        have d1 : W2.cell? ⟨w.heap.size + 1, 1, none⟩ = some (.int .i64 x.at_) := cell_at m2 1
        have f0 : W2.cell? ⟨w.heap.size + 1 + 1, 0, none⟩ = some (.int .i64 0) := cell_at m3 0
        have f1 : W2.cell? ⟨w.heap.size + 1 + 1, 1, none⟩ = some (.int .i64 0) := cell_at m3 1
        have ff : ∀ i, W2.frozen? ⟨w.heap.size + 1 + 1, i, none⟩ = false := frozen_at m3
        have fd : ∀ i, W2.frozen? ⟨w.heap.size + 1, i, none⟩ = false := frozen_at m2
        have g0 : W2.cell? ⟨n, 0, none⟩ = some (.int .i64 y.value) := cell_at m5 0
        have g1 : W2.cell? ⟨n, 1, none⟩ = some (.int .i64 y.at_) := cell_at m5 1
        have nn : ¬ n = w.heap.size + 1 := by omega
        by_cases he : e = 0
        · go_wp2_with fail
          have n1 : obj ((W2.setCell ⟨w.heap.size + 1, 0, none⟩ (.int .i64 y.value)).setCell ⟨w.heap.size + 1, 1, none⟩ (.int .i64 y.at_)) w.heap.size = some (.cells #[.int .i64 r.first, .int .i64 r.min, .int .i64 r.max, .int .i64 r.half, .int .i64 r.quart] 23 (0, 0)) := by
            rw [obj_setCell_ne _ _ _ _ (by simp), obj_setCell_ne _ _ _ _ (by simp)]; exact m1
          have n2 : obj ((W2.setCell ⟨w.heap.size + 1, 0, none⟩ (.int .i64 y.value)).setCell ⟨w.heap.size + 1, 1, none⟩ (.int .i64 y.at_)) (w.heap.size + 1) = some (.cells #[.int .i64 y.value, .int .i64 y.at_] 25 (0, 0)) :=
            obj_setCell_at (.int .i64 y.at_) (i := 1) (obj_setCell_at (.int .i64 y.value) (i := 0) m2)
          have n3 : obj ((W2.setCell ⟨w.heap.size + 1, 0, none⟩ (.int .i64 y.value)).setCell ⟨w.heap.size + 1, 1, none⟩ (.int .i64 y.at_)) (w.heap.size + 1 + 1) = some (.cells #[.int .i64 0, .int .i64 0] 25 (0, 0)) := by
            rw [obj_setCell_ne _ _ _ _ (by simp), obj_setCell_ne _ _ _ _ (by simp)]; exact m3
          have n4 : Below w.heap.size w ((W2.setCell ⟨w.heap.size + 1, 0, none⟩ (.int .i64 y.value)).setCell ⟨w.heap.size + 1, 1, none⟩ (.int .i64 y.at_)) := (m4.setCell (by simp) _).setCell (by simp) _
          have hfin : res = allR r L (len - (i + 1)) (i + 1) y := by
            have h1 := l5.out
            have h2 := HN.out
            rw [if_pos he] at h2
            rw [h1, h2]
          go_roundw
          case rel => exact ⟨i + 1, y, by go_num, by omega, n1, n2, n3, n4, Lib.hid hfin⟩
          case measure => simp [intOf]; omega
        · have hfin : res = (x, i, e) := by
            have h1 := l5.out
            have h2 := HN.out
            rw [if_neg he] at h2
            rw [h1, h2]
          clear HR l5 HN
          subst hfin
          go_wp2_with fail
          have q := obj_setCell_at (.int .i64 x.at_) (i := 1) (obj_setCell_at (.int .i64 x.value) (i := 0) m3)
          have q0 := cell_at q 0
          have q1 := cell_at q 1
          simp at q0 q1
          refine bodyPost_ret (v := .tuple #[meanV x, .int .i64 i, .int .i64 e]) (by simp [results, Try.results21, go_sem, meanV, q0, q1]) rfl ⟨rfl, ?_⟩
          exact (m4.setCell (by simp; omega) _).setCell (by simp; omega) _
    · have hil : i = len := by omega
      subst hil
      have hfin : res = (x, i, 0) := by
        have h1 := l5.out
        rw [Nat.sub_self] at h1
        exact h1
      clear HR l5
      subst hfin
      go_wp2_with fail
      have q := obj_setCell_at (.int .i64 x.at_) (i := 1) (obj_setCell_at (.int .i64 x.value) (i := 0) l3)
      have q0 := cell_at q 0
      have q1 := cell_at q 1
      simp at q0 q1
      refine bodyPost_ret (v := .tuple #[meanV x, .int .i64 i, .int .i64 0]) (by simp [results, Try.results21, go_sem, meanV, q0, q1]) rfl ⟨rfl, ?_⟩
      exact (l4.setCell (by simp; omega) _).setCell (by simp; omega) _
end Go.Proofs.Ytojdgmeefnaejaa
