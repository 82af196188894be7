import Derived.Test.YtiknonljdibfgaaWays
import Derived.Test.YtiknonljdibfgaaWith
namespace Go.Proofs.Ytiknonljdibfgaa
open Go.RowKit

/-! ### Failed and Replied, of what may not be -/
theorem out_of {i a b : Int} (h : i < 0 ∨ a ≤ i) (e : a = b) : i < 0 ∨ ¬ i < 0 ∧ a ≤ i ∧ b ≤ i := by omega
set_option maxRecDepth 100000 in
set_option maxHeartbeats 1000000 in
theorem failedA_150 (w : World) (r : Rul) (v1 v2 : Value) (l : List Vd) (s : List St) (i now : Int) (h : SlIn w v1 2 vdL l) (h2 : SlIn w v2 3 stL s) (hm : mayE r l s = 150) :
    Calls Try.prog 14 #[ruV r, v1, v2, .int .i64 i, .int .i64 now] w fun e w' => e = .returned (.tuple #[.slice none 0 0, .bool false, .int .i64 150]) ∧ Below w.heap.size w w' := by
  have b1 : Below w.heap.size w ((w.alloc (.cells (ruC r) 23)).alloc (.cells #[.int .i64 now] 2)) := (((Below.refl _ _).alloc (Nat.le_refl _) _).alloc (by simp) _)
  have o2 : obj ((w.alloc (.cells (ruC r) 23)).alloc (.cells #[.int .i64 now] 2)) (w.heap.size + 1) = some (.cells #[.int .i64 now] 2 (0, 0)) := obj_alloc_at _ _ _ (by simp)
  have HM := Lib.hid (mayL_any _ r v1 v2 l s (h.below b1) (h2.below b1))
  rw [hm] at HM
  have HS2 := Lib.hid h2
  obtain ⟨oa, cap, rfl, g1, g2, g3⟩ := h
  unfold maxLen at g2
  obtain ⟨oa2, cap2, rfl, k1, k2, k3⟩ := h2
  unfold maxLen at k2
  have B1 := Lib.hid b1
  clear g3 k3 b1 hm o2
  simp only [ruV, ruC] at *
  go_enter Try.func14, Try.ntmps14
  go_wp2_with fail
  generalize ((w.alloc (.cells #[.int .i64 r.f, .int .i64 r.lo, .int .i64 r.fo, .int .i64 r.nu, .int .i64 r.de] 23)).alloc (.cells #[.int .i64 now] 2)) = w1 at *
  refine HM.out.mono ?_
  rintro e w2 ⟨rfl, b2⟩
  go_wp2
  refine bodyPost_ret (v := .tuple #[.slice none 0 0, .bool false, .int .i64 150]) (by simp [results, Try.results14, go_sem]) rfl ⟨rfl, B1.out.trans (b2.mono B1.out.size)⟩
set_option maxRecDepth 100000 in
set_option maxHeartbeats 1000000 in
theorem failedA_4 (w : World) (r : Rul) (v1 v2 : Value) (l : List Vd) (s : List St) (i now : Int) (h : SlIn w v1 2 vdL l) (h2 : SlIn w v2 3 stL s) (hm : mayE r l s = 0) (hi : i < 0 ∨ (s.length : Int) ≤ i) :
    Calls Try.prog 14 #[ruV r, v1, v2, .int .i64 i, .int .i64 now] w fun e w' => e = .returned (.tuple #[.slice none 0 0, .bool false, .int .i64 4]) ∧ Below w.heap.size w w' := by
  have b1 : Below w.heap.size w ((w.alloc (.cells (ruC r) 23)).alloc (.cells #[.int .i64 now] 2)) := (((Below.refl _ _).alloc (Nat.le_refl _) _).alloc (by simp) _)
  have o2 : obj ((w.alloc (.cells (ruC r) 23)).alloc (.cells #[.int .i64 now] 2)) (w.heap.size + 1) = some (.cells #[.int .i64 now] 2 (0, 0)) := obj_alloc_at _ _ _ (by simp)
  have HM := Lib.hid (mayL_any _ r v1 v2 l s (h.below b1) (h2.below b1))
  rw [hm] at HM
  have hl := (mayE_0 hm).2.2.1
  have HS2 := Lib.hid h2
  obtain ⟨oa, cap, rfl, g1, g2, g3⟩ := h
  unfold maxLen at g2
  obtain ⟨oa2, cap2, rfl, k1, k2, k3⟩ := h2
  unfold maxLen at k2
  have B1 := Lib.hid b1
  have hi' : i < 0 ∨ ¬ i < 0 ∧ (s.length : Int) ≤ i ∧ (l.length : Int) ≤ i := out_of hi (by rw [hl])
  clear g3 k3 b1 hm hi hl o2
  simp only [ruV, ruC] at *
  rcases hi' with hi | ⟨hi0, hi1, hi2⟩
  · go_enter Try.func14, Try.ntmps14
    go_wp2_with fail
    generalize ((w.alloc (.cells #[.int .i64 r.f, .int .i64 r.lo, .int .i64 r.fo, .int .i64 r.nu, .int .i64 r.de] 23)).alloc (.cells #[.int .i64 now] 2)) = w1 at *
    refine HM.out.mono ?_
    rintro e w2 ⟨rfl, b2⟩
    go_wp2
    refine bodyPost_ret (v := .tuple #[.slice none 0 0, .bool false, .int .i64 4]) (by simp [results, Try.results14, go_sem]) rfl ⟨rfl, B1.out.trans (b2.mono B1.out.size)⟩
  · go_enter Try.func14, Try.ntmps14
    go_wp2_with fail
    generalize ((w.alloc (.cells #[.int .i64 r.f, .int .i64 r.lo, .int .i64 r.fo, .int .i64 r.nu, .int .i64 r.de] 23)).alloc (.cells #[.int .i64 now] 2)) = w1 at *
    refine HM.out.mono ?_
    rintro e w2 ⟨rfl, b2⟩
    go_wp2
    refine bodyPost_ret (v := .tuple #[.slice none 0 0, .bool false, .int .i64 4]) (by simp [results, Try.results14, go_sem]) rfl ⟨rfl, B1.out.trans (b2.mono B1.out.size)⟩
set_option maxRecDepth 100000 in
set_option maxHeartbeats 1000000 in
theorem failedA_131 (w : World) (r : Rul) (v1 v2 : Value) (l : List Vd) (s : List St) (i now : Int) (h : SlIn w v1 2 vdL l) (h2 : SlIn w v2 3 stL s) (hm : mayE r l s = 0) (hi : 0 ≤ i ∧ i < s.length) (hn : now < 0 ∨ 4611686018427387903 < now) :
    Calls Try.prog 14 #[ruV r, v1, v2, .int .i64 i, .int .i64 now] w fun e w' => e = .returned (.tuple #[.slice none 0 0, .bool false, .int .i64 131]) ∧ Below w.heap.size w w' := by
  have b1 : Below w.heap.size w ((w.alloc (.cells (ruC r) 23)).alloc (.cells #[.int .i64 now] 2)) := (((Below.refl _ _).alloc (Nat.le_refl _) _).alloc (by simp) _)
  have o2 : obj ((w.alloc (.cells (ruC r) 23)).alloc (.cells #[.int .i64 now] 2)) (w.heap.size + 1) = some (.cells #[.int .i64 now] 2 (0, 0)) := obj_alloc_at _ _ _ (by simp)
  have HM := Lib.hid (mayL_any _ r v1 v2 l s (h.below b1) (h2.below b1))
  rw [hm] at HM
  have hl := (mayE_0 hm).2.2.1
  have HS2 := Lib.hid h2
  obtain ⟨oa, cap, rfl, g1, g2, g3⟩ := h
  unfold maxLen at g2
  obtain ⟨oa2, cap2, rfl, k1, k2, k3⟩ := h2
  unfold maxLen at k2
  have B1 := Lib.hid b1
  have hi1 : ¬ i < 0 := by omega
  have hi2 : ¬ (s.length : Int) ≤ i := by omega
  have hi3 : ¬ (l.length : Int) ≤ i := by omega
  have hn' : now < 0 ∨ ¬ now < 0 ∧ 4611686018427387903 < now := by omega
  clear g3 k3 b1 hm hi hl hn
  simp only [ruV, ruC] at *
  rcases hn' with hn | ⟨hn0, hn1⟩
  · go_enter Try.func14, Try.ntmps14
    go_wp2_with fail
    generalize ((w.alloc (.cells #[.int .i64 r.f, .int .i64 r.lo, .int .i64 r.fo, .int .i64 r.nu, .int .i64 r.de] 23)).alloc (.cells #[.int .i64 now] 2)) = w1 at *
    refine HM.out.mono ?_
    rintro e w2 ⟨rfl, b2⟩
    have p2 := (obj_below b2 (lt_of_obj o2)).trans o2
    have z2 := lt_of_obj p2
    have q0 : w2.cell? ⟨w.heap.size + 1, 0, none⟩ = some (.int .i64 now) := cell_at p2 0
    go_wp2
    refine bodyPost_ret (v := .tuple #[.slice none 0 0, .bool false, .int .i64 131]) (by simp [results, Try.results14, go_sem]) rfl ⟨rfl, B1.out.trans (b2.mono B1.out.size)⟩
  · go_enter Try.func14, Try.ntmps14
    go_wp2_with fail
    generalize ((w.alloc (.cells #[.int .i64 r.f, .int .i64 r.lo, .int .i64 r.fo, .int .i64 r.nu, .int .i64 r.de] 23)).alloc (.cells #[.int .i64 now] 2)) = w1 at *
    refine HM.out.mono ?_
    rintro e w2 ⟨rfl, b2⟩
    have p2 := (obj_below b2 (lt_of_obj o2)).trans o2
    have z2 := lt_of_obj p2
    have q0 : w2.cell? ⟨w.heap.size + 1, 0, none⟩ = some (.int .i64 now) := cell_at p2 0
    go_wp2
    refine bodyPost_ret (v := .tuple #[.slice none 0 0, .bool false, .int .i64 131]) (by simp [results, Try.results14, go_sem]) rfl ⟨rfl, B1.out.trans (b2.mono B1.out.size)⟩
set_option maxRecDepth 100000 in
set_option maxHeartbeats 1000000 in
theorem failedR_150 (w : World) (r : Rul) (v1 v2 : Value) (l : List Vd) (s : List St) (i now : Int) (h : SlIn w v1 2 vdL l) (h2 : SlIn w v2 3 stL s) (hN : ∀ x ∈ l, x.name.size ≤ 300) (hm : mayE r l s = 150) :
    Calls Try.prog 33 #[ruV r, v1, v2, .int .i64 i, .int .i64 now] w fun e w' => e = .returned (.tuple #[.slice none 0 0, .bool false, .int .i64 150]) ∧ Below w.heap.size w w' := by
  have b1 : Below w.heap.size w (w.alloc (.cells (ruC r) 23)) := ((Below.refl _ _).alloc (Nat.le_refl _) _)
  have HM := Lib.hid (mayR_any _ r v1 v2 l s (h.below b1) (h2.below b1) hN)
  rw [hm] at HM
  have HS2 := Lib.hid h2
  obtain ⟨oa, cap, rfl, g1, g2, g3⟩ := h
  unfold maxLen at g2
  obtain ⟨oa2, cap2, rfl, k1, k2, k3⟩ := h2
  unfold maxLen at k2
  have B1 := Lib.hid b1
  clear g3 k3 b1 hm
  simp only [ruV, ruC] at *
  go_enter Try.func33, Try.ntmps33
  go_wp2_with fail
  generalize (w.alloc (.cells #[.int .i64 r.f, .int .i64 r.lo, .int .i64 r.fo, .int .i64 r.nu, .int .i64 r.de] 23)) = w1 at *
  refine HM.out.mono ?_
  rintro e w2 ⟨rfl, b2⟩
  go_wp2
  refine bodyPost_ret (v := .tuple #[.slice none 0 0, .bool false, .int .i64 150]) (by simp [results, Try.results33, go_sem]) rfl ⟨rfl, B1.out.trans (b2.mono B1.out.size)⟩
set_option maxRecDepth 100000 in
set_option maxHeartbeats 1000000 in
theorem failedR_4 (w : World) (r : Rul) (v1 v2 : Value) (l : List Vd) (s : List St) (i now : Int) (h : SlIn w v1 2 vdL l) (h2 : SlIn w v2 3 stL s) (hN : ∀ x ∈ l, x.name.size ≤ 300) (hm : mayE r l s = 0) (hi : i < 0 ∨ (s.length : Int) ≤ i) :
    Calls Try.prog 33 #[ruV r, v1, v2, .int .i64 i, .int .i64 now] w fun e w' => e = .returned (.tuple #[.slice none 0 0, .bool false, .int .i64 4]) ∧ Below w.heap.size w w' := by
  have b1 : Below w.heap.size w (w.alloc (.cells (ruC r) 23)) := ((Below.refl _ _).alloc (Nat.le_refl _) _)
  have HM := Lib.hid (mayR_any _ r v1 v2 l s (h.below b1) (h2.below b1) hN)
  rw [hm] at HM
  have hl := (mayE_0 hm).2.2.1
  have HS2 := Lib.hid h2
  obtain ⟨oa, cap, rfl, g1, g2, g3⟩ := h
  unfold maxLen at g2
  obtain ⟨oa2, cap2, rfl, k1, k2, k3⟩ := h2
  unfold maxLen at k2
  have B1 := Lib.hid b1
  have hi' : i < 0 ∨ ¬ i < 0 ∧ (s.length : Int) ≤ i ∧ (l.length : Int) ≤ i := out_of hi (by rw [hl])
  clear g3 k3 b1 hm hi hl
  simp only [ruV, ruC] at *
  rcases hi' with hi | ⟨hi0, hi1, hi2⟩
  · go_enter Try.func33, Try.ntmps33
    go_wp2_with fail
    generalize (w.alloc (.cells #[.int .i64 r.f, .int .i64 r.lo, .int .i64 r.fo, .int .i64 r.nu, .int .i64 r.de] 23)) = w1 at *
    refine HM.out.mono ?_
    rintro e w2 ⟨rfl, b2⟩
    go_wp2
    refine bodyPost_ret (v := .tuple #[.slice none 0 0, .bool false, .int .i64 4]) (by simp [results, Try.results33, go_sem]) rfl ⟨rfl, B1.out.trans (b2.mono B1.out.size)⟩
  · go_enter Try.func33, Try.ntmps33
    go_wp2_with fail
    generalize (w.alloc (.cells #[.int .i64 r.f, .int .i64 r.lo, .int .i64 r.fo, .int .i64 r.nu, .int .i64 r.de] 23)) = w1 at *
    refine HM.out.mono ?_
    rintro e w2 ⟨rfl, b2⟩
    go_wp2
    refine bodyPost_ret (v := .tuple #[.slice none 0 0, .bool false, .int .i64 4]) (by simp [results, Try.results33, go_sem]) rfl ⟨rfl, B1.out.trans (b2.mono B1.out.size)⟩
set_option maxRecDepth 100000 in
set_option maxHeartbeats 1000000 in
theorem failedR_131 (w : World) (r : Rul) (v1 v2 : Value) (l : List Vd) (s : List St) (i now : Int) (h : SlIn w v1 2 vdL l) (h2 : SlIn w v2 3 stL s) (hN : ∀ x ∈ l, x.name.size ≤ 300) (hm : mayE r l s = 0) (hi : 0 ≤ i ∧ i < s.length) (hn : now < 0 ∨ 4611686018427387903 < now) :
    Calls Try.prog 33 #[ruV r, v1, v2, .int .i64 i, .int .i64 now] w fun e w' => e = .returned (.tuple #[.slice none 0 0, .bool false, .int .i64 131]) ∧ Below w.heap.size w w' := by
  have b1 : Below w.heap.size w (w.alloc (.cells (ruC r) 23)) := ((Below.refl _ _).alloc (Nat.le_refl _) _)
  have HM := Lib.hid (mayR_any _ r v1 v2 l s (h.below b1) (h2.below b1) hN)
  rw [hm] at HM
  have hl := (mayE_0 hm).2.2.1
  have HIN := Lib.hid (fun W => in_any now 4611686018427387903 W)
  rw [show (decide (0 ≤ now) && decide (now ≤ 4611686018427387903)) = false by simp; omega] at HIN
  have HS2 := Lib.hid h2
  obtain ⟨oa, cap, rfl, g1, g2, g3⟩ := h
  unfold maxLen at g2
  obtain ⟨oa2, cap2, rfl, k1, k2, k3⟩ := h2
  unfold maxLen at k2
  have B1 := Lib.hid b1
  have hi1 : ¬ i < 0 := by omega
  have hi2 : ¬ (s.length : Int) ≤ i := by omega
  have hi3 : ¬ (l.length : Int) ≤ i := by omega
  have hn' : now < 0 ∨ ¬ now < 0 ∧ 4611686018427387903 < now := by omega
  clear g3 k3 b1 hm hi hl hn
  simp only [ruV, ruC] at *
  rcases hn' with hn | ⟨hn0, hn1⟩
  · go_enter Try.func33, Try.ntmps33
    go_wp2_with fail
    generalize (w.alloc (.cells #[.int .i64 r.f, .int .i64 r.lo, .int .i64 r.fo, .int .i64 r.nu, .int .i64 r.de] 23)) = w1 at *
    refine HM.out.mono ?_
    rintro e w2 ⟨rfl, b2⟩
    go_wp2_with fail
    refine (HIN.out _).mono ?_
    rintro e w3 ⟨rfl, rfl⟩
    go_wp2
    refine bodyPost_ret (v := .tuple #[.slice none 0 0, .bool false, .int .i64 131]) (by simp [results, Try.results33, go_sem]) rfl ⟨rfl, B1.out.trans (b2.mono B1.out.size)⟩
  · go_enter Try.func33, Try.ntmps33
    go_wp2_with fail
    generalize (w.alloc (.cells #[.int .i64 r.f, .int .i64 r.lo, .int .i64 r.fo, .int .i64 r.nu, .int .i64 r.de] 23)) = w1 at *
    refine HM.out.mono ?_
    rintro e w2 ⟨rfl, b2⟩
    go_wp2_with fail
    refine (HIN.out _).mono ?_
    rintro e w3 ⟨rfl, rfl⟩
    go_wp2
    refine bodyPost_ret (v := .tuple #[.slice none 0 0, .bool false, .int .i64 131]) (by simp [results, Try.results33, go_sem]) rfl ⟨rfl, B1.out.trans (b2.mono B1.out.size)⟩
set_option maxRecDepth 100000 in
set_option maxHeartbeats 1000000 in
theorem repliedA_150 (w : World) (r : Rul) (v1 v2 : Value) (l : List Vd) (s : List St) (i : Int) (h : SlIn w v1 2 vdL l) (h2 : SlIn w v2 3 stL s) (hm : mayE r l s = 150) :
    Calls Try.prog 13 #[ruV r, v1, v2, .int .i64 i] w fun e w' => e = .returned (.tuple #[.slice none 0 0, .int .i64 150]) ∧ Below w.heap.size w w' := by
  have b1 : Below w.heap.size w (w.alloc (.cells (ruC r) 23)) := (Below.refl _ _).alloc (Nat.le_refl _) _
  have HM := Lib.hid (mayL_any _ r v1 v2 l s (h.below b1) (h2.below b1))
  rw [hm] at HM
  obtain ⟨oa, cap, rfl, g1, g2, g3⟩ := h
  unfold maxLen at g2
  obtain ⟨oa2, cap2, rfl, k1, k2, k3⟩ := h2
  unfold maxLen at k2
  have B1 := Lib.hid b1
  clear g3 k3 b1 hm
  simp only [ruV, ruC] at *
  go_enter Try.func13, Try.ntmps13
  go_wp2_with fail
  generalize (w.alloc (.cells #[.int .i64 r.f, .int .i64 r.lo, .int .i64 r.fo, .int .i64 r.nu, .int .i64 r.de] 23)) = w1 at *
  refine HM.out.mono ?_
  rintro e w2 ⟨rfl, b2⟩
  go_wp2
  go_ret2
  exact ⟨rfl, B1.out.trans (b2.mono B1.out.size)⟩
set_option maxRecDepth 100000 in
set_option maxHeartbeats 1000000 in
theorem repliedA_4 (w : World) (r : Rul) (v1 v2 : Value) (l : List Vd) (s : List St) (i : Int) (h : SlIn w v1 2 vdL l) (h2 : SlIn w v2 3 stL s) (hm : mayE r l s = 0) (hi : i < 0 ∨ (s.length : Int) ≤ i) :
    Calls Try.prog 13 #[ruV r, v1, v2, .int .i64 i] w fun e w' => e = .returned (.tuple #[.slice none 0 0, .int .i64 4]) ∧ Below w.heap.size w w' := by
  have b1 : Below w.heap.size w (w.alloc (.cells (ruC r) 23)) := (Below.refl _ _).alloc (Nat.le_refl _) _
  have HM := Lib.hid (mayL_any _ r v1 v2 l s (h.below b1) (h2.below b1))
  rw [hm] at HM
  have hl := (mayE_0 hm).2.2.1
  obtain ⟨oa, cap, rfl, g1, g2, g3⟩ := h
  unfold maxLen at g2
  obtain ⟨oa2, cap2, rfl, k1, k2, k3⟩ := h2
  unfold maxLen at k2
  have B1 := Lib.hid b1
  have hi' : i < 0 ∨ ¬ i < 0 ∧ (s.length : Int) ≤ i ∧ (l.length : Int) ≤ i := out_of hi (by rw [hl])
  clear g3 k3 b1 hm hi hl
  simp only [ruV, ruC] at *
  rcases hi' with hi | ⟨hi0, hi1, hi2⟩
  · go_enter Try.func13, Try.ntmps13
    go_wp2_with fail
    generalize (w.alloc (.cells #[.int .i64 r.f, .int .i64 r.lo, .int .i64 r.fo, .int .i64 r.nu, .int .i64 r.de] 23)) = w1 at *
    refine HM.out.mono ?_
    rintro e w2 ⟨rfl, b2⟩
    go_wp2
    go_ret2
    exact ⟨rfl, B1.out.trans (b2.mono B1.out.size)⟩
  · go_enter Try.func13, Try.ntmps13
    go_wp2_with fail
    generalize (w.alloc (.cells #[.int .i64 r.f, .int .i64 r.lo, .int .i64 r.fo, .int .i64 r.nu, .int .i64 r.de] 23)) = w1 at *
    refine HM.out.mono ?_
    rintro e w2 ⟨rfl, b2⟩
    go_wp2
    go_ret2
    exact ⟨rfl, B1.out.trans (b2.mono B1.out.size)⟩
set_option maxRecDepth 100000 in
set_option maxHeartbeats 1000000 in
theorem repliedR_150 (w : World) (r : Rul) (v1 v2 : Value) (l : List Vd) (s : List St) (i : Int) (h : SlIn w v1 2 vdL l) (h2 : SlIn w v2 3 stL s) (hN : ∀ x ∈ l, x.name.size ≤ 300) (hm : mayE r l s = 150) :
    Calls Try.prog 34 #[ruV r, v1, v2, .int .i64 i] w fun e w' => e = .returned (.tuple #[.slice none 0 0, .int .i64 150]) ∧ Below w.heap.size w w' := by
  have b1 : Below w.heap.size w (w.alloc (.cells (ruC r) 23)) := (Below.refl _ _).alloc (Nat.le_refl _) _
  have HM := Lib.hid (mayR_any _ r v1 v2 l s (h.below b1) (h2.below b1) hN)
  rw [hm] at HM
  obtain ⟨oa, cap, rfl, g1, g2, g3⟩ := h
  unfold maxLen at g2
  obtain ⟨oa2, cap2, rfl, k1, k2, k3⟩ := h2
  unfold maxLen at k2
  have B1 := Lib.hid b1
  clear g3 k3 b1 hm
  simp only [ruV, ruC] at *
  go_enter Try.func34, Try.ntmps34
  go_wp2_with fail
  generalize (w.alloc (.cells #[.int .i64 r.f, .int .i64 r.lo, .int .i64 r.fo, .int .i64 r.nu, .int .i64 r.de] 23)) = w1 at *
  refine HM.out.mono ?_
  rintro e w2 ⟨rfl, b2⟩
  go_wp2
  go_ret2
  exact ⟨rfl, B1.out.trans (b2.mono B1.out.size)⟩
set_option maxRecDepth 100000 in
set_option maxHeartbeats 1000000 in
theorem repliedR_4 (w : World) (r : Rul) (v1 v2 : Value) (l : List Vd) (s : List St) (i : Int) (h : SlIn w v1 2 vdL l) (h2 : SlIn w v2 3 stL s) (hN : ∀ x ∈ l, x.name.size ≤ 300) (hm : mayE r l s = 0) (hi : i < 0 ∨ (s.length : Int) ≤ i) :
    Calls Try.prog 34 #[ruV r, v1, v2, .int .i64 i] w fun e w' => e = .returned (.tuple #[.slice none 0 0, .int .i64 4]) ∧ Below w.heap.size w w' := by
  have b1 : Below w.heap.size w (w.alloc (.cells (ruC r) 23)) := (Below.refl _ _).alloc (Nat.le_refl _) _
  have HM := Lib.hid (mayR_any _ r v1 v2 l s (h.below b1) (h2.below b1) hN)
  rw [hm] at HM
  have hl := (mayE_0 hm).2.2.1
  obtain ⟨oa, cap, rfl, g1, g2, g3⟩ := h
  unfold maxLen at g2
  obtain ⟨oa2, cap2, rfl, k1, k2, k3⟩ := h2
  unfold maxLen at k2
  have B1 := Lib.hid b1
  have hi' : i < 0 ∨ ¬ i < 0 ∧ (s.length : Int) ≤ i ∧ (l.length : Int) ≤ i := out_of hi (by rw [hl])
  clear g3 k3 b1 hm hi hl
  simp only [ruV, ruC] at *
  rcases hi' with hi | ⟨hi0, hi1, hi2⟩
  · go_enter Try.func34, Try.ntmps34
    go_wp2_with fail
    generalize (w.alloc (.cells #[.int .i64 r.f, .int .i64 r.lo, .int .i64 r.fo, .int .i64 r.nu, .int .i64 r.de] 23)) = w1 at *
    refine HM.out.mono ?_
    rintro e w2 ⟨rfl, b2⟩
    go_wp2
    go_ret2
    exact ⟨rfl, B1.out.trans (b2.mono B1.out.size)⟩
  · go_enter Try.func34, Try.ntmps34
    go_wp2_with fail
    generalize (w.alloc (.cells #[.int .i64 r.f, .int .i64 r.lo, .int .i64 r.fo, .int .i64 r.nu, .int .i64 r.de] 23)) = w1 at *
    refine HM.out.mono ?_
    rintro e w2 ⟨rfl, b2⟩
    go_wp2
    go_ret2
    exact ⟨rfl, B1.out.trans (b2.mono B1.out.size)⟩
set_option maxRecDepth 100000 in
set_option maxHeartbeats 1000000 in
/-- flurryref15.Replied, of what may be -/
theorem repliedR_any (w : World) (r : Rul) (v1 v2 : Value) (l : List Vd) (s : List St) (i : Nat) (h : SlIn w v1 2 vdL l) (h2 : SlIn w v2 3 stL s) (hN : ∀ x ∈ l, x.name.size ≤ 300) (hm : mayE r l s = 0) (hi : i < s.length) :
    Calls Try.prog 34 #[ruV r, v1, v2, .int .i64 i] w fun e w' => ∃ v, e = .returned (.tuple #[v, .int .i64 0]) ∧ OwnS w' w.heap.size 50 3 stL v (s.set i ⟨0, 0, s[i].u⟩) ∧ Below w.heap.size w w' := by
  have b1 : Below w.heap.size w (w.alloc (.cells (ruC r) 23)) := (Below.refl _ _).alloc (Nat.le_refl _) _
  have HM := Lib.hid (mayR_any _ r v1 v2 l s (h.below b1) (h2.below b1) hN)
  obtain ⟨_, hc, hl, _⟩ := mayE_0 hm
  obtain ⟨_, hl32, _, _⟩ := chk_32 hc
  have HS2 := Lib.hid h2
  rw [hm] at HM
  obtain ⟨oa, cap, rfl, g1, g2, g3⟩ := h
  unfold maxLen at g2
  obtain ⟨oa2, cap2, rfl, k1, k2, k3⟩ := h2
  unfold maxLen at k2
  have HL := Lib.hid hl
  have hi1 : ¬ (i : Int) < 0 := by omega
  have hi2 : ¬ (s.length : Int) ≤ (i : Int) := by omega
  have hs32 : s.length ≤ 4096 := by omega
  have B1 := Lib.hid b1
  obtain ⟨b, off, rfl, hbb, hrow⟩ := k3 (by omega)
  have HR := Lib.hid (hrow i hi)
  have hb0 : ∀ u W, (Instr.build 50 #[(2, .int .i64 u)]).run Try.prog W = .ok (.agg #[.int .i64 0, .int .i64 0, .int .i64 u]) W := fun u W => by kernel_rfl
  clear g3 k3 hm hc hl b1 hrow
  simp only [ruV, ruC] at *
  go_enter Try.func34, Try.ntmps34
  go_wp2_with fail
  generalize w.alloc (.cells #[.int .i64 r.f, .int .i64 r.lo, .int .i64 r.fo, .int .i64 r.nu, .int .i64 r.de] 23) = w1 at *
  refine HM.out.mono ?_
  rintro e w2 ⟨rfl, b2⟩
  have B2 := Lib.hid (B1.out.trans (b2.mono B1.out.size))
  have hs2 := HR.out
  rw [← obj_below B2.out hbb] at hs2
  have c2 : w2.cell? ⟨b, off + i * 3 + 2, none⟩ = some (.int .i64 s[i].u) := by have := subOf_cell hs2 (j := 2) (by decide); simpa using this
  have HWI := Lib.hid (with_any w2 _ s i ⟨0, 0, s[i].u⟩ (HS2.out.below B2.out) hi hs32)
  simp only [stV] at HWI
  clear b2 HM hs2 HR
  go_wp2_with fail
  refine HWI.out.mono ?_
  rintro e w3 ⟨v3, rfl, q3, b3⟩
  go_wp2
  go_ret2
  exact ⟨v3, rfl, q3.rebase B2.out.size, B2.out.trans (b3.mono B2.out.size)⟩
end Go.Proofs.Ytiknonljdibfgaa
