import Derived.Test.YtagpclgappcnbaaBeReplied
import Derived.Test.YtagpclgappcnbaaBeFail
import Derived.Deep.RegionHeld3
namespace Go.Proofs.Ytagpclgappcnbaa.Be
open Go.RowKit

def alI (s t n d : Int) : Bool := decide (1 ≤ d) && decide (t * n ≤ s * d)
theorem leastI (s t n d : Int) (hs : 0 ≤ s ∧ s < 9223372036854775808) (ht : 0 ≤ t ∧ t < 9223372036854775808) (hn : 0 ≤ n ∧ n < 9223372036854775808) (hd : 0 ≤ d ∧ d < 9223372036854775808) (w : World) :
    Calls Try.prog 75 #[.int .i64 s, .int .i64 t, .int .i64 n, .int .i64 d] w fun e w' => e = .returned (.bool (alI s t n d)) ∧ w = w' := by
  obtain ⟨s, rfl⟩ := Int.eq_ofNat_of_zero_le hs.1
  obtain ⟨t, rfl⟩ := Int.eq_ofNat_of_zero_le ht.1
  obtain ⟨n, rfl⟩ := Int.eq_ofNat_of_zero_le hn.1
  obtain ⟨d, rfl⟩ := Int.eq_ofNat_of_zero_le hd.1
  have e : alI s t n d = alG s t n d := by
    unfold alI alG
    rw [Bool.eq_iff_iff]
    simp only [Bool.and_eq_true, decide_eq_true_eq]
    rw [← Int.natCast_mul, ← Int.natCast_mul, Int.ofNat_le]
    omega
  rw [e]
  exact leastA s t n d (by omega) (by omega) (by omega) (by omega) w
set_option maxRecDepth 100000 in
set_option maxHeartbeats 2000000 in
/-- bench.Failed, of what may be, up to the closure -/
theorem failed_any (w : World) (r : Rul) (v1 v2 : Value) (l : List Vd) (s : List St) (i : Nat) (now : Int) (h : SlIn w v1 2 vdL l) (h2 : SlIn w v2 3 stL s) (hm : mayE r l s = 0) (hi : i < s.length) (hn0 : 0 ≤ now) (hn1 : now ≤ 4611686018427387903) (hnot : isB s (i : Int) now = false) (hde : r.de < 9223372036854775808) :
    Calls Try.prog 46 #[ruV r, v1, v2, .int .i64 i, .int .i64 now] w fun e w' => ∃ v : Value, e = .returned (.tuple #[v, .bool (!stays r s[i] now (alI (tot l) (IntKind.i64.wrap (stkI l s now + wtA l i)) r.de r.nu)), .int .i64 0]) ∧ OwnS w' w.heap.size 123 3 stL v (s.set i (nSeat r s[i] now (alI (tot l) (IntKind.i64.wrap (stkI l s now + wtA l i)) r.de r.nu))) ∧ Below w.heap.size w w' := by
  have b1 : Below w.heap.size w ((w.alloc (.cells (ruC r) 25)).alloc (.cells #[.int .i64 now] 2)) := ((Below.refl _ _).alloc (Nat.le_refl _) _).alloc (by simp) _
  have o1 : obj ((w.alloc (.cells (ruC r) 25)).alloc (.cells #[.int .i64 now] 2)) w.heap.size = some (.cells (ruC r) 25 (0, 0)) := (obj_alloc_past _ _ _ (by simp)).trans (obj_alloc_at _ _ _ rfl)
  have o2 : obj ((w.alloc (.cells (ruC r) 25)).alloc (.cells #[.int .i64 now] 2)) (w.heap.size + 1) = some (.cells #[.int .i64 now] 2 (0, 0)) := obj_alloc_at _ _ _ (by simp)
  have HM := Lib.hid (mayL_any _ r v1 v2 l s (h.below b1) (h2.below b1))
  obtain ⟨hre, hc, hl, hall⟩ := mayE_0 hm
  obtain ⟨_, hl32, _, _⟩ := chk_32 hc
  have HS := Lib.hid h
  have HS2 := Lib.hid h2
  rw [hm] at HM
  obtain ⟨oa, cap, rfl, g1, g2, g3⟩ := h
  unfold maxLen at g2
  obtain ⟨oa2, cap2, rfl, k1, k2, k3⟩ := h2
  unfold maxLen at k2
  have HL := Lib.hid hl
  have hi1 : ¬ (i : Int) < 0 := by omega
  have hi2 : ¬ (l.length : Int) ≤ (i : Int) := by omega
  have hi3 : i < l.length := by omega
  have hnn : ¬ now < 0 := by omega
  have hnm : ¬ (4611686018427387903 : Int) < now := by omega
  obtain ⟨b, off, rfl, hbb, hrow⟩ := g3 (by omega)
  have hs1 := Lib.hid (hrow i hi3)
  have B1 := Lib.hid b1
  have HRE := Lib.hid hre
  have HALL := Lib.hid hall
  have HNOT := Lib.hid hnot
  have HWL : Hid (1 ≤ l[i].wt ∧ l[i].wt ≤ 4611686018427387903 ∧ 0 ≤ tot l ∧ tot l ≤ 4611686018427387903 ∧ 0 ≤ stkI l s now ∧ stkI l s now ≤ 4611686018427387903 ∧ 0 ≤ r.nu ∧ r.nu < 9223372036854775808 ∧ 0 ≤ r.de ∧ r.de < 9223372036854775808) := Lib.hid (by
    obtain ⟨_, _, _, hw⟩ := chk_32 hc
    obtain ⟨s0, s1, s2⟩ := wtsF_sum _ _ hw (by decide)
    have ht : tot l = sumW l := if_pos hc
    have hk : stkI l s now = stkF l (blL s now) := if_pos ⟨hc, hl⟩
    have k0 := stkF_pos s2 (blL s now)
    have k1 := stkF_le s2 hl (List.prefix_refl (blL s now))
    have w1 := s2 _ (List.getElem_mem hi3)
    have w2 := sumW_drop l (i + 1) s2
    have w3 : l[i].wt ≤ sumW l := by
      have h1 := stkF_blF (l := l) 0 s2 (List.replicate (l.length - i) ⟨0, 0, 1⟩) i (by simp; omega)
      rw [show l.length - i = (l.length - i - 1) + 1 by omega, List.replicate_succ, blF_cons, if_pos (by decide)] at h1
      simp only [stkF] at h1
      have h2 := stkF_pos s2 (blF 0 (List.replicate (l.length - i - 1) ⟨0, 0, 1⟩) (i + 1))
      have h3 : wtA l (i : Int) = l[i].wt := by unfold wtA; simp [List.getD, hi3]
      have h4 : ∀ k, sumW (l.drop k) ≤ sumW l := by
        intro k
        induction k with
        | zero => simp
        | succ k ih =>
          by_cases hk : k < l.length
          · rw [List.drop_eq_getElem_cons hk] at ih
            have := s2 _ (List.getElem_mem hk)
            simp only [sumW] at ih
            omega
          · rw [List.drop_eq_nil_of_le (by omega)]; exact s0
      have := h4 i
      omega
    have hr := hre
    unfold ruleE at hr
    split at hr
    · cases hr
    · rename_i hh; simp only [not_or] at hh; omega)
  clear g3 k3 hm hc hl b1 hre hall hrow hnot
  simp only [ruV, ruC] at *
  go_enter Try.func46, Try.ntmps46
  go_wp2_with fail
  generalize (w.alloc (.cells #[.int .i64 r.f, .int .i64 r.lo, .int .i64 r.fo, .int .i64 r.nu, .int .i64 r.de] 25)).alloc (.cells #[.int .i64 now] 2) = w1 at *
  refine HM.out.mono ?_
  rintro e w2 ⟨rfl, b2⟩
  have B2 := Lib.hid (B1.out.trans (b2.mono B1.out.size))
  have p1 := (obj_below b2 (lt_of_obj o1)).trans o1
  have p2 := (obj_below b2 (lt_of_obj o2)).trans o2
  have z1 := lt_of_obj p1
  have z2 := lt_of_obj p2
  have q0 : w2.cell? ⟨w.heap.size + 1, 0, none⟩ = some (.int .i64 now) := cell_at p2 0
  have HIS := Lib.hid (is_any w2 _ s (i : Int) now (HS2.out.below B2.out))
  rw [HNOT.out] at HIS
  clear b2 HM o1 o2
  go_wp2_with fail
  refine HIS.out.mono ?_
  rintro e w3 ⟨rfl, rfl⟩
  have B3 := Lib.hid (B2.out.alloc B2.out.size (.cells #[.bool false] 4))
  have p3 : obj (w2.alloc (.cells #[.bool false] 4)) w2.heap.size = some (.cells #[.bool false] 4 (0, 0)) := obj_alloc_at _ _ _ rfl
  have p1' := (obj_alloc_past (o := .cells #[.bool false] 4) _ _ z1).trans p1
  have p2' := (obj_alloc_past (o := .cells #[.bool false] 4) _ _ z2).trans p2
  clear p1 p2 q0 HIS
  go_wp2
  generalize w2.heap.size = cb at *
  generalize w2.alloc (.cells #[.bool false] 4) = w4 at *
  have q0 : w4.cell? ⟨w.heap.size + 1, 0, none⟩ = some (.int .i64 now) := cell_at p2' 0
  have q3 : w4.cell? ⟨w.heap.size, 3, none⟩ = some (.int .i64 r.nu) := cell_at p1' 3
  have q4 : w4.cell? ⟨w.heap.size, 4, none⟩ = some (.int .i64 r.de) := cell_at p1' 4
  have hbl : b < w4.heap.size := Nat.lt_of_lt_of_le hbb B3.out.size
  have hsw := hs1.out
  rw [← obj_below B3.out hbb] at hsw
  have q5 : w4.cell? ⟨b, off + i * 2 + 1, none⟩ = some (.int .i64 l[i].wt) := by have := subOf_cell hsw (j := 1) (by decide); simpa using this
  have HT := Lib.hid (fun W (hb : Below w.heap.size w W) => totalA W _ l (HS.out.below hb))
  have HK := Lib.hid (fun W (hb : Below w.heap.size w W) => stake_any W _ _ l s now (HS.out.below hb) (HS2.out.below hb) (by have := HL.out; omega))
  clear hsw
  have keepS : ∀ W', Below w4.heap.size w4 W' → W'.cell? ⟨w.heap.size + 1, 0, none⟩ = some (.int .i64 now) ∧ W'.cell? ⟨w.heap.size, 3, none⟩ = some (.int .i64 r.nu) ∧ W'.cell? ⟨w.heap.size, 4, none⟩ = some (.int .i64 r.de) ∧ W'.cell? ⟨b, off + i * 2 + 1, none⟩ = some (.int .i64 l[i].wt) := fun W' hb =>
    ⟨(hb.cell (p := ⟨w.heap.size + 1, 0, none⟩) (lt_of_obj p2')).trans q0, (hb.cell (p := ⟨w.heap.size, 3, none⟩) (lt_of_obj p1')).trans q3, (hb.cell (p := ⟨w.heap.size, 4, none⟩) (lt_of_obj p1')).trans q4, (hb.cell (p := ⟨b, off + i * 2 + 1, none⟩) hbl).trans q5⟩
  have KS := Lib.hid keepS
  clear keepS
  have hwl : 1 ≤ l[i].wt ∧ l[i].wt ≤ 4611686018427387903 ∧ 0 ≤ tot l ∧ tot l ≤ 4611686018427387903 ∧ 0 ≤ stkI l s now ∧ stkI l s now ≤ 4611686018427387903 ∧ 0 ≤ r.nu ∧ r.nu < 9223372036854775808 ∧ 0 ≤ r.de ∧ r.de < 9223372036854775808 := HWL.out
  have H42 := Lib.hid (fun W => leastI (tot l) (IntKind.i64.wrap (stkI l s now + l[i].wt)) r.de r.nu (by omega) (by rw [show IntKind.i64.wrap (stkI l s now + l[i].wt) = stkI l s now + l[i].wt by simp [IntKind.wrap, IntKind.signed, IntKind.bits]; omega]; omega) (by omega) (by omega) W)
  have hwA : wtA l (i : Int) = l[i].wt := by unfold wtA; simp [List.getD, hi3]
  rw [← hwA] at H42
  generalize hRM : alI (tot l) (IntKind.i64.wrap (stkI l s now + wtA l (i : Int))) r.de r.nu = RM at *
  rw [hwA] at H42
  clear hwA
  clear hwl
  generalize hwt : l[i].wt = wt at *
  have HRMH := Lib.hid hRM
  clear hRM
  generalize tot l = T at HT H42
  generalize stkI l s now = K at HK H42
  have BAD := Lib.hid (fun o => (show Below w.heap.size w (w4.alloc o).drew from (B3.out.alloc B3.out.size o).drew))
  have BDA := Lib.hid (fun o => (show Below w.heap.size w (w4.drew.alloc o) from B3.out.drew.alloc (show w.heap.size ≤ w4.drew.heap.size from B3.out.size) o))
  go_region_held3 (fun w' => w'.cell? ⟨w.heap.size + 1, 0, none⟩ = some (.int .i64 now) ∧ w'.cell? ⟨w.heap.size, 3, none⟩ = some (.int .i64 r.nu) ∧ w'.cell? ⟨w.heap.size, 4, none⟩ = some (.int .i64 r.de) ∧ w'.cell? ⟨b, off + i * 2 + 1, none⟩ = some (.int .i64 wt))
    (first | exact ⟨q0, q3, q4, q5⟩ | assumption | exact KS.out _ ((Below.refl _ _).drew.alloc (Nat.le_refl _) _) | exact KS.out _ (g5.alloc g5.size _) | exact KS.out _ (g6.alloc g6.size _) | exact KS.out _ (Below.refl _ _).drew | exact KS.out _ (g6.setCell g5.size _) | exact KS.out _ (g6.setCell (Nat.le_refl _) _) | exact KS.out _ ((g6.alloc g6.size _).setCell g6.size _))
    (first
      | (go_at_call 76; (first | (with_reducible refine (HT.out _ B3.out.drew).mono ?_) | (with_reducible refine (HT.out _ (BDA.out _)).mono ?_) | (with_reducible refine (HT.out _ (BAD.out _)).mono ?_) | (refine (HT.out _ (BDA.out _)).mono ?_)); rintro _ w5 ⟨rfl, b5⟩
         have g5 : Below w4.heap.size w4 w5 := (by first | exact (Below.refl _ _).drew.trans b5 | exact ((Below.refl _ _).drew.alloc (Nat.le_refl _) _).trans (b5.mono (by simp)))
         have c5 := KS.out _ g5
         have B5 := Lib.hid (B3.out.trans (g5.mono B3.out.size))
         try (have k5 : obj w5 w4.heap.size = some (.cells #[.bool false] 4 (0, 0)) := (obj_below b5 (by simp)).trans (obj_alloc_at _ _ _ (by first | rfl | simp)))
         try (have kz5 := lt_of_obj k5)
         try (have kf5 : ∀ j, w5.frozen? ⟨w4.heap.size, j, none⟩ = false := frozen_at k5))
      | (go_at_call 77; (first | (with_reducible refine (HK.out _ B5.out).mono ?_) | (with_reducible refine (HK.out _ (B5.out.alloc B5.out.size _)).mono ?_)); rintro _ w6 ⟨rfl, b6⟩
         have g6 : Below w4.heap.size w4 w6 := (by first | exact g5.trans (b6.mono g5.size) | exact (g5.alloc g5.size _).trans (b6.mono (by have := g5.size; simp; omega)))
         have c6 := KS.out _ g6
         have B6 := Lib.hid (B3.out.trans (g6.mono B3.out.size))
         try (have k6 : obj w6 w4.heap.size = some (.cells #[.bool false] 4 (0, 0)) := (obj_below b6 kz5).trans k5)
         try (have k6 : obj w6 w5.heap.size = some (.cells #[.bool false] 4 (0, 0)) := (obj_below b6 (by simp)).trans (obj_alloc_at _ _ _ (by simp)))
         try (have kz6 := lt_of_obj k6)
         try (have kf6 : ∀ j, w6.frozen? ⟨_, j, none⟩ = false := frozen_at k6)
         try (have kc6 : w6.cell? ⟨_, 0, none⟩ = some (.bool false) := cell_at k6 0))
      | (go_at_call 75; (with_reducible refine (H42.out _).mono ?_); rintro _ w7 ⟨rfl, rfl⟩))
  all_goals clear q0 q3 q4 q5 HT HK H42 BDA BAD
  · have B7 : Below w4.heap.size w4 (w6.alloc (.cells #[.bool RM] 4)) := g6.alloc g6.size _
    have o7 : obj (w6.alloc (.cells #[.bool RM] 4)) w6.heap.size = some (.cells #[.bool RM] 4 (0, 0)) := obj_alloc_at _ _ _ rfl
    clear g6 c6 B6 b6
    generalize (w6.alloc (.cells #[.bool RM] 4)) = w7 at *
    have BB := Lib.hid (B3.out.trans (B7.mono B3.out.size))
    have r1 := (obj_below B7 (lt_of_obj p1')).trans p1'
    have r2 := (obj_below B7 (lt_of_obj p2')).trans p2'
    have r3 := (obj_below B7 (lt_of_obj p3)).trans p3
    have HTU := Lib.hid (turned_any w7 _ s i (HS2.out.below BB.out) hi (by have := HL.out; omega) 78 #[.pointer (some ⟨w.heap.size + 1, 0, none⟩), .pointer (some ⟨w.heap.size, 0, none⟩), .pointer (some ⟨w6.heap.size, 0, none⟩), .pointer (some ⟨cb, 0, none⟩)] eg44 (FailPost w7 s i (nSeat r s[i] now RM) cb (!stays r s[i] now RM)) (fun W g cap cur x1 x2 x3 x4 x5 x6 x7 => failed_cl w7 s i hi (w.heap.size + 1) w.heap.size w6.heap.size cb r now RM HRE.out (List.all_eq_true.1 HALL.out _ (List.getElem_mem hi)) hn0 hn1 r2 r1 o7 r3 W g cap cur x1 x2 x3 x4 x5 x6 x7))
    generalize hyy : nSeat r s[i] now RM = yy at *
    generalize hst : stays r s[i] now RM = st at *
    have HE := Lib.hid (And.intro HRMH.out (And.intro hyy hst))
    clear hyy hst
    clear B7 o7 r1 r2 r3
    go_wp2_with fail
    refine HTU.out.mono ?_
    rintro e w8 ⟨g, cap8, rfl, t1, t2, t3⟩
    have cc : w8.cell? ⟨cb, 0, none⟩ = some (.bool (!st)) := cell_at t2 0
    have FINAL : OwnS w8 w.heap.size 123 3 stL (.slice (some ⟨g, 0, none⟩) s.length cap8) (s.set i yy) ∧ Below w.heap.size w w8 := by
      refine ⟨⟨⟨t1.1.1, ?_⟩, t1.2⟩, ?_⟩
      · rcases t1.1.2 with h | ⟨g', c', cur, e, hb, h⟩
        · exact .inl h
        · exact .inr ⟨g', c', cur, e, Nat.le_trans BB.out.size hb, h⟩
      · exact BB.out.trans (t3.below (fun k hk => by have := B3.out.size; omega) BB.out.size)
    have FF := Lib.hid FINAL
    clear t1 t2 t3 FINAL HTU
    go_wp2
    go_quiet (fail)
    go_wp2
    refine bodyPost_ret (v := .tuple #[.slice (some ⟨g, 0, none⟩) s.length cap8, .bool (!st), .int .i64 0]) (by simp [results, Try.results46, go_sem]) rfl ⟨_, by rw [HE.out.1, HE.out.2.2], by rw [HE.out.1, HE.out.2.1]; exact FF.out.1.drewN _, FF.out.2.trans ⟨rfl, rfl, rfl, Nat.le_refl _, fun _ _ => rfl⟩⟩
  · have B7 : Below w4.heap.size w4 (w6.alloc (.cells #[.bool RM] 4)) := g6.alloc g6.size _
    have o7 : obj (w6.alloc (.cells #[.bool RM] 4)) w6.heap.size = some (.cells #[.bool RM] 4 (0, 0)) := obj_alloc_at _ _ _ rfl
    clear g6 c6 B6 b6
    generalize (w6.alloc (.cells #[.bool RM] 4)) = w7 at *
    have BB := Lib.hid (B3.out.trans (B7.mono B3.out.size))
    have r1 := (obj_below B7 (lt_of_obj p1')).trans p1'
    have r2 := (obj_below B7 (lt_of_obj p2')).trans p2'
    have r3 := (obj_below B7 (lt_of_obj p3)).trans p3
    have HTU := Lib.hid (turned_any w7 _ s i (HS2.out.below BB.out) hi (by have := HL.out; omega) 78 #[.pointer (some ⟨w.heap.size + 1, 0, none⟩), .pointer (some ⟨w.heap.size, 0, none⟩), .pointer (some ⟨w6.heap.size, 0, none⟩), .pointer (some ⟨cb, 0, none⟩)] eg44 (FailPost w7 s i (nSeat r s[i] now RM) cb (!stays r s[i] now RM)) (fun W g cap cur x1 x2 x3 x4 x5 x6 x7 => failed_cl w7 s i hi (w.heap.size + 1) w.heap.size w6.heap.size cb r now RM HRE.out (List.all_eq_true.1 HALL.out _ (List.getElem_mem hi)) hn0 hn1 r2 r1 o7 r3 W g cap cur x1 x2 x3 x4 x5 x6 x7))
    generalize hyy : nSeat r s[i] now RM = yy at *
    generalize hst : stays r s[i] now RM = st at *
    have HE := Lib.hid (And.intro HRMH.out (And.intro hyy hst))
    clear hyy hst
    clear B7 o7 r1 r2 r3
    go_wp2_with fail
    refine HTU.out.mono ?_
    rintro e w8 ⟨g, cap8, rfl, t1, t2, t3⟩
    have cc : w8.cell? ⟨cb, 0, none⟩ = some (.bool (!st)) := cell_at t2 0
    have FINAL : OwnS w8 w.heap.size 123 3 stL (.slice (some ⟨g, 0, none⟩) s.length cap8) (s.set i yy) ∧ Below w.heap.size w w8 := by
      refine ⟨⟨⟨t1.1.1, ?_⟩, t1.2⟩, ?_⟩
      · rcases t1.1.2 with h | ⟨g', c', cur, e, hb, h⟩
        · exact .inl h
        · exact .inr ⟨g', c', cur, e, Nat.le_trans BB.out.size hb, h⟩
      · exact BB.out.trans (t3.below (fun k hk => by have := B3.out.size; omega) BB.out.size)
    have FF := Lib.hid FINAL
    clear t1 t2 t3 FINAL HTU
    go_wp2
    go_quiet (fail)
    go_wp2
    refine bodyPost_ret (v := .tuple #[.slice (some ⟨g, 0, none⟩) s.length cap8, .bool (!st), .int .i64 0]) (by simp [results, Try.results46, go_sem]) rfl ⟨_, by rw [HE.out.1, HE.out.2.2], by rw [HE.out.1, HE.out.2.1]; exact FF.out.1.drewN _, FF.out.2.trans ⟨rfl, rfl, rfl, Nat.le_refl _, fun _ _ => rfl⟩⟩
  · have B7 : Below w4.heap.size w4 (w6.setCell ⟨w5.heap.size, 0, none⟩ (.bool RM)) := g6.setCell g5.size _
    have o7 : obj (w6.setCell ⟨w5.heap.size, 0, none⟩ (.bool RM)) w5.heap.size = some (.cells #[.bool RM] 4 (0, 0)) := obj_setCell_at _ k6
    clear g6 c6 B6 b6
    generalize (w6.setCell ⟨w5.heap.size, 0, none⟩ (.bool RM)) = w7 at *
    have BB := Lib.hid (B3.out.trans (B7.mono B3.out.size))
    have r1 := (obj_below B7 (lt_of_obj p1')).trans p1'
    have r2 := (obj_below B7 (lt_of_obj p2')).trans p2'
    have r3 := (obj_below B7 (lt_of_obj p3)).trans p3
    have HTU := Lib.hid (turned_any w7 _ s i (HS2.out.below BB.out) hi (by have := HL.out; omega) 78 #[.pointer (some ⟨w.heap.size + 1, 0, none⟩), .pointer (some ⟨w.heap.size, 0, none⟩), .pointer (some ⟨w5.heap.size, 0, none⟩), .pointer (some ⟨cb, 0, none⟩)] eg44 (FailPost w7 s i (nSeat r s[i] now RM) cb (!stays r s[i] now RM)) (fun W g cap cur x1 x2 x3 x4 x5 x6 x7 => failed_cl w7 s i hi (w.heap.size + 1) w.heap.size w5.heap.size cb r now RM HRE.out (List.all_eq_true.1 HALL.out _ (List.getElem_mem hi)) hn0 hn1 r2 r1 o7 r3 W g cap cur x1 x2 x3 x4 x5 x6 x7))
    generalize hyy : nSeat r s[i] now RM = yy at *
    generalize hst : stays r s[i] now RM = st at *
    have HE := Lib.hid (And.intro HRMH.out (And.intro hyy hst))
    clear hyy hst
    clear B7 o7 r1 r2 r3
    go_wp2_with fail
    refine HTU.out.mono ?_
    rintro e w8 ⟨g, cap8, rfl, t1, t2, t3⟩
    have cc : w8.cell? ⟨cb, 0, none⟩ = some (.bool (!st)) := cell_at t2 0
    have FINAL : OwnS w8 w.heap.size 123 3 stL (.slice (some ⟨g, 0, none⟩) s.length cap8) (s.set i yy) ∧ Below w.heap.size w w8 := by
      refine ⟨⟨⟨t1.1.1, ?_⟩, t1.2⟩, ?_⟩
      · rcases t1.1.2 with h | ⟨g', c', cur, e, hb, h⟩
        · exact .inl h
        · exact .inr ⟨g', c', cur, e, Nat.le_trans BB.out.size hb, h⟩
      · exact BB.out.trans (t3.below (fun k hk => by have := B3.out.size; omega) BB.out.size)
    have FF := Lib.hid FINAL
    clear t1 t2 t3 FINAL HTU
    go_wp2
    go_quiet (fail)
    go_wp2
    refine bodyPost_ret (v := .tuple #[.slice (some ⟨g, 0, none⟩) s.length cap8, .bool (!st), .int .i64 0]) (by simp [results, Try.results46, go_sem]) rfl ⟨_, by rw [HE.out.1, HE.out.2.2], by rw [HE.out.1, HE.out.2.1]; exact FF.out.1.drewN _, FF.out.2.trans ⟨rfl, rfl, rfl, Nat.le_refl _, fun _ _ => rfl⟩⟩
  · have B7 : Below w4.heap.size w4 (w6.setCell ⟨w4.heap.size, 0, none⟩ (.bool RM)) := g6.setCell (Nat.le_refl _) _
    have o7 : obj (w6.setCell ⟨w4.heap.size, 0, none⟩ (.bool RM)) w4.heap.size = some (.cells #[.bool RM] 4 (0, 0)) := obj_setCell_at _ k6
    clear g6 c6 B6 b6
    generalize (w6.setCell ⟨w4.heap.size, 0, none⟩ (.bool RM)) = w7 at *
    have BB := Lib.hid (B3.out.trans (B7.mono B3.out.size))
    have r1 := (obj_below B7 (lt_of_obj p1')).trans p1'
    have r2 := (obj_below B7 (lt_of_obj p2')).trans p2'
    have r3 := (obj_below B7 (lt_of_obj p3)).trans p3
    have HTU := Lib.hid (turned_any w7 _ s i (HS2.out.below BB.out) hi (by have := HL.out; omega) 78 #[.pointer (some ⟨w.heap.size + 1, 0, none⟩), .pointer (some ⟨w.heap.size, 0, none⟩), .pointer (some ⟨w4.heap.size, 0, none⟩), .pointer (some ⟨cb, 0, none⟩)] eg44 (FailPost w7 s i (nSeat r s[i] now RM) cb (!stays r s[i] now RM)) (fun W g cap cur x1 x2 x3 x4 x5 x6 x7 => failed_cl w7 s i hi (w.heap.size + 1) w.heap.size w4.heap.size cb r now RM HRE.out (List.all_eq_true.1 HALL.out _ (List.getElem_mem hi)) hn0 hn1 r2 r1 o7 r3 W g cap cur x1 x2 x3 x4 x5 x6 x7))
    generalize hyy : nSeat r s[i] now RM = yy at *
    generalize hst : stays r s[i] now RM = st at *
    have HE := Lib.hid (And.intro HRMH.out (And.intro hyy hst))
    clear hyy hst
    clear B7 o7 r1 r2 r3
    go_wp2_with fail
    refine HTU.out.mono ?_
    rintro e w8 ⟨g, cap8, rfl, t1, t2, t3⟩
    have cc : w8.cell? ⟨cb, 0, none⟩ = some (.bool (!st)) := cell_at t2 0
    have FINAL : OwnS w8 w.heap.size 123 3 stL (.slice (some ⟨g, 0, none⟩) s.length cap8) (s.set i yy) ∧ Below w.heap.size w w8 := by
      refine ⟨⟨⟨t1.1.1, ?_⟩, t1.2⟩, ?_⟩
      · rcases t1.1.2 with h | ⟨g', c', cur, e, hb, h⟩
        · exact .inl h
        · exact .inr ⟨g', c', cur, e, Nat.le_trans BB.out.size hb, h⟩
      · exact BB.out.trans (t3.below (fun k hk => by have := B3.out.size; omega) BB.out.size)
    have FF := Lib.hid FINAL
    clear t1 t2 t3 FINAL HTU
    go_wp2
    go_quiet (fail)
    go_wp2
    refine bodyPost_ret (v := .tuple #[.slice (some ⟨g, 0, none⟩) s.length cap8, .bool (!st), .int .i64 0]) (by simp [results, Try.results46, go_sem]) rfl ⟨_, by rw [HE.out.1, HE.out.2.2], by rw [HE.out.1, HE.out.2.1]; exact FF.out.1.drewN _, FF.out.2.trans ⟨rfl, rfl, rfl, Nat.le_refl _, fun _ _ => rfl⟩⟩
end Go.Proofs.Ytagpclgappcnbaa.Be
