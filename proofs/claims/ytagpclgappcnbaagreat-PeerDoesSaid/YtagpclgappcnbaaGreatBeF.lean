import Derived.Test.YtagpclgappcnbaaGreatBeL
import Derived.Test.YtagpclgappcnbaaGreatBeFail
import Derived.Deep.RegionHeld3
namespace Go.Proofs.YtagpclgappcnbaaGreat.Be
open Go.RowKit

def alI (s t n d : Int) : Bool := decide (1 ≤ d) && decide (t * n ≤ s * d)
theorem leastI (s t n d : Int) (hs : 0 ≤ s ∧ s < 9223372036854775808) (ht : 0 ≤ t ∧ t < 9223372036854775808) (hn : 0 ≤ n ∧ n < 9223372036854775808) (hd : 0 ≤ d ∧ d < 9223372036854775808) (w : World) :
    Calls Tryz.prog 107 #[.int .i64 s, .int .i64 t, .int .i64 n, .int .i64 d] w fun e w' => e = .returned (.bool (alI s t n d)) ∧ w = w' := by
  obtain ⟨s, rfl⟩ := Int.eq_ofNat_of_zero_le hs.1
  obtain ⟨t, rfl⟩ := Int.eq_ofNat_of_zero_le ht.1
  obtain ⟨n, rfl⟩ := Int.eq_ofNat_of_zero_le hn.1
  obtain ⟨d, rfl⟩ := Int.eq_ofNat_of_zero_le hd.1
  have e : alI s t n d = alG s t n d := by
    unfold alI alG
    rw [Bool.eq_iff_iff]
    simp only [Bool.and_eq_true, decide_eq_true_eq]
    rw [← Int.natCast_mul, ← Int.natCast_mul, Int.ofNat_le]
    omega
  rw [e]
  exact leastA s t n d (by omega) (by omega) (by omega) (by omega) w
set_option maxRecDepth 100000 in
set_option maxHeartbeats 2000000 in
/-- bench.Failed, of what may be, up to the closure -/
theorem failed_any (w : World) (r : Rul) (v1 v2 : Value) (l : List Vd) (s : List St) (i : Nat) (now : Int) (h : SlIn w v1 2 vdL l) (h2 : SlIn w v2 3 stL s) (hm : mayE r l s = 0) (hi : i < s.length) (hn0 : 0 ≤ now) (hn1 : now ≤ 4611686018427387903) (hnot : isB s (i : Int) now = false) (hde : r.de < 9223372036854775808) :
    Calls Tryz.prog 61 #[ruV r, v1, v2, .int .i64 i, .int .i64 now] w fun e w' => ∃ v : Value, e = .returned (.tuple #[v, .bool (!stays r s[i] now (alI (tot l) (IntKind.i64.wrap (stkI l s now + wtA l i)) r.de r.nu)), .int .i64 0]) ∧ OwnS w' w.heap.size 138 3 stL v (s.set i (nSeat r s[i] now (alI (tot l) (IntKind.i64.wrap (stkI l s now + wtA l i)) r.de r.nu))) ∧ Below w.heap.size w w' := by
  have b1 : Below w.heap.size w ((w.alloc (.cells (ruC r) 25)).alloc (.cells #[.int .i64 now] 2)) := ((Below.refl _ _).alloc (Nat.le_refl _) _).alloc (by simp) _
  have o1 : obj ((w.alloc (.cells (ruC r) 25)).alloc (.cells #[.int .i64 now] 2)) w.heap.size = some (.cells (ruC r) 25 (0, 0)) := (obj_alloc_past _ _ _ (by simp)).trans (obj_alloc_at _ _ _ rfl)
  have o2 : obj ((w.alloc (.cells (ruC r) 25)).alloc (.cells #[.int .i64 now] 2)) (w.heap.size + 1) = some (.cells #[.int .i64 now] 2 (0, 0)) := obj_alloc_at _ _ _ (by simp)
  have HM := Lib.hid (mayL_any _ r v1 v2 l s (h.below b1) (h2.below b1))
  obtain ⟨hre, hc, hl, hall⟩ := mayE_0 hm
  obtain ⟨_, hl32, _, _⟩ := chk_32 hc
  have HS := Lib.hid h
  have HS2 := Lib.hid h2
  rw [hm] at HM
  obtain ⟨oa, cap, rfl, g1, g2, g3⟩ := h
  unfold maxLen at g2
  obtain ⟨oa2, cap2, rfl, k1, k2, k3⟩ := h2
  unfold maxLen at k2
  have HL := Lib.hid hl
  have hi1 : ¬ (i : Int) < 0 := by omega
  have hi2 : ¬ (l.length : Int) ≤ (i : Int) := by omega
  have hi3 : i < l.length := by omega
  have hnn : ¬ now < 0 := by omega
  have hnm : ¬ (4611686018427387903 : Int) < now := by omega
  obtain ⟨b, off, rfl, hbb, hrow⟩ := g3 (by omega)
  have hs1 := Lib.hid (hrow i hi3)
  have B1 := Lib.hid b1
  have HRE := Lib.hid hre
  have HALL := Lib.hid hall
  have HNOT := Lib.hid hnot
  have HWL : Hid (1 ≤ l[i].wt ∧ l[i].wt ≤ 4611686018427387903 ∧ 0 ≤ tot l ∧ tot l ≤ 4611686018427387903 ∧ 0 ≤ stkI l s now ∧ stkI l s now ≤ 4611686018427387903 ∧ 0 ≤ r.nu ∧ r.nu < 9223372036854775808 ∧ 0 ≤ r.de ∧ r.de < 9223372036854775808) := Lib.hid (by
    obtain ⟨_, _, _, hw⟩ := chk_32 hc
    obtain ⟨s0, s1, s2⟩ := wtsF_sum _ _ hw (by decide)
    have ht : tot l = sumW l := if_pos hc
    have hk : stkI l s now = stkF l (blL s now) := if_pos ⟨hc, hl⟩
    have k0 := stkF_pos s2 (blL s now)
    have k1 := stkF_le s2 hl (List.prefix_refl (blL s now))
    have w1 := s2 _ (List.getElem_mem hi3)
    have w2 := sumW_drop l (i + 1) s2
    have w3 : l[i].wt ≤ sumW l := by
      have h1 := stkF_blF (l := l) 0 s2 (List.replicate (l.length - i) ⟨0, 0, 1⟩) i (by simp; omega)
      rw [show l.length - i = (l.length - i - 1) + 1 by omega, List.replicate_succ, blF_cons, if_pos (by decide)] at h1
      simp only [stkF] at h1
      have h2 := stkF_pos s2 (blF 0 (List.replicate (l.length - i - 1) ⟨0, 0, 1⟩) (i + 1))
      have h3 : wtA l (i : Int) = l[i].wt := by unfold wtA; simp [List.getD, hi3]
      have h4 : ∀ k, sumW (l.drop k) ≤ sumW l := by
        intro k
        induction k with
        | zero => simp
        | succ k ih =>
          by_cases hk : k < l.length
          · rw [List.drop_eq_getElem_cons hk] at ih
            have := s2 _ (List.getElem_mem hk)
            simp only [sumW] at ih
            omega
          · rw [List.drop_eq_nil_of_le (by omega)]; exact s0
      have := h4 i
      omega
    have hr := hre
    unfold ruleE at hr
    split at hr
    · cases hr
    · rename_i hh; simp only [not_or] at hh; omega)
  clear g3 k3 hm hc hl b1 hre hall hrow hnot
  simp only [ruV, ruC] at *
  go_enter Tryz.func61, Tryz.ntmps61
  go_wp2_with fail
  generalize (w.alloc (.cells #[.int .i64 r.f, .int .i64 r.lo, .int .i64 r.fo, .int .i64 r.nu, .int .i64 r.de] 25)).alloc (.cells #[.int .i64 now] 2) = w1 at *
  refine HM.out.mono ?_
  rintro e w2 ⟨rfl, b2⟩
  have B2 := Lib.hid (B1.out.trans (b2.mono B1.out.size))
  have p1 := (obj_below b2 (lt_of_obj o1)).trans o1
  have p2 := (obj_below b2 (lt_of_obj o2)).trans o2
  have z1 := lt_of_obj p1
  have z2 := lt_of_obj p2
  have q0 : w2.cell? ⟨w.heap.size + 1, 0, none⟩ = some (.int .i64 now) := cell_at p2 0
  have HIS := Lib.hid (is_any w2 _ s (i : Int) now (HS2.out.below B2.out))
  rw [HNOT.out] at HIS
  clear b2 HM o1 o2
  go_wp2_with fail
  refine HIS.out.mono ?_
  rintro e w3 ⟨rfl, rfl⟩
  have B3 := Lib.hid (B2.out.alloc B2.out.size (.cells #[.bool false] 4))
  have p3 : obj (w2.alloc (.cells #[.bool false] 4)) w2.heap.size = some (.cells #[.bool false] 4 (0, 0)) := obj_alloc_at _ _ _ rfl
  have p1' := (obj_alloc_past (o := .cells #[.bool false] 4) _ _ z1).trans p1
  have p2' := (obj_alloc_past (o := .cells #[.bool false] 4) _ _ z2).trans p2
  clear p1 p2 q0 HIS
  go_wp2
  generalize w2.heap.size = cb at *
  generalize w2.alloc (.cells #[.bool false] 4) = w4 at *
  have q0 : w4.cell? ⟨w.heap.size + 1, 0, none⟩ = some (.int .i64 now) := cell_at p2' 0
  have q3 : w4.cell? ⟨w.heap.size, 3, none⟩ = some (.int .i64 r.nu) := cell_at p1' 3
  have q4 : w4.cell? ⟨w.heap.size, 4, none⟩ = some (.int .i64 r.de) := cell_at p1' 4
  have hbl : b < w4.heap.size := Nat.lt_of_lt_of_le hbb B3.out.size
  have hsw := hs1.out
  rw [← obj_below B3.out hbb] at hsw
  have q5 : w4.cell? ⟨b, off + i * 2 + 1, none⟩ = some (.int .i64 l[i].wt) := by have := subOf_cell hsw (j := 1) (by decide); simpa using this
  have HT := Lib.hid (fun W (hb : Below w.heap.size w W) => totalA W _ l (HS.out.below hb))
  have HK := Lib.hid (fun W (hb : Below w.heap.size w W) => stake_any W _ _ l s now (HS.out.below hb) (HS2.out.below hb) (by have := HL.out; omega))
  clear hsw
  have keepS : ∀ W', Below w4.heap.size w4 W' → W'.cell? ⟨w.heap.size + 1, 0, none⟩ = some (.int .i64 now) ∧ W'.cell? ⟨w.heap.size, 3, none⟩ = some (.int .i64 r.nu) ∧ W'.cell? ⟨w.heap.size, 4, none⟩ = some (.int .i64 r.de) ∧ W'.cell? ⟨b, off + i * 2 + 1, none⟩ = some (.int .i64 l[i].wt) := fun W' hb =>
    ⟨(hb.cell (p := ⟨w.heap.size + 1, 0, none⟩) (lt_of_obj p2')).trans q0, (hb.cell (p := ⟨w.heap.size, 3, none⟩) (lt_of_obj p1')).trans q3, (hb.cell (p := ⟨w.heap.size, 4, none⟩) (lt_of_obj p1')).trans q4, (hb.cell (p := ⟨b, off + i * 2 + 1, none⟩) hbl).trans q5⟩
  have KS := Lib.hid keepS
  clear keepS
  have hwl : 1 ≤ l[i].wt ∧ l[i].wt ≤ 4611686018427387903 ∧ 0 ≤ tot l ∧ tot l ≤ 4611686018427387903 ∧ 0 ≤ stkI l s now ∧ stkI l s now ≤ 4611686018427387903 ∧ 0 ≤ r.nu ∧ r.nu < 9223372036854775808 ∧ 0 ≤ r.de ∧ r.de < 9223372036854775808 := HWL.out
  have H42 := Lib.hid (fun W => leastI (tot l) (IntKind.i64.wrap (stkI l s now + l[i].wt)) r.de r.nu (by omega) (by rw [show IntKind.i64.wrap (stkI l s now + l[i].wt) = stkI l s now + l[i].wt by simp [IntKind.wrap, IntKind.signed, IntKind.bits]; omega]; omega) (by omega) (by omega) W)
  have hwA : wtA l (i : Int) = l[i].wt := by unfold wtA; simp [List.getD, hi3]
  rw [← hwA] at H42
  generalize hRM : alI (tot l) (IntKind.i64.wrap (stkI l s now + wtA l (i : Int))) r.de r.nu = RM at *
  rw [hwA] at H42
  clear hwA
  clear hwl
  generalize hwt : l[i].wt = wt at *
  have HRMH := Lib.hid hRM
  clear hRM
  generalize tot l = T at HT H42
  generalize stkI l s now = K at HK H42
  have BAD := Lib.hid (fun o => (show Below w.heap.size w (w4.alloc o).drew from (B3.out.alloc B3.out.size o).drew))
  have BDA := Lib.hid (fun o => (show Below w.heap.size w (w4.drew.alloc o) from B3.out.drew.alloc (show w.heap.size ≤ w4.drew.heap.size from B3.out.size) o))
  go_region_held3 (fun w' => w'.cell? ⟨w.heap.size + 1, 0, none⟩ = some (.int .i64 now) ∧ w'.cell? ⟨w.heap.size, 3, none⟩ = some (.int .i64 r.nu) ∧ w'.cell? ⟨w.heap.size, 4, none⟩ = some (.int .i64 r.de) ∧ w'.cell? ⟨b, off + i * 2 + 1, none⟩ = some (.int .i64 wt))
    (first | exact ⟨q0, q3, q4, q5⟩ | assumption | exact KS.out _ ((Below.refl _ _).drew.alloc (Nat.le_refl _) _) | exact KS.out _ (g5.alloc g5.size _) | exact KS.out _ (g6.alloc g6.size _) | exact KS.out _ (Below.refl _ _).drew | exact KS.out _ (g6.setCell g5.size _) | exact KS.out _ (g6.setCell (Nat.le_refl _) _) | exact KS.out _ ((g6.alloc g6.size _).setCell g6.size _))
    (first
      | (go_at_call 108; (first | (with_reducible refine (HT.out _ B3.out.drew).mono ?_) | (with_reducible refine (HT.out _ (BDA.out _)).mono ?_) | (with_reducible refine (HT.out _ (BAD.out _)).mono ?_) | (refine (HT.out _ (BDA.out _)).mono ?_)); rintro _ w5 ⟨rfl, b5⟩
         have g5 : Below w4.heap.size w4 w5 := (by first | exact (Below.refl _ _).drew.trans b5 | exact ((Below.refl _ _).drew.alloc (Nat.le_refl _) _).trans (b5.mono (by simp)))
         have c5 := KS.out _ g5
         have B5 := Lib.hid (B3.out.trans (g5.mono B3.out.size))
         try (have k5 : obj w5 w4.heap.size = some (.cells #[.bool false] 4 (0, 0)) := (obj_below b5 (by simp)).trans (obj_alloc_at _ _ _ (by first | rfl | simp)))
         try (have kz5 := lt_of_obj k5)
         try (have kf5 : ∀ j, w5.frozen? ⟨w4.heap.size, j, none⟩ = false := frozen_at k5))
      | (go_at_call 109; (first | (with_reducible refine (HK.out _ B5.out).mono ?_) | (with_reducible refine (HK.out _ (B5.out.alloc B5.out.size _)).mono ?_)); rintro _ w6 ⟨rfl, b6⟩
         have g6 : Below w4.heap.size w4 w6 := (by first | exact g5.trans (b6.mono g5.size) | exact (g5.alloc g5.size _).trans (b6.mono (by have := g5.size; simp; omega)))
         have c6 := KS.out _ g6
         have B6 := Lib.hid (B3.out.trans (g6.mono B3.out.size))
         try (have k6 : obj w6 w4.heap.size = some (.cells #[.bool false] 4 (0, 0)) := (obj_below b6 kz5).trans k5)
         try (have k6 : obj w6 w5.heap.size = some (.cells #[.bool false] 4 (0, 0)) := (obj_below b6 (by simp)).trans (obj_alloc_at _ _ _ (by simp)))
         try (have kz6 := lt_of_obj k6)
         try (have kf6 : ∀ j, w6.frozen? ⟨_, j, none⟩ = false := frozen_at k6)
         try (have kc6 : w6.cell? ⟨_, 0, none⟩ = some (.bool false) := cell_at k6 0))
      | (go_at_call 107; (with_reducible refine (H42.out _).mono ?_); rintro _ w7 ⟨rfl, rfl⟩))
  all_goals clear q0 q3 q4 q5 HT HK H42 BDA BAD
  · have B7 : Below w4.heap.size w4 (w6.alloc (.cells #[.bool RM] 4)) := g6.alloc g6.size _
    have o7 : obj (w6.alloc (.cells #[.bool RM] 4)) w6.heap.size = some (.cells #[.bool RM] 4 (0, 0)) := obj_alloc_at _ _ _ rfl
    clear g6 c6 B6 b6
    generalize (w6.alloc (.cells #[.bool RM] 4)) = w7 at *
    have BB := Lib.hid (B3.out.trans (B7.mono B3.out.size))
    have r1 := (obj_below B7 (lt_of_obj p1')).trans p1'
    have r2 := (obj_below B7 (lt_of_obj p2')).trans p2'
    have r3 := (obj_below B7 (lt_of_obj p3)).trans p3
    have HTU := Lib.hid (turned_any w7 _ s i (HS2.out.below BB.out) hi (by have := HL.out; omega) 111 #[.pointer (some ⟨w.heap.size + 1, 0, none⟩), .pointer (some ⟨w.heap.size, 0, none⟩), .pointer (some ⟨w6.heap.size, 0, none⟩), .pointer (some ⟨cb, 0, none⟩)] eg44 (FailPost w7 s i (nSeat r s[i] now RM) cb (!stays r s[i] now RM)) (fun W g cap cur x1 x2 x3 x4 x5 x6 x7 => failed_cl w7 s i hi (w.heap.size + 1) w.heap.size w6.heap.size cb r now RM HRE.out (List.all_eq_true.1 HALL.out _ (List.getElem_mem hi)) hn0 hn1 r2 r1 o7 r3 W g cap cur x1 x2 x3 x4 x5 x6 x7))
    generalize hyy : nSeat r s[i] now RM = yy at *
    generalize hst : stays r s[i] now RM = st at *
    have HE := Lib.hid (And.intro HRMH.out (And.intro hyy hst))
    clear hyy hst
    clear B7 o7 r1 r2 r3
    go_wp2_with fail
    refine HTU.out.mono ?_
    rintro e w8 ⟨g, cap8, rfl, t1, t2, t3⟩
    have cc : w8.cell? ⟨cb, 0, none⟩ = some (.bool (!st)) := cell_at t2 0
    have FINAL : OwnS w8 w.heap.size 138 3 stL (.slice (some ⟨g, 0, none⟩) s.length cap8) (s.set i yy) ∧ Below w.heap.size w w8 := by
      refine ⟨⟨⟨t1.1.1, ?_⟩, t1.2⟩, ?_⟩
      · rcases t1.1.2 with h | ⟨g', c', cur, e, hb, h⟩
        · exact .inl h
        · exact .inr ⟨g', c', cur, e, Nat.le_trans BB.out.size hb, h⟩
      · exact BB.out.trans (t3.below (fun k hk => by have := B3.out.size; omega) BB.out.size)
    have FF := Lib.hid FINAL
    clear t1 t2 t3 FINAL HTU
    go_wp2
    go_quiet (fail)
    go_wp2
    refine bodyPost_ret (v := .tuple #[.slice (some ⟨g, 0, none⟩) s.length cap8, .bool (!st), .int .i64 0]) (by simp [results, Tryz.results61, go_sem]) rfl ⟨_, by rw [HE.out.1, HE.out.2.2], by rw [HE.out.1, HE.out.2.1]; exact FF.out.1.drewN _, FF.out.2.trans ⟨rfl, rfl, rfl, Nat.le_refl _, fun _ _ => rfl⟩⟩
  · have B7 : Below w4.heap.size w4 (w6.alloc (.cells #[.bool RM] 4)) := g6.alloc g6.size _
    have o7 : obj (w6.alloc (.cells #[.bool RM] 4)) w6.heap.size = some (.cells #[.bool RM] 4 (0, 0)) := obj_alloc_at _ _ _ rfl
    clear g6 c6 B6 b6
    generalize (w6.alloc (.cells #[.bool RM] 4)) = w7 at *
    have BB := Lib.hid (B3.out.trans (B7.mono B3.out.size))
    have r1 := (obj_below B7 (lt_of_obj p1')).trans p1'
    have r2 := (obj_below B7 (lt_of_obj p2')).trans p2'
    have r3 := (obj_below B7 (lt_of_obj p3)).trans p3
    have HTU := Lib.hid (turned_any w7 _ s i (HS2.out.below BB.out) hi (by have := HL.out; omega) 111 #[.pointer (some ⟨w.heap.size + 1, 0, none⟩), .pointer (some ⟨w.heap.size, 0, none⟩), .pointer (some ⟨w6.heap.size, 0, none⟩), .pointer (some ⟨cb, 0, none⟩)] eg44 (FailPost w7 s i (nSeat r s[i] now RM) cb (!stays r s[i] now RM)) (fun W g cap cur x1 x2 x3 x4 x5 x6 x7 => failed_cl w7 s i hi (w.heap.size + 1) w.heap.size w6.heap.size cb r now RM HRE.out (List.all_eq_true.1 HALL.out _ (List.getElem_mem hi)) hn0 hn1 r2 r1 o7 r3 W g cap cur x1 x2 x3 x4 x5 x6 x7))
    generalize hyy : nSeat r s[i] now RM = yy at *
    generalize hst : stays r s[i] now RM = st at *
    have HE := Lib.hid (And.intro HRMH.out (And.intro hyy hst))
    clear hyy hst
    clear B7 o7 r1 r2 r3
    go_wp2_with fail
    refine HTU.out.mono ?_
    rintro e w8 ⟨g, cap8, rfl, t1, t2, t3⟩
    have cc : w8.cell? ⟨cb, 0, none⟩ = some (.bool (!st)) := cell_at t2 0
    have FINAL : OwnS w8 w.heap.size 138 3 stL (.slice (some ⟨g, 0, none⟩) s.length cap8) (s.set i yy) ∧ Below w.heap.size w w8 := by
      refine ⟨⟨⟨t1.1.1, ?_⟩, t1.2⟩, ?_⟩
      · rcases t1.1.2 with h | ⟨g', c', cur, e, hb, h⟩
        · exact .inl h
        · exact .inr ⟨g', c', cur, e, Nat.le_trans BB.out.size hb, h⟩
      · exact BB.out.trans (t3.below (fun k hk => by have := B3.out.size; omega) BB.out.size)
    have FF := Lib.hid FINAL
    clear t1 t2 t3 FINAL HTU
    go_wp2
    go_quiet (fail)
    go_wp2
    refine bodyPost_ret (v := .tuple #[.slice (some ⟨g, 0, none⟩) s.length cap8, .bool (!st), .int .i64 0]) (by simp [results, Tryz.results61, go_sem]) rfl ⟨_, by rw [HE.out.1, HE.out.2.2], by rw [HE.out.1, HE.out.2.1]; exact FF.out.1.drewN _, FF.out.2.trans ⟨rfl, rfl, rfl, Nat.le_refl _, fun _ _ => rfl⟩⟩
  · have B7 : Below w4.heap.size w4 (w6.setCell ⟨w5.heap.size, 0, none⟩ (.bool RM)) := g6.setCell g5.size _
    have o7 : obj (w6.setCell ⟨w5.heap.size, 0, none⟩ (.bool RM)) w5.heap.size = some (.cells #[.bool RM] 4 (0, 0)) := obj_setCell_at _ k6
    clear g6 c6 B6 b6
    generalize (w6.setCell ⟨w5.heap.size, 0, none⟩ (.bool RM)) = w7 at *
    have BB := Lib.hid (B3.out.trans (B7.mono B3.out.size))
    have r1 := (obj_below B7 (lt_of_obj p1')).trans p1'
    have r2 := (obj_below B7 (lt_of_obj p2')).trans p2'
    have r3 := (obj_below B7 (lt_of_obj p3)).trans p3
    have HTU := Lib.hid (turned_any w7 _ s i (HS2.out.below BB.out) hi (by have := HL.out; omega) 111 #[.pointer (some ⟨w.heap.size + 1, 0, none⟩), .pointer (some ⟨w.heap.size, 0, none⟩), .pointer (some ⟨w5.heap.size, 0, none⟩), .pointer (some ⟨cb, 0, none⟩)] eg44 (FailPost w7 s i (nSeat r s[i] now RM) cb (!stays r s[i] now RM)) (fun W g cap cur x1 x2 x3 x4 x5 x6 x7 => failed_cl w7 s i hi (w.heap.size + 1) w.heap.size w5.heap.size cb r now RM HRE.out (List.all_eq_true.1 HALL.out _ (List.getElem_mem hi)) hn0 hn1 r2 r1 o7 r3 W g cap cur x1 x2 x3 x4 x5 x6 x7))
    generalize hyy : nSeat r s[i] now RM = yy at *
    generalize hst : stays r s[i] now RM = st at *
    have HE := Lib.hid (And.intro HRMH.out (And.intro hyy hst))
    clear hyy hst
    clear B7 o7 r1 r2 r3
    go_wp2_with fail
    refine HTU.out.mono ?_
    rintro e w8 ⟨g, cap8, rfl, t1, t2, t3⟩
    have cc : w8.cell? ⟨cb, 0, none⟩ = some (.bool (!st)) := cell_at t2 0
    have FINAL : OwnS w8 w.heap.size 138 3 stL (.slice (some ⟨g, 0, none⟩) s.length cap8) (s.set i yy) ∧ Below w.heap.size w w8 := by
      refine ⟨⟨⟨t1.1.1, ?_⟩, t1.2⟩, ?_⟩
      · rcases t1.1.2 with h | ⟨g', c', cur, e, hb, h⟩
        · exact .inl h
        · exact .inr ⟨g', c', cur, e, Nat.le_trans BB.out.size hb, h⟩
      · exact BB.out.trans (t3.below (fun k hk => by have := B3.out.size; omega) BB.out.size)
    have FF := Lib.hid FINAL
    clear t1 t2 t3 FINAL HTU
    go_wp2
    go_quiet (fail)
    go_wp2
    refine bodyPost_ret (v := .tuple #[.slice (some ⟨g, 0, none⟩) s.length cap8, .bool (!st), .int .i64 0]) (by simp [results, Tryz.results61, go_sem]) rfl ⟨_, by rw [HE.out.1, HE.out.2.2], by rw [HE.out.1, HE.out.2.1]; exact FF.out.1.drewN _, FF.out.2.trans ⟨rfl, rfl, rfl, Nat.le_refl _, fun _ _ => rfl⟩⟩
  · have B7 : Below w4.heap.size w4 (w6.setCell ⟨w4.heap.size, 0, none⟩ (.bool RM)) := g6.setCell (Nat.le_refl _) _
    have o7 : obj (w6.setCell ⟨w4.heap.size, 0, none⟩ (.bool RM)) w4.heap.size = some (.cells #[.bool RM] 4 (0, 0)) := obj_setCell_at _ k6
    clear g6 c6 B6 b6
    generalize (w6.setCell ⟨w4.heap.size, 0, none⟩ (.bool RM)) = w7 at *
    have BB := Lib.hid (B3.out.trans (B7.mono B3.out.size))
    have r1 := (obj_below B7 (lt_of_obj p1')).trans p1'
    have r2 := (obj_below B7 (lt_of_obj p2')).trans p2'
    have r3 := (obj_below B7 (lt_of_obj p3)).trans p3
    have HTU := Lib.hid (turned_any w7 _ s i (HS2.out.below BB.out) hi (by have := HL.out; omega) 111 #[.pointer (some ⟨w.heap.size + 1, 0, none⟩), .pointer (some ⟨w.heap.size, 0, none⟩), .pointer (some ⟨w4.heap.size, 0, none⟩), .pointer (some ⟨cb, 0, none⟩)] eg44 (FailPost w7 s i (nSeat r s[i] now RM) cb (!stays r s[i] now RM)) (fun W g cap cur x1 x2 x3 x4 x5 x6 x7 => failed_cl w7 s i hi (w.heap.size + 1) w.heap.size w4.heap.size cb r now RM HRE.out (List.all_eq_true.1 HALL.out _ (List.getElem_mem hi)) hn0 hn1 r2 r1 o7 r3 W g cap cur x1 x2 x3 x4 x5 x6 x7))
    generalize hyy : nSeat r s[i] now RM = yy at *
    generalize hst : stays r s[i] now RM = st at *
    have HE := Lib.hid (And.intro HRMH.out (And.intro hyy hst))
    clear hyy hst
    clear B7 o7 r1 r2 r3
    go_wp2_with fail
    refine HTU.out.mono ?_
    rintro e w8 ⟨g, cap8, rfl, t1, t2, t3⟩
    have cc : w8.cell? ⟨cb, 0, none⟩ = some (.bool (!st)) := cell_at t2 0
    have FINAL : OwnS w8 w.heap.size 138 3 stL (.slice (some ⟨g, 0, none⟩) s.length cap8) (s.set i yy) ∧ Below w.heap.size w w8 := by
      refine ⟨⟨⟨t1.1.1, ?_⟩, t1.2⟩, ?_⟩
      · rcases t1.1.2 with h | ⟨g', c', cur, e, hb, h⟩
        · exact .inl h
        · exact .inr ⟨g', c', cur, e, Nat.le_trans BB.out.size hb, h⟩
      · exact BB.out.trans (t3.below (fun k hk => by have := B3.out.size; omega) BB.out.size)
    have FF := Lib.hid FINAL
    clear t1 t2 t3 FINAL HTU
    go_wp2
    go_quiet (fail)
    go_wp2
    refine bodyPost_ret (v := .tuple #[.slice (some ⟨g, 0, none⟩) s.length cap8, .bool (!st), .int .i64 0]) (by simp [results, Tryz.results61, go_sem]) rfl ⟨_, by rw [HE.out.1, HE.out.2.2], by rw [HE.out.1, HE.out.2.1]; exact FF.out.1.drewN _, FF.out.2.trans ⟨rfl, rfl, rfl, Nat.le_refl _, fun _ _ => rfl⟩⟩
end Go.Proofs.YtagpclgappcnbaaGreat.Be
namespace Go.Proofs.YtagpclgappcnbaaGreat.Be
open Go.RowKit

/-! ### plain: a bench behind an act -/
theorem mayB_n {x : St} (h : mayB x = true) : 0 ≤ x.f ∧ x.f ≤ 1000 ∧ 0 ≤ x.s ∧ x.s ≤ 4611686018427387903 ∧ (x.f = 0 → x.s = 0) ∧ 0 ≤ x.u ∧ x.u ≤ 4611686018427387903 := by
  unfold mayB at h
  simp only [Bool.and_eq_true, decide_eq_true_eq, Bool.not_eq_true', Bool.and_eq_false_iff, decide_eq_false_iff_not, Bool.not_eq_false'] at h
  omega
theorem mayB_of {x : St} (h : 0 ≤ x.f ∧ x.f ≤ 1000 ∧ 0 ≤ x.s ∧ x.s ≤ 4611686018427387903 ∧ (x.f = 0 → x.s = 0) ∧ 0 ≤ x.u ∧ x.u ≤ 4611686018427387903) : mayB x = true := by
  unfold mayB
  simp only [Bool.and_eq_true, decide_eq_true_eq, Bool.not_eq_true', Bool.and_eq_false_iff, decide_eq_false_iff_not, Bool.not_eq_false']
  omega
theorem ruleE_n {r : Rul} (h : ruleE r = 0) : 1 ≤ r.f ∧ r.f ≤ 1000 ∧ 0 ≤ r.lo ∧ r.lo ≤ 1099511627776 ∧ 1 ≤ r.fo ∧ r.fo ≤ 1099511627776 ∧ 1 ≤ r.de ∧ 0 ≤ r.nu ∧ r.nu ≤ r.de := by
  unfold ruleE at h
  split at h
  · cases h
  · omega
theorem nSeat_may {r : Rul} {x : St} {now : Int} {room : Bool} (hr : ruleE r = 0) (hx : mayB x = true) (h0 : 0 ≤ now) (h1 : now ≤ 4611686018427387903) : mayB (nSeat r x now room) = true := by
  have h := mayB_n hx
  have hq := ruleE_n hr
  apply mayB_of
  have hf : 1 ≤ nF x ∧ nF x ≤ 1000 := by unfold nF; omega
  have hs : 0 ≤ nS x now ∧ nS x now ≤ 4611686018427387903 := by unfold nS; split <;> omega
  unfold nSeat
  generalize nF x = a at *
  generalize nS x now = b at *
  split
  · refine ⟨?_, ?_, ?_, ?_, ?_, ?_, ?_⟩ <;> simp only <;> omega
  · refine ⟨?_, ?_, ?_, ?_, ?_, ?_, ?_⟩ <;> simp only <;> first | omega | (intro _; omega) | (intro _; rfl)
theorem mayE_set {r : Rul} {l : List Vd} {s : List St} (h : mayE r l s = 0) (i : Nat) {y : St} (hy : mayB y = true) : mayE r l (s.set i y) = 0 := by
  obtain ⟨h1, h2, h3, h4⟩ := mayE_0 h
  unfold mayE
  rw [if_pos]
  refine ⟨h1, h2, by rw [List.length_set]; exact h3, ?_⟩
  rw [List.all_eq_true] at h4 ⊢
  intro x hx
  rcases List.mem_or_eq_of_mem_set hx with hx | rfl
  · exact h4 x hx
  · exact hy
theorem mayE_at {r : Rul} {l : List Vd} {s : List St} (h : mayE r l s = 0) {i : Nat} (hi : i < s.length) : mayB s[i] = true := by
  obtain ⟨_, _, _, h4⟩ := mayE_0 h
  exact List.all_eq_true.1 h4 _ (List.getElem_mem hi)
theorem nSeat_f {r : Rul} {x : St} {now : Int} {room : Bool} (hx : mayB x = true) : (stays r x now room = true → (nSeat r x now room).f ≤ x.f + 1) ∧ (stays r x now room = false → (nSeat r x now room).f = 0 ∧ r.f ≤ x.f + 1) := by
  have h := mayB_n hx
  constructor
  · intro hs
    unfold nSeat
    rw [if_pos hs]
    simp only [nF]
    omega
  · intro hs
    unfold nSeat
    rw [if_neg (by rw [hs]; decide)]
    refine ⟨rfl, ?_⟩
    unfold stays at hs
    simp only [Bool.or_eq_false_iff] at hs
    have h1 := of_decide_eq_false hs.1.1
    unfold nF at h1
    omega
/-- rows of failures told, of validators -/
def RowsI (s : List St) (R : List Int) : Prop := s.length = R.length ∧ ∀ i (h : i < s.length) (h' : i < R.length), s[i].f ≤ R[i]
theorem RowsI.set {s : List St} {R : List Int} (h : RowsI s R) (i : Nat) {y : St} {m : Int} (hm : y.f ≤ m) : RowsI (s.set i y) (R.set i m) := by
  refine ⟨by simp [h.1], fun j hj hj' => ?_⟩
  rw [List.getElem_set, List.getElem_set]
  by_cases e : i = j
  · rw [if_pos e, if_pos e]; exact hm
  · rw [if_neg e, if_neg e]; exact h.2 j (by simpa using hj) (by simpa using hj')
theorem RowsI.mono {s : List St} {R R' : List Int} (h : RowsI s R) (hl : R'.length = R.length) (hm : ∀ i (h : i < R.length) (h' : i < R'.length), R[i] ≤ R'[i]) : RowsI s R' :=
  ⟨h.1.trans hl.symm, fun i hi hi' => Int.le_trans (h.2 i hi (by omega)) (hm i (by omega) hi')⟩
end Go.Proofs.YtagpclgappcnbaaGreat.Be
namespace Go.Proofs.YtagpclgappcnbaaGreat.Be

/-! ### plain: what is benched, in time and behind a turn -/
theorem stk_later {l : List Vd} (h : ∀ x ∈ l, 1 ≤ x.wt) {now now' : Int} (h0 : 0 ≤ now) (hn : now ≤ now') : ∀ (r : List St) (i : Nat), stkF l (blF now' r i) ≤ stkF l (blF now r i) := by
  intro r
  induction r with
  | nil => intro i; exact Int.le_refl _
  | cons x r ih =>
    intro i
    have := ih (i + 1)
    have hw := wtA_pos h (i : Int)
    rw [blF_cons, blF_cons]
    by_cases h1 : 0 ≤ now' ∧ now' < x.u
    · rw [if_pos h1, if_pos (by omega)]; simp only [stkF]; omega
    · rw [if_neg h1]
      split
      · simp only [stkF]; omega
      · exact this
theorem stk_set {l : List Vd} (h : ∀ x ∈ l, 1 ≤ x.wt) (now : Int) (y : St) : ∀ (r : List St) (i j : Nat), stkF l (blF now (r.set j y) i) ≤ stkF l (blF now r i) + wtA l ((i + j : Nat) : Int) := by
  intro r
  induction r with
  | nil => intro i j; simp only [List.set_nil, blF, stkF]; have := wtA_pos h ((i + j : Nat) : Int); omega
  | cons x r ih =>
    intro i j
    cases j with
    | zero =>
      rw [List.set_cons_zero, blF_cons, blF_cons]
      have hw := wtA_pos h ((i : Nat) : Int)
      have he : wtA l ((i + 0 : Nat) : Int) = wtA l (i : Int) := rfl
      split <;> split <;> (try simp only [stkF]) <;> omega
    | succ j =>
      have := ih (i + 1) j
      rw [show i + 1 + j = i + (j + 1) by omega] at this
      rw [List.set_cons_succ, blF_cons, blF_cons]
      split
      · simp only [stkF]; omega
      · exact this
theorem bl_same (now : Int) : ∀ (r : List St) (i j : Nat) (y : St) (hj : j < r.length), y.u = r[j].u → blF now (r.set j y) i = blF now r i := by
  intro r
  induction r with
  | nil => intro i j y hj; simp at hj
  | cons x r ih =>
    intro i j y hj hu
    cases j with
    | zero =>
      rw [List.set_cons_zero, blF_cons, blF_cons]
      simp only [List.getElem_cons_zero] at hu
      rw [hu]
    | succ j =>
      rw [List.set_cons_succ, blF_cons, blF_cons, ih (i + 1) j y (by simpa using hj) (by simpa using hu)]
/-- no more than the share -/
def ShareI (r : Rul) (l : List Vd) (s : List St) (now : Int) : Prop := stkI l s now * r.de ≤ tot l * r.nu
theorem share_later {r : Rul} {l : List Vd} {s : List St} {now now' : Int} (hm : mayE r l s = 0) (h0 : 0 ≤ now) (hn : now ≤ now') (h : ShareI r l s now) : ShareI r l s now' := by
  obtain ⟨hr, hc, hl, _⟩ := mayE_0 hm
  obtain ⟨_, _, _, hw⟩ := chk_32 hc
  obtain ⟨_, _, s2⟩ := wtsF_sum _ _ hw (by decide)
  unfold ShareI at *
  unfold stkI at *
  rw [if_pos ⟨hc, hl⟩] at *
  have h1 := stk_later s2 h0 hn s 0
  have h2 := ruleE_n hr
  exact Int.le_trans (Int.mul_le_mul_of_nonneg_right h1 (by omega)) h
theorem share_same {r : Rul} {l : List Vd} {s : List St} {now : Int} (i : Nat) (hi : i < s.length) {y : St} (hy : y.u = s[i].u) (h : ShareI r l s now) : ShareI r l (s.set i y) now := by
  have hb : blL (s.set i y) now = blL s now := bl_same now s 0 i y hi hy
  unfold ShareI stkI at *
  rw [List.length_set, hb]
  exact h
theorem share_ben {r : Rul} {l : List Vd} {s : List St} {now : Int} (hm : mayE r l s = 0) (i : Nat) (hi : i < s.length) (y : St) (hroom : alI (tot l) (IntKind.i64.wrap (stkI l s now + wtA l i)) r.de r.nu = true) : ShareI r l (s.set i y) now := by
  obtain ⟨hr, hc, hl, _⟩ := mayE_0 hm
  obtain ⟨_, _, _, hw⟩ := chk_32 hc
  obtain ⟨s0, s1, s2⟩ := wtsF_sum _ _ hw (by decide)
  have h2 := ruleE_n hr
  have hk := stk_set s2 now y s 0 i
  rw [Nat.zero_add] at hk
  have k0 := stkF_pos s2 (blL s now)
  have k1 := stkF_le s2 hl (List.prefix_refl (blL s now))
  have hil : i < l.length := by omega
  have hwi : wtA l (i : Int) = l[i].wt := by unfold wtA; simp [List.getD, hil]
  have w0 := wtA_pos s2 (i : Int)
  have w1 : l[i].wt ≤ sumW l := by
    have hle : ∀ (a : List Vd) (k : Nat) (hk : k < a.length), (∀ x ∈ a, 1 ≤ x.wt) → a[k].wt ≤ sumW a := by
      intro a
      induction a with
      | nil => intro k hk; simp at hk
      | cons x a ih =>
        intro k hk ha
        have hx := ha x (by simp)
        have hd := sumW_drop a 0 (fun y hy => ha y (by simp [hy]))
        rw [List.drop_zero] at hd
        cases k with
        | zero => simp only [List.getElem_cons_zero, sumW]; omega
        | succ k =>
          have := ih k (by simpa using hk) (fun y hy => ha y (by simp [hy]))
          simp only [List.getElem_cons_succ, sumW]; omega
    exact hle l i hil s2
  have hs : stkI l s now = stkF l (blL s now) := if_pos ⟨hc, hl⟩
  have hs' : stkI l (s.set i y) now = stkF l (blL (s.set i y) now) := if_pos ⟨hc, by rw [List.length_set]; exact hl⟩
  unfold alI at hroom
  rw [show IntKind.i64.wrap (stkI l s now + wtA l i) = stkI l s now + wtA l i by rw [hs]; simp [IntKind.wrap, IntKind.signed, IntKind.bits]; omega] at hroom
  simp only [Bool.and_eq_true, decide_eq_true_eq] at hroom
  unfold ShareI
  rw [hs']
  rw [hs] at hroom
  exact Int.le_trans (Int.mul_le_mul_of_nonneg_right hk (by omega)) hroom.2
theorem nSeat_u (r : Rul) (x : St) (now : Int) (room : Bool) : (stays r x now room = true → (nSeat r x now room).u = x.u) ∧ (stays r x now room = false → room = true ∧ (nSeat r x now room).u = now + min r.fo (4611686018427387903 - now)) := by
  constructor
  · intro h; unfold nSeat; rw [if_pos h]
  · intro h
    unfold nSeat
    rw [if_neg (by rw [h]; decide)]
    refine ⟨?_, rfl⟩
    unfold stays at h
    simp only [Bool.or_eq_false_iff, Bool.not_eq_false'] at h
    exact h.2
end Go.Proofs.YtagpclgappcnbaaGreat.Be
namespace Go.Proofs.YtagpclgappcnbaaGreat.Be
open Go.RowKit

/-! ### Failed, of one that is benched already; of any -/
set_option maxRecDepth 100000 in
set_option maxHeartbeats 1000000 in
theorem failed_is (w : World) (r : Rul) (v1 v2 : Value) (l : List Vd) (s : List St) (i : Nat) (now : Int) (h : SlIn w v1 2 vdL l) (h2 : SlIn w v2 3 stL s) (hm : mayE r l s = 0) (hi : i < s.length) (hn0 : 0 ≤ now) (hn1 : now ≤ 4611686018427387903) (hnot : isB s (i : Int) now = true) :
    Calls Tryz.prog 61 #[ruV r, v1, v2, .int .i64 i, .int .i64 now] w fun e w' => ∃ v : Value, e = .returned (.tuple #[v, .bool false, .int .i64 0]) ∧ OwnS w' w.heap.size 138 3 stL v s ∧ Below w.heap.size w w' := by
  have b1 : Below w.heap.size w ((w.alloc (.cells (ruC r) 25)).alloc (.cells #[.int .i64 now] 2)) := ((Below.refl _ _).alloc (Nat.le_refl _) _).alloc (by simp) _
  have o1 : obj ((w.alloc (.cells (ruC r) 25)).alloc (.cells #[.int .i64 now] 2)) w.heap.size = some (.cells (ruC r) 25 (0, 0)) := (obj_alloc_past _ _ _ (by simp)).trans (obj_alloc_at _ _ _ rfl)
  have o2 : obj ((w.alloc (.cells (ruC r) 25)).alloc (.cells #[.int .i64 now] 2)) (w.heap.size + 1) = some (.cells #[.int .i64 now] 2 (0, 0)) := obj_alloc_at _ _ _ (by simp)
  have HM := Lib.hid (mayL_any _ r v1 v2 l s (h.below b1) (h2.below b1))
  obtain ⟨hre, hc, hl, hall⟩ := mayE_0 hm
  obtain ⟨_, hl32, _, _⟩ := chk_32 hc
  have HS2 := Lib.hid h2
  rw [hm] at HM
  obtain ⟨oa, cap, rfl, g1, g2, g3⟩ := h
  unfold maxLen at g2
  obtain ⟨oa2, cap2, rfl, k1, k2, k3⟩ := h2
  unfold maxLen at k2
  have HL := Lib.hid hl
  have hi1 : ¬ (i : Int) < 0 := by omega
  have hi2 : ¬ (l.length : Int) ≤ (i : Int) := by omega
  have hnn : ¬ now < 0 := by omega
  have hnm : ¬ (4611686018427387903 : Int) < now := by omega
  have B1 := Lib.hid b1
  have HNOT := Lib.hid hnot
  clear g3 k3 hm hc hl b1 hre hall hnot
  simp only [ruV, ruC] at *
  go_enter Tryz.func61, Tryz.ntmps61
  go_wp2_with fail
  generalize (w.alloc (.cells #[.int .i64 r.f, .int .i64 r.lo, .int .i64 r.fo, .int .i64 r.nu, .int .i64 r.de] 25)).alloc (.cells #[.int .i64 now] 2) = w1 at *
  refine HM.out.mono ?_
  rintro e w2 ⟨rfl, b2⟩
  have B2 := Lib.hid (B1.out.trans (b2.mono B1.out.size))
  have p1 := (obj_below b2 (lt_of_obj o1)).trans o1
  have p2 := (obj_below b2 (lt_of_obj o2)).trans o2
  have z1 := lt_of_obj p1
  have z2 := lt_of_obj p2
  have q0 : w2.cell? ⟨w.heap.size + 1, 0, none⟩ = some (.int .i64 now) := cell_at p2 0
  have HIS := Lib.hid (is_any w2 _ s (i : Int) now (HS2.out.below B2.out))
  rw [HNOT.out] at HIS
  have HCL := Lib.hid (clone_any w2 _ s (HS2.out.below B2.out) (by omega) (by have := HL.out; omega))
  clear b2 HM o1 o2
  go_wp2_with fail
  refine HIS.out.mono ?_
  rintro e w3 ⟨rfl, rfl⟩
  go_wp2_with fail
  refine HCL.out.mono ?_
  rintro e w3 ⟨v, rfl, q1, q2⟩
  go_wp2
  refine bodyPost_ret (v := .tuple #[v, .bool false, .int .i64 0]) (by simp [results, Tryz.results61, go_sem]) rfl ⟨v, rfl, ?_, B2.out.trans (q2.mono B2.out.size)⟩
  exact ⟨⟨q1.1.1, by
    rcases q1.1.2 with h | ⟨g', c', cur, e, hb, h⟩
    · exact .inl h
    · exact .inr ⟨g', c', cur, e, Nat.le_trans B2.out.size hb, h⟩⟩, q1.2⟩
def roomF (r : Rul) (l : List Vd) (s : List St) (i : Nat) (now : Int) : Bool := alI (tot l) (IntKind.i64.wrap (stkI l s now + wtA l i)) r.de r.nu
def stepF (r : Rul) (l : List Vd) (s : List St) (i : Nat) (now : Int) : List St := if isB s (i : Int) now = true then s else s.set i (nSeat r (s.getD i ⟨0, 0, 0⟩) now (roomF r l s i now))
def benF (r : Rul) (l : List Vd) (s : List St) (i : Nat) (now : Int) : Bool := if isB s (i : Int) now = true then false else !stays r (s.getD i ⟨0, 0, 0⟩) now (roomF r l s i now)
theorem failed_step (w : World) (r : Rul) (v1 v2 : Value) (l : List Vd) (s : List St) (i : Nat) (now : Int) (h : SlIn w v1 2 vdL l) (h2 : SlIn w v2 3 stL s) (hm : mayE r l s = 0) (hi : i < s.length) (hn0 : 0 ≤ now) (hn1 : now ≤ 4611686018427387903) (hde : r.de < 9223372036854775808) :
    Calls Tryz.prog 61 #[ruV r, v1, v2, .int .i64 i, .int .i64 now] w fun e w' => ∃ v : Value, e = .returned (.tuple #[v, .bool (benF r l s i now), .int .i64 0]) ∧ OwnS w' w.heap.size 138 3 stL v (stepF r l s i now) ∧ Below w.heap.size w w' := by
  by_cases hb : isB s (i : Int) now = true
  · have e1 : benF r l s i now = false := if_pos hb
    have e2 : stepF r l s i now = s := if_pos hb
    rw [e1, e2]
    exact failed_is w r v1 v2 l s i now h h2 hm hi hn0 hn1 hb
  · have e1 : benF r l s i now = !stays r (s.getD i ⟨0, 0, 0⟩) now (roomF r l s i now) := if_neg hb
    have e2 : stepF r l s i now = s.set i (nSeat r (s.getD i ⟨0, 0, 0⟩) now (roomF r l s i now)) := if_neg hb
    have hg : s.getD i ⟨0, 0, 0⟩ = s[i] := by simp [List.getD, hi]
    rw [e1, e2, hg]
    exact failed_any w r v1 v2 l s i now h h2 hm hi hn0 hn1 (by simpa using hb) hde
theorem isB_lt {s : List St} {i : Nat} {now : Int} (hi : i < s.length) (hn0 : 0 ≤ now) : isB s (i : Int) now = decide (now < s[i].u) := by
  rw [isB_at s i hi]
  rw [Bool.eq_iff_iff]; simp; omega
theorem stepF_len (r : Rul) (l : List Vd) (s : List St) (i : Nat) (now : Int) : (stepF r l s i now).length = s.length := by unfold stepF; split <;> simp
theorem stepF_may {r : Rul} {l : List Vd} {s : List St} {i : Nat} {now : Int} (hm : mayE r l s = 0) (hi : i < s.length) (hn0 : 0 ≤ now) (hn1 : now ≤ 4611686018427387903) : mayE r l (stepF r l s i now) = 0 := by
  unfold stepF
  split
  · exact hm
  · have hg : s.getD i ⟨0, 0, 0⟩ = s[i] := by simp [List.getD, hi]
    rw [hg]
    exact mayE_set hm i (nSeat_may (mayE_0 hm).1 (mayE_at hm hi) hn0 hn1)
/-- what a failure leaves of the share -/
theorem stepF_share {r : Rul} {l : List Vd} {s : List St} {i : Nat} {now : Int} (hm : mayE r l s = 0) (hi : i < s.length) (h : ShareI r l s now) : ShareI r l (stepF r l s i now) now := by
  unfold stepF
  split
  · exact h
  · have hg : s.getD i ⟨0, 0, 0⟩ = s[i] := by simp [List.getD, hi]
    rw [hg]
    obtain ⟨hu1, hu2⟩ := nSeat_u r s[i] now (roomF r l s i now)
    cases hst : stays r s[i] now (roomF r l s i now) with
    | true => exact share_same i hi (hu1 hst) h
    | false => exact share_ben hm i hi _ (hu2 hst).1
theorem stepF_ben {r : Rul} {l : List Vd} {s : List St} {i : Nat} {now : Int} (hm : mayE r l s = 0) (hi : i < s.length) (hn0 : 0 ≤ now) (hn1 : now < 4611686018427387903) (hb : benF r l s i now = true) : isB (stepF r l s i now) (i : Int) now = true := by
  unfold benF at hb
  split at hb
  · cases hb
  · rename_i hnb
    have hg : s.getD i ⟨0, 0, 0⟩ = s[i] := by simp [List.getD, hi]
    rw [hg] at hb
    have hst : stays r s[i] now (roomF r l s i now) = false := by simpa using hb
    have hu := (nSeat_u r s[i] now (roomF r l s i now)).2 hst
    rw [isB_lt (by rw [stepF_len]; exact hi) hn0]
    have hq := ruleE_n (mayE_0 hm).1
    have e : (stepF r l s i now)[i]'(by rw [stepF_len]; exact hi) = nSeat r s[i] now (roomF r l s i now) := by
      unfold stepF
      simp only [if_neg hnb, hg, List.getElem_set_self]
    rw [e, hu.2]
    simp only [decide_eq_true_eq]
    omega
/-- what a failure leaves of the rows -/
theorem stepF_rows {r : Rul} {l : List Vd} {s : List St} {i : Nat} {now : Int} {R : List Int} (hm : mayE r l s = 0) (hi : i < s.length) (hR : RowsI s R) (hiR : i < R.length) :
    (benF r l s i now = false → isB s (i : Int) now = false → RowsI (stepF r l s i now) (R.set i (R[i] + 1))) ∧ (benF r l s i now = true → r.f ≤ R[i] + 1 ∧ RowsI (stepF r l s i now) ((R.set i (R[i] + 1)).set i 0)) := by
  have hg : s.getD i ⟨0, 0, 0⟩ = s[i] := by simp [List.getD, hi]
  have hx := nSeat_f (r := r) (now := now) (room := roomF r l s i now) (mayE_at hm hi)
  have hle := hR.2 i hi hiR
  constructor
  · intro hb hnb
    have hnb' : ¬ isB s (i : Int) now = true := by rw [hnb]; decide
    unfold benF at hb
    rw [if_neg hnb', hg] at hb
    unfold stepF
    rw [if_neg hnb', hg]
    have := hx.1 (by simpa using hb)
    exact hR.set i (by omega)
  · intro hb
    unfold benF at hb
    split at hb
    · cases hb
    · rename_i hnb
      rw [hg] at hb
      have hst : stays r s[i] now (roomF r l s i now) = false := by simpa using hb
      obtain ⟨h1, h2⟩ := hx.2 hst
      refine ⟨by omega, ?_⟩
      unfold stepF
      rw [if_neg hnb, hg, List.set_set]
      exact hR.set i (by omega)
end Go.Proofs.YtagpclgappcnbaaGreat.Be
