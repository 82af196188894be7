import Derived.Test.YtiknonljdibfgaaTimes
namespace Go.Proofs.Ytiknonljdibfgaa
open Go.RowKit

theorem val_lt_iff {L M : List Int} (hl : DigOK L) (hm : DigOK M) (he : L.length = M.length) (j : Nat) (hj : j < L.length) (ht : val (L.drop (j + 1)) = val (M.drop (j + 1))) (hne : ¬ L[j] = M[j]'(by omega)) : decide (M[j]'(by omega) < L[j]) = decide (val M ≤ val L) := by
  have h1 := val_drop L j hj
  have h2 := val_drop M j (by omega)
  by_cases h : M[j]'(by omega) < L[j]
  · have := val_gt hl hm he j (by omega) (by omega)
    rw [decide_eq_true h, decide_eq_true (by omega)]
  · have := val_gt hm hl he.symm j (by omega) (by omega)
    rw [decide_eq_false h, decide_eq_false (by omega)]
set_option maxRecDepth 100000 in
set_option maxHeartbeats 2000000 in
/-- flurryref05.AtLeast -/
theorem leastB (w : World) (s t n d : Int) (hs0 : 0 ≤ s) (hs1 : s < 9223372036854775808) (ht0 : 0 ≤ t) (ht1 : t < 9223372036854775808) (hn0 : 0 ≤ n) (hn1 : n < 9223372036854775808) (hd0 : 1 ≤ d) (hd1 : d < 9223372036854775808) :
    Calls Try.prog 16 #[.int .i64 s, .int .i64 t, .int .i64 n, .int .i64 d] w fun e w' => e = .returned (.bool (decide (t * n ≤ s * d))) ∧ Below w.heap.size w w' := by
  have H1 := Lib.hid (times_any w s d hs0 hs1 (by omega) hd1)
  have H2 := Lib.hid (fun W => times_any W t n ht0 ht1 hn0 hn1)
  have hs0' : ¬ s < 0 := by omega
  have ht0' : ¬ t < 0 := by omega
  have hn0' : ¬ n < 0 := by omega
  have hd0' : ¬ d < 1 := by omega
  clear hs0 ht0 hn0 hd0 hs1 ht1 hn1 hd1
  go_enter Try.func16, Try.ntmps16
  go_wp2_with fail
  refine H1.out.mono ?_
  rintro e w1 ⟨L, rfl, HL, b1⟩
  go_wp2_with fail
  refine (H2.out w1).mono ?_
  rintro e w2 ⟨M, rfl, HM, b2⟩
  have HB := Lib.hid (b1.trans (b2.mono b1.size))
  have s1 : (rowC L).size = 6 := by rw [rowC_size]; exact HL.out.1
  have s2 : (rowC M).size = 6 := by rw [rowC_size]; exact HM.out.1
  have a1 := rowC_one L
  have a2 := rowC_one M
  clear b1 b2 H1 H2
  go_wp2
  have hb := (HB.out.alloc HB.out.size (.cells (rowC L) 71)).alloc (by have := HB.out.size; simp; omega) (.cells (rowC M) 71)
  have o1 : obj ((w2.alloc (.cells (rowC L) 71)).alloc (.cells (rowC M) 71)) w2.heap.size = some (.cells (rowC L) 71 (0, 0)) := (obj_alloc_past _ _ _ (by simp)).trans (obj_alloc_at _ _ _ rfl)
  have o2 : obj ((w2.alloc (.cells (rowC L) 71)).alloc (.cells (rowC M) 71)) (w2.heap.size + 1) = some (.cells (rowC M) 71 (0, 0)) := obj_alloc_at _ _ _ (by simp)
  generalize (w2.alloc (.cells (rowC L) 71)).alloc (.cells (rowC M) 71) = w3 at *
  generalize w2.heap.size = p at *
  have B3 := Lib.hid hb
  have O1 := Lib.hid o1
  have O2 := Lib.hid o2
  clear hb o1 o2 HB s1 s2 a1 a2
  go_loopw [11] (fun v11 wr => ∃ (m : Nat) (i : Int), m ≤ 6 ∧ v11 = .int .i64 i ∧ i = (m : Int) - 1 ∧ Hid (val (L.drop m) = val (M.drop m)) ∧ Hid (obj wr p = some (.cells (rowC L) 71 (0, 0))) ∧ Hid (obj wr (p + 1) = some (.cells (rowC M) 71 (0, 0))) ∧ Hid (Below w.heap.size w wr)) (fun i _ => (intOf i + 1).toNat)
  case atStart => exact ⟨6, 5, by decide, rfl, rfl, Lib.hid (by rw [List.drop_eq_nil_of_le (by rw [HL.out.1]; decide), List.drop_eq_nil_of_le (by rw [HM.out.1]; decide)]), O1, O2, B3⟩
  case round =>
    obtain ⟨m, i, hm, rfl, hi, HE, G1, G2, GB⟩ := hrel
    clear O1 O2 B3
    by_cases h0 : m = 0
    · have hi' : i = -1 := by omega
      subst hi' h0
      have HV : Hid (decide (t * n ≤ s * d) = true) := Lib.hid (by
        have := HE.out
        rw [List.drop_zero, List.drop_zero, HL.out.2.2, HM.out.2.2] at this
        simp; omega)
      clear hi hm
      go_wp2
      go_ret
      exact ⟨ret_bool HV.out.symm, GB.out⟩
    · obtain ⟨j, rfl⟩ : ∃ j : Nat, m = j + 1 := ⟨m - 1, by omega⟩
      have hij : i = (j : Int) := by omega
      subst hij
      have hjL : j < L.length := by rw [HL.out.1]; omega
      have hjM : j < M.length := by rw [HM.out.1]; omega
      have cl : wr.cell? ⟨p, j, none⟩ = some (.int .i64 L[j]) := by rw [cell_at G1.out, rowC_get L hjL]
      have cm : wr.cell? ⟨p + 1, j, none⟩ = some (.int .i64 M[j]) := by rw [cell_at G2.out, rowC_get M hjM]
      have z1 := lt_of_obj G1.out
      have z2 := lt_of_obj G2.out
      have hj6 : (j : Int) < 6 := by omega
      have hjp : 0 ≤ (j : Int) := by omega
      have HVV := Lib.hid (fun hne => val_lt_iff HL.out.2.1 HM.out.2.1 (HL.out.1.trans HM.out.1.symm) j hjL HE.out hne)
      have HEE : Hid (L[j] = M[j] → val (L.drop j) = val (M.drop j)) := Lib.hid (fun he => by rw [val_drop L j hjL, val_drop M j hjM, he, HE.out])
      generalize L[j] = x at *
      generalize M[j] = y at *
      clear hi h0 hm hjL hjM
      by_cases he : x = y
      · subst he
        have HE2 := Lib.hid (HEE.out rfl)
        clear HVV HEE HE
        go_wp2
        go_quiet (fail)
        go_wp2
        go_roundw
        case rel => exact ⟨j, (j : Int) - 1, by omega, by go_num, rfl, HE2, Lib.hid G1.out, Lib.hid G2.out, Lib.hid (below_drewN GB.out _)⟩
        case measure => simp [intOf]
      · have HV : Hid (decide (y < x) = decide (t * n ≤ s * d)) := Lib.hid (by rw [HVV.out he, HL.out.2.2, HM.out.2.2])
        have he' : (x == y) = false := by simpa using he
        clear HVV HEE HE
        go_wp2
        go_quiet (fail)
        go_wp2
        go_quiet (fail)
        go_wp2
        go_ret
        exact ⟨ret_bool HV.out, below_drewN (below_drewN GB.out _) _⟩
end Go.Proofs.Ytiknonljdibfgaa
