import Derived.Test.YtiknonljdibfgaaWh
import Derived.Test.YtiknonljdibfgaaLive
namespace Go.Proofs.Ytiknonljdibfgaa
open Go.RowKit Go.Shelf

/-- All, told -/
theorem told_all (w : World) (v : Value) (s : List St) (now most : Int) (h : SlIn w v 3 stL s) (hlen : s.length ≤ 4096) {Q : Value → World → Prop}
    (hQ : ∀ lb w1, Below w.heap.size w w1 → (∀ most, Calls Try.prog 30 #[.func (.func 49) #[] #[.pointer (some ⟨lb, 0, none⟩)], .int .i64 most] w1 (RetOwn w1 3 1 iL ((blL s now).take most.toNat))) → Q (.func (.func 49) #[] #[.pointer (some ⟨lb, 0, none⟩)]) w1) :
    Calls Try.prog 31 #[v, .int .i64 now] w fun e w1 => ∃ u, e = .returned u ∧ Q u w1 := by
  refine (all_any w v s now h hlen).mono ?_
  rintro e w1 ⟨lb, sv, rfl, q1, q2, q3, q4⟩
  refine ⟨_, rfl, hQ lb w1 q4 (fun most => ?_)⟩
  exact told_any w1 w1 49 #[.pointer (some ⟨lb, 0, none⟩)] (blL s now) (fun k hk => hk.2) eg49 (values_seq 4 (by decide) (fun k hk => hk.2) (valAt_of q1 q2 q3)) (Agree.refl _ _) (by have : (blL s now).length ≤ s.length := blF_len now s 0; omega) most
theorem bl_take {s : List St} (now : Int) (hlen : s.length ≤ 4096) : (blL s now).take (1048576 : Int).toNat = blL s now := by
  have : (blL s now).length ≤ s.length := blF_len now s 0
  exact List.take_of_length_le (by simp; omega)
set_option maxRecDepth 100000 in
set_option maxHeartbeats 2000000 in
theorem whileLaw_any (w : World) (r : Rul) (v1 v2 : Value) (l : List Vd) (s : List St) (now : Int) (h : SlIn w v1 2 vdL l) (h2 : SlIn w v2 3 stL s) :
    Calls Try.prog 7 #[ruV r, v1, v2, .int .i64 now] w fun e w' => e = .returned (.bool true) ∧ Below w.heap.size w w' := by
  have HS := Lib.hid h
  have HS2 := Lib.hid h2
  have b1 : Below w.heap.size w (w.alloc (.cells (ruC r) 23)) := (Below.refl _ _).alloc (Nat.le_refl _) _
  have o1 : obj (w.alloc (.cells (ruC r) 23)) w.heap.size = some (.cells (ruC r) 23 (0, 0)) := obj_alloc_at _ _ _ rfl
  obtain ⟨oa, cap, rfl, g1, g2, g3⟩ := h
  unfold maxLen at g2
  obtain ⟨oa2, cap2, rfl, k1, k2, k3⟩ := h2
  unfold maxLen at k2
  have HL := Lib.hid (live_any (w.alloc (.cells (ruC r) 23)))
  have HLL := Lib.hid live_any
  have B1 := Lib.hid b1
  have O1 := Lib.hid o1
  have HF := Lib.hid (fun W (hb : Below w.heap.size w W) => few_any W _ l oa2 s.length cap2 (HS.out.below hb))
  clear g3 k3 b1 o1
  simp only [ruV, ruC] at *
  go_enter Try.func7, Try.ntmps7
  go_wp2_with fail
  generalize w.alloc (.cells #[.int .i64 r.f, .int .i64 r.lo, .int .i64 r.fo, .int .i64 r.nu, .int .i64 r.de] 23) = w1 at *
  refine HL.out.mono ?_
  rintro e w2 ⟨rfl, b2⟩
  have B2 := Lib.hid (B1.out.trans (b2.mono B1.out.size))
  have O2 := Lib.hid ((obj_below b2 (lt_of_obj O1.out)).trans O1.out)
  clear b2 B1 O1
  go_wp2_with fail
  refine (HF.out w2 B2.out).mono ?_
  rintro e w3 ⟨rfl, b3⟩
  have B3 := Lib.hid (B2.out.trans (b3.mono B2.out.size))
  have O3 := Lib.hid ((obj_below b3 (lt_of_obj O2.out)).trans O2.out)
  clear b3 B2 O2 HF HL
  cases hfw : fewB l s.length with
  | false =>
    clear hfw
    go_wp2_with fail
    refine (HLL.out w3).mono ?_
    rintro e w4 ⟨rfl, b4⟩
    go_wp2
    go_ret
    exact ⟨rfl, B3.out.trans (b4.mono B3.out.size)⟩
  | true =>
    obtain ⟨_, hl50, hs50⟩ := fewB_t hfw
    have HS50 : Hid (s.length ≤ 4096) := Lib.hid (by omega)
    have HMY := Lib.hid (mayL_any w3 r _ _ l s (HS.out.below B3.out) (HS2.out.below B3.out))
    simp only [ruV] at HMY
    have c0 : w3.cell? ⟨w.heap.size, 0, none⟩ = some (.int .i64 r.f) := cell_at O3.out 0
    have c1 : w3.cell? ⟨w.heap.size, 1, none⟩ = some (.int .i64 r.lo) := cell_at O3.out 1
    have c2 : w3.cell? ⟨w.heap.size, 2, none⟩ = some (.int .i64 r.fo) := cell_at O3.out 2
    have c3 : w3.cell? ⟨w.heap.size, 3, none⟩ = some (.int .i64 r.nu) := cell_at O3.out 3
    have c4 : w3.cell? ⟨w.heap.size, 4, none⟩ = some (.int .i64 r.de) := cell_at O3.out 4
    clear hfw hl50 hs50
    go_wp2_with fail
    refine HMY.out.mono ?_
    rintro e w4 ⟨rfl, b4⟩
    have B4 := Lib.hid (B3.out.trans (b4.mono B3.out.size))
    clear b4 B3 O3 HMY c0 c1 c2 c3 c4
    rcases mayE_cases r l s with hm | hm
    · have HW := Lib.hid (while_all hm now)
      have HX := Lib.hid (fun W (hb : Below w.heap.size w W) => next_any W _ s now (HS2.out.below hb) HS50.out)
      have HK := Lib.hid (fun W n (hb : Below w.heap.size w W) => stake_any W _ _ l s n (HS.out.below hb) (HS2.out.below hb) HS50.out)
      rw [hm]
      have HTL := Lib.hid (fun (W : World) (hb : Below w.heap.size w W) n (Q : Value → World → Prop) hQ => told_all W _ s n 1048576 (HS2.out.below hb) HS50.out (Q := Q) hQ)
      have HBT := Lib.hid (fun n => bl_take (s := s) n HS50.out)
      clear hm
      go_wp2_with fail
      refine (HX.out _ B4.out).mono ?_
      rintro e w5 ⟨rfl, b5⟩
      have B5 := Lib.hid (B4.out.trans (b5.mono B4.out.size))
      clear b5 B4 HX
      generalize nxF s (blL s now) = n at *
      go_wp2_with fail
      refine (HTL.out _ B5.out now (fun u w1 => ∃ lb, u = .func (.func 49) #[] #[.pointer (some ⟨lb, 0, none⟩)] ∧ Below w.heap.size w w1 ∧ ∀ most, Calls Try.prog 30 #[.func (.func 49) #[] #[.pointer (some ⟨lb, 0, none⟩)], .int .i64 most] w1 (RetOwn w1 3 1 iL ((blL s now).take most.toNat))) (fun lb w1 hb hc => ⟨lb, rfl, B5.out.trans (hb.mono B5.out.size), hc⟩)).mono ?_
      rintro e w6 ⟨u, rfl, lb, rfl, b6, hc6⟩
      have HT6 := Lib.hid (hc6 1048576)
      have B6 := Lib.hid b6
      rw [HBT.out] at HT6
      clear b6 hc6 B5
      go_wp2_with fail
      refine HT6.out.mono ?_
      rintro e w7 ⟨v7, rfl, q7, b7⟩
      have B7 := Lib.hid (B6.out.trans (b7.mono B6.out.size))
      have S7 := Lib.hid (q7.slIn iL_length)
      obtain ⟨oa7, cap7, rfl⟩ := q7.slice
      clear b7 B6 q7 HT6
      by_cases h0 : n = 0
      · have HWW := Lib.hid (HW.out.1 h0)
        subst h0
        have hl0 : (blL s now).length = 0 := by rw [HWW.out.1]; rfl
        have HK0 := Lib.hid (HK.out w7 now B7.out)
        rw [HWW.out.2] at HK0
        rw [hl0]
        clear HW hl0
        go_wp2_with fail
        refine HK0.out.mono ?_
        rintro e w8 ⟨rfl, b8⟩
        go_wp2
        go_ret
        exact ⟨rfl, B7.out.trans (b8.mono B7.out.size)⟩
      · have HWW := Lib.hid (HW.out.2 h0)
        have e0 : (n == 0) = false := by simpa using h0
        have hnow : now < n := HWW.out.1
        have hnM : 0 ≤ now ∧ n ≤ 4611686018427387903 := ⟨HWW.out.2.1, HWW.out.2.2.1⟩
        have hne : ¬ ((blL s now).length : Int) = 0 := by
          have := HWW.out.2.2.2.1
          intro h
          exact this (List.eq_nil_of_length_eq_zero (by omega))
        have hle : decide (n ≤ now) = false := by simp; omega
        have hne4 : (((blL s now).length : Int) == 0) = false := by simpa using hne
        have hne2 : ¬ (blL s now).length = 0 := by omega
        have hne3 : ¬ blL s now = [] := HWW.out.2.2.2.1
        clear HW h0
        go_wp2_with fail
        refine (HTL.out _ B7.out (n - 1) (fun u w1 => ∃ lb, u = .func (.func 49) #[] #[.pointer (some ⟨lb, 0, none⟩)] ∧ Below w7.heap.size w7 w1 ∧ ∀ most, Calls Try.prog 30 #[.func (.func 49) #[] #[.pointer (some ⟨lb, 0, none⟩)], .int .i64 most] w1 (RetOwn w1 3 1 iL ((blL s (n - 1)).take most.toNat))) (fun lb w1 hb hc => ⟨lb, rfl, hb, hc⟩)).mono ?_
        rintro e w8 ⟨u, rfl, lb8, rfl, b8, hc8⟩
        have HT8 := Lib.hid (hc8 1048576)
        rw [HBT.out, HWW.out.2.2.2.2.1] at HT8
        have S8 := Lib.hid (S7.out.below b8)
        have B8 := Lib.hid (B7.out.trans (b8.mono B7.out.size))
        clear b8 hc8 S7 B7
        go_wp2_with fail
        refine HT8.out.mono ?_
        rintro e w9 ⟨v9, rfl, q9, b9⟩
        have B9 := Lib.hid (B8.out.trans (b9.mono B8.out.size))
        have S9 := Lib.hid (S8.out.below b9)
        have HE := Lib.hid (equalI w9 _ _ _ _ (q9.slIn iL_length) S9.out)
        rw [decide_eq_true rfl] at HE
        clear b9 q9 S8 B8 HT8
        go_wp2_with fail
        refine HE.out.mono ?_
        rintro e w10 ⟨rfl, b10⟩
        have B10 := Lib.hid (B9.out.trans (b10.mono B9.out.size))
        have S10 := Lib.hid (S9.out.below b10)
        clear b10 S9 B9 HE
        go_wp2_with fail
        refine (HTL.out _ B10.out n (fun u w1 => ∃ lb, u = .func (.func 49) #[] #[.pointer (some ⟨lb, 0, none⟩)] ∧ Below w10.heap.size w10 w1 ∧ ∀ most, Calls Try.prog 30 #[.func (.func 49) #[] #[.pointer (some ⟨lb, 0, none⟩)], .int .i64 most] w1 (RetOwn w1 3 1 iL ((blL s n).take most.toNat))) (fun lb w1 hb hc => ⟨lb, rfl, hb, hc⟩)).mono ?_
        rintro e w11 ⟨u, rfl, lb11, rfl, b11, hc11⟩
        have HT11 := Lib.hid (hc11 1048576)
        rw [HBT.out] at HT11
        have S11 := Lib.hid (S10.out.below b11)
        have B11 := Lib.hid (B10.out.trans (b11.mono B10.out.size))
        clear b11 hc11 S10 B10
        go_wp2_with fail
        refine HT11.out.mono ?_
        rintro e w12 ⟨v12, rfl, q12, b12⟩
        have B12 := Lib.hid (B11.out.trans (b12.mono B11.out.size))
        have S12 := Lib.hid (S11.out.below b12)
        have L12 := Lib.hid (q12.slIn iL_length)
        obtain ⟨oa12, cap12, rfl⟩ := q12.slice
        have hlt12 : ((blL s n).length : Int) < ((blL s now).length : Int) := by have := HWW.out.2.2.2.2.2.2.1; omega
        have hsub := Lib.hid HWW.out.2.2.2.2.2.1
        have hst := HWW.out.2.2.2.2.2.2.2
        have HKn := Lib.hid (fun W (hb : Below w12.heap.size w12 W) => HK.out W n (B12.out.trans (hb.mono B12.out.size)))
        have HKw := Lib.hid (fun W (hb : Below w12.heap.size w12 W) => HK.out W now (B12.out.trans (hb.mono B12.out.size)))
        generalize stkI l s n = kn at *
        generalize stkI l s now = kw at *
        generalize blL s n = la at *
        generalize blL s now = lo at *
        clear b12 q12 S11 B11 HT11 HWW HK HTL
        obtain ⟨oa12', cap12', e12, a12, m12, r12⟩ := L12.out
        simp only [Value.slice.injEq] at e12
        obtain ⟨rfl, _, rfl⟩ := e12
        unfold maxLen at m12
        have R12 := Lib.hid r12
        clear r12
        go_wp2
        go_loopw [73] (fun v73 wr => ∃ k : Nat, k ≤ la.length ∧ v73 = .int .i64 k ∧ Hid (w12 = wr)) (fun i _ => la.length - (intOf i).toNat)
        case atStart => exact ⟨0, Nat.zero_le _, rfl, Lib.hid rfl⟩
        case round =>
          obtain ⟨k, hk, rfl, HR⟩ := hrel
          have hr := HR.out
          subst hr
          by_cases hlt : k < la.length
          · obtain ⟨b, off, hoa, hbb, hrow⟩ := R12.out (by omega)
            subst hoa
            have hs1 := hrow k hlt
            rw [Nat.mul_one] at hs1
            have hin := hsub.out _ (List.getElem_mem hlt)
            generalize la[k] = y at *
            have cy : w12.cell? ⟨b, off + k, none⟩ = some (.int .i64 y) := by have := subOf_cell hs1 (j := 0) (by decide); simpa using this
            have HC := Lib.hid (contains_any w12 _ lo y S12.out)
            rw [decide_eq_true hin] at HC
            clear hrow hs1 hin
            go_wp2_with fail
            refine HC.out.mono ?_
            rintro e w13 ⟨rfl, rfl⟩
            go_wp2
            go_roundw
            case rel => exact ⟨k + 1, by omega, by go_num, HR⟩
            case measure => simp [intOf]; omega
          · have HKN := Lib.hid (HKn.out w12 (Below.refl _ _))
            go_wp2_with fail
            refine HKN.out.mono ?_
            rintro e w13 ⟨rfl, b13⟩
            have HKW := Lib.hid (HKw.out w13 b13)
            have B13 := Lib.hid (B12.out.trans (b13.mono B12.out.size))
            clear b13
            go_wp2_with fail
            refine HKW.out.mono ?_
            rintro e w14 ⟨rfl, b14⟩
            go_wp2
            go_ret
            refine ⟨ret_bool ?_, B13.out.trans (b14.mono B13.out.size)⟩
            simp [hst]
    · rw [hm]
      clear hm
      go_wp2_with fail
      refine (HLL.out _).mono ?_
      rintro e w5 ⟨rfl, b5⟩
      go_wp2
      go_ret
      exact ⟨rfl, B4.out.trans (b5.mono B4.out.size)⟩
end Go.Proofs.Ytiknonljdibfgaa
