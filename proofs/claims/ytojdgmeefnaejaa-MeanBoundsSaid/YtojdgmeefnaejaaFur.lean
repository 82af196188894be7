import Derived.Test.YtojdgmeefnaejaaBet
namespace Go.Proofs.Ytojdgmeefnaejaa
open Go.RowKit

theorem fur_facts (r : RuleD) (a b : MeanD) (x y now : Int) (hat : a.at_ = b.at_) (o1 o2 o3 : MeanD × Int) (e1 : o1 = obsR r a x now) (e2 : o2 = obsR r a y now) (e3 : o3 = obsR r b x now)
    (z1 : o1.2 = 0) (z2 : o2.2 = 0) (z3 : o3.2 = 0) :
    (x ≤ y → o1.1.value ≤ o2.1.value) ∧ (y ≤ x → o2.1.value ≤ o1.1.value) ∧ (a.value ≤ b.value → o1.1.value ≤ o3.1.value ∧ tmoR r o1.1 ≤ tmoR r o3.1) := by
  subst e1 e2 e3
  unfold obsR at *
  by_cases ha : MeanOk r a
  · by_cases hn : a.at_ ≤ now ∧ now ≤ 4611686018427387903
    · have hn' : b.at_ ≤ now ∧ now ≤ 4611686018427387903 := by rw [← hat]; exact hn
      by_cases hb : MeanOk r b
      · simp only [if_pos ha, if_pos hb, if_pos hn, if_pos hn']
        have hm := fun hv : a.value ≤ b.value => obs_mono_value (x := x) ha hat hn.1 hv
        exact ⟨fun h => obs_mono_took ha hn.1 h, fun h => obs_mono_took ha hn.1 h, fun h => ⟨hm h, tmo_mono (obs_keeps ha hn.1 hn.2) (obs_keeps hb hn'.1 hn'.2) (hm h)⟩⟩
      · rw [if_neg hb] at z3
        simp at z3
    · rw [if_pos ha, if_neg hn] at z1
      simp at z1
  · rw [if_neg ha] at z1
    simp at z1
set_option maxRecDepth 100000 in
set_option maxHeartbeats 4000000 in
theorem fur_eq (r : RuleD) (av bv t : Int) (x y : Int) (w : World) : Calls Try.prog 6 #[ruleV r, meanV ⟨av, t⟩, meanV ⟨bv, t⟩, .int .i64 x, .int .i64 y] w fun e w' => e = .returned (.bool true) ∧ Below w.heap.size w w' := by
  obtain ⟨now, hnow⟩ : ∃ now, now = min (max x t) 4611686018427387903 := ⟨_, rfl⟩
  have hnow' : min (max x t) 4611686018427387903 = now := hnow.symm
  have h1 := fun w => obs_any r ⟨av, t⟩ x now w
  have h2 := fun w => obs_any r ⟨av, t⟩ y now w
  have h3 := fun w => obs_any r ⟨bv, t⟩ x now w
  have hf := fur_facts r ⟨av, t⟩ ⟨bv, t⟩ x y now
  obtain ⟨o1, ho1⟩ : ∃ o, o = obsR r ⟨av, t⟩ x now := ⟨_, rfl⟩
  obtain ⟨o2, ho2⟩ : ∃ o, o = obsR r ⟨av, t⟩ y now := ⟨_, rfl⟩
  obtain ⟨o3, ho3⟩ : ∃ o, o = obsR r ⟨bv, t⟩ x now := ⟨_, rfl⟩
  have hF : o1.2 = 0 → o2.2 = 0 → o3.2 = 0 → _ := hf rfl o1 o2 o3 ho1 ho2 ho3
  rw [← ho1] at h1
  rw [← ho2] at h2
  rw [← ho3] at h3
  clear ho1 ho2 ho3 hf hnow
  obtain ⟨y1, e1⟩ := o1
  obtain ⟨y2, e2⟩ := o2
  obtain ⟨y3, e3⟩ := o3
  have h4 := fun w => tmo_any r y1 w
  have h5 := fun w => tmo_any r y3 w
  simp only at hF h1 h2 h3
  generalize tmoR r y1 = t1 at *
  generalize tmoR r y3 = t3 at *
  simp only [ruleV, meanV] at h1 h2 h3 h4 h5
  have H1 := Lib.hid h1
  have H2 := Lib.hid h2
  have H3 := Lib.hid h3
  have H4 := Lib.hid h4
  have H5 := Lib.hid h5
  have HF := Lib.hid hF
  clear h1 h2 h3 h4 h5 hF
  unfold ruleV meanV
  go_enter Try.func6, Try.ntmps6
  go_wp2_with fail
  refine (live_any _).mono ?_
  rintro _ w1 ⟨rfl, hb1⟩
  have pr := (obj_below hb1 (n := w.heap.size) (by simp; omega)).trans ((by rw [obj_alloc_past _ _ _ (by simp; omega), obj_alloc_past _ _ _ (by simp)]; exact obj_alloc_at _ _ _ rfl) : _ = some (.cells #[.int .i64 r.first, .int .i64 r.min, .int .i64 r.max, .int .i64 r.half, .int .i64 r.quart] 23 (0, 0)))
  have pa := (obj_below hb1 (n := w.heap.size + 1) (by simp)).trans ((by rw [obj_alloc_past _ _ _ (by simp)]; exact obj_alloc_at _ _ _ (by simp)) : _ = some (.cells #[.int .i64 av, .int .i64 t] 25 (0, 0)))
  have pb := (obj_below hb1 (n := w.heap.size + 1 + 1) (by simp)).trans ((obj_alloc_at _ _ _ (by simp)) : _ = some (.cells #[.int .i64 bv, .int .i64 t] 25 (0, 0)))
  have hB : Below w.heap.size w w1 := ((((Below.refl _ _).alloc (Nat.le_refl _) _).alloc (by simp) _).alloc (by simp; omega) _).trans (hb1.mono (by simp; omega))
  clear hb1
  have zpr := lt_of_obj pr
  have prc0 := cell_at pr 0
  have prc1 := cell_at pr 1
  have prc2 := cell_at pr 2
  have prc3 := cell_at pr 3
  have prc4 := cell_at pr 4
  have zpa := lt_of_obj pa
  have pac0 := cell_at pa 0
  have pac1 := cell_at pa 1
  have zpb := lt_of_obj pb
  have pbc0 := cell_at pb 0
  have pbc1 := cell_at pb 1
  simp at prc0 prc1 prc2 prc3 prc4 pac0 pac1 pbc0 pbc1
  go_wp2_with fail
  refine (H1.out _).mono ?_
  rintro _ w2 ⟨rfl, hb2⟩
  have pr' := (obj_below hb2 (n := w.heap.size) zpr).trans pr
  have pa' := (obj_below hb2 (n := (w.heap.size + 1)) zpa).trans pa
  have pb' := (obj_below hb2 (n := (w.heap.size + 1 + 1)) zpb).trans pb
  have hB2 : Below w.heap.size w w2 := hB.trans (hb2.mono hB.size)
  clear hb2
  clear zpr prc0 prc1 prc2 prc3 prc4 zpa pac0 pac1 zpb pbc0 pbc1
  clear pr pa pb
  have zpr' := lt_of_obj pr'
  have pr'c0 := cell_at pr' 0
  have pr'c1 := cell_at pr' 1
  have pr'c2 := cell_at pr' 2
  have pr'c3 := cell_at pr' 3
  have pr'c4 := cell_at pr' 4
  have zpa' := lt_of_obj pa'
  have pa'c0 := cell_at pa' 0
  have pa'c1 := cell_at pa' 1
  have zpb' := lt_of_obj pb'
  have pb'c0 := cell_at pb' 0
  have pb'c1 := cell_at pb' 1
  simp at pr'c0 pr'c1 pr'c2 pr'c3 pr'c4 pa'c0 pa'c1 pb'c0 pb'c1
  go_wp2_with fail
  refine (H2.out _).mono ?_
  rintro _ w3 ⟨rfl, hb3⟩
  have pr'' := (obj_below hb3 (n := w.heap.size) (by simp; omega)).trans ((obj_alloc_past _ _ _ zpr').trans pr')
  have pa'' := (obj_below hb3 (n := (w.heap.size + 1)) (by simp; omega)).trans ((obj_alloc_past _ _ _ zpa').trans pa')
  have pb'' := (obj_below hb3 (n := (w.heap.size + 1 + 1)) (by simp; omega)).trans ((obj_alloc_past _ _ _ zpb').trans pb')
  have py := (obj_below hb3 (n := w2.heap.size) (by simp)).trans ((obj_alloc_at _ _ _ rfl) : _ = some (.cells #[.int .i64 y1.value, .int .i64 y1.at_] 25 (0, 0)))
  have hB3 : Below w.heap.size w w3 := (hB2.alloc hB2.size _).trans (hb3.mono (by have := hB2.size; simp; omega))
  clear hb3
  clear zpr' pr'c0 pr'c1 pr'c2 pr'c3 pr'c4 zpa' pa'c0 pa'c1 zpb' pb'c0 pb'c1
  clear pr' pa' pb'
  have zpr'' := lt_of_obj pr''
  have pr''c0 := cell_at pr'' 0
  have pr''c1 := cell_at pr'' 1
  have pr''c2 := cell_at pr'' 2
  have pr''c3 := cell_at pr'' 3
  have pr''c4 := cell_at pr'' 4
  have zpa'' := lt_of_obj pa''
  have pa''c0 := cell_at pa'' 0
  have pa''c1 := cell_at pa'' 1
  have zpb'' := lt_of_obj pb''
  have pb''c0 := cell_at pb'' 0
  have pb''c1 := cell_at pb'' 1
  have zpy := lt_of_obj py
  have pyc0 := cell_at py 0
  have pyc1 := cell_at py 1
  simp at pr''c0 pr''c1 pr''c2 pr''c3 pr''c4 pa''c0 pa''c1 pb''c0 pb''c1 pyc0 pyc1
  go_wp2_with fail
  refine (H3.out _).mono ?_
  rintro _ w4 ⟨rfl, hb4⟩
  have pr''' := (obj_below hb4 (n := w.heap.size) (by simp; omega)).trans ((obj_alloc_past _ _ _ zpr'').trans pr'')
  have pa''' := (obj_below hb4 (n := (w.heap.size + 1)) (by simp; omega)).trans ((obj_alloc_past _ _ _ zpa'').trans pa'')
  have pb''' := (obj_below hb4 (n := (w.heap.size + 1 + 1)) (by simp; omega)).trans ((obj_alloc_past _ _ _ zpb'').trans pb'')
  have py' := (obj_below hb4 (n := w2.heap.size) (by simp; omega)).trans ((obj_alloc_past _ _ _ zpy).trans py)
  have pz := (obj_below hb4 (n := w3.heap.size) (by simp)).trans ((obj_alloc_at _ _ _ rfl) : _ = some (.cells #[.int .i64 y2.value, .int .i64 y2.at_] 25 (0, 0)))
  have hB4 : Below w.heap.size w w4 := (hB3.alloc hB3.size _).trans (hb4.mono (by have := hB3.size; simp; omega))
  clear hb4
  clear zpr'' pr''c0 pr''c1 pr''c2 pr''c3 pr''c4 zpa'' pa''c0 pa''c1 zpb'' pb''c0 pb''c1 zpy pyc0 pyc1
  clear pr'' pa'' pb'' py
  have zpr''' := lt_of_obj pr'''
  have pr'''c0 := cell_at pr''' 0
  have pr'''c1 := cell_at pr''' 1
  have pr'''c2 := cell_at pr''' 2
  have pr'''c3 := cell_at pr''' 3
  have pr'''c4 := cell_at pr''' 4
  have zpa''' := lt_of_obj pa'''
  have pa'''c0 := cell_at pa''' 0
  have pa'''c1 := cell_at pa''' 1
  have zpb''' := lt_of_obj pb'''
  have pb'''c0 := cell_at pb''' 0
  have pb'''c1 := cell_at pb''' 1
  have zpy' := lt_of_obj py'
  have py'c0 := cell_at py' 0
  have py'c1 := cell_at py' 1
  have zpz := lt_of_obj pz
  have pzc0 := cell_at pz 0
  have pzc1 := cell_at pz 1
  simp at pr'''c0 pr'''c1 pr'''c2 pr'''c3 pr'''c4 pa'''c0 pa'''c1 pb'''c0 pb'''c1 py'c0 py'c1 pzc0 pzc1
  by_cases hz : e1 = 0 ∧ e2 = 0 ∧ e3 = 0
  · obtain ⟨rfl, rfl, rfl⟩ := hz
    obtain ⟨f1, f2, f3⟩ := HF.out rfl rfl rfl
    clear HF
    rcases Int.lt_trichotomy x y with hxy | hxy | hxy
    · have f1' := f1 (by omega)
      clear f1 f2
      by_cases hv : av ≤ bv
      · obtain ⟨f4, f5⟩ := f3 hv
        have g1 : decide (bv < av) = false := by simp; omega
        have g2 : decide (y1.value ≤ y3.value) = true := by simp; omega
        have g3 : decide (t1 ≤ t3) = true := by simp; omega
        clear f3
        go_wp2_with fail
        all_goals first
          | (exfalso; omega)
          | skip
        have pr'''q := (obj_alloc_past w4 (.cells #[.int .i64 y3.value, .int .i64 y3.at_] 25 (0, 0)) _ zpr''').trans pr'''
        have pa'''q := (obj_alloc_past w4 (.cells #[.int .i64 y3.value, .int .i64 y3.at_] 25 (0, 0)) _ zpa''').trans pa'''
        have pb'''q := (obj_alloc_past w4 (.cells #[.int .i64 y3.value, .int .i64 y3.at_] 25 (0, 0)) _ zpb''').trans pb'''
        have py'q := (obj_alloc_past w4 (.cells #[.int .i64 y3.value, .int .i64 y3.at_] 25 (0, 0)) _ zpy').trans py'
        have pzq := (obj_alloc_past w4 (.cells #[.int .i64 y3.value, .int .i64 y3.at_] 25 (0, 0)) _ zpz).trans pz
        have pwq : obj (w4.alloc (.cells #[.int .i64 y3.value, .int .i64 y3.at_] 25 (0, 0))) w4.heap.size = some (.cells #[.int .i64 y3.value, .int .i64 y3.at_] 25 (0, 0)) := obj_alloc_at _ _ _ rfl
        have hB5 : Below w.heap.size w (w4.alloc (.cells #[.int .i64 y3.value, .int .i64 y3.at_] 25 (0, 0))) := hB4.alloc hB4.size _
        generalize w4.alloc (.cells #[.int .i64 y3.value, .int .i64 y3.at_] 25 (0, 0)) = w5 at *
        clear zpr''' pr'''c0 pr'''c1 pr'''c2 pr'''c3 pr'''c4 zpa''' pa'''c0 pa'''c1 zpb''' pb'''c0 pb'''c1 zpy' py'c0 py'c1 zpz pzc0 pzc1
        clear pr''' pa''' pb''' py' pz
        have zpr'''q := lt_of_obj pr'''q
        have pr'''qc0 := cell_at pr'''q 0
        have pr'''qc1 := cell_at pr'''q 1
        have pr'''qc2 := cell_at pr'''q 2
        have pr'''qc3 := cell_at pr'''q 3
        have pr'''qc4 := cell_at pr'''q 4
        have zpa'''q := lt_of_obj pa'''q
        have pa'''qc0 := cell_at pa'''q 0
        have pa'''qc1 := cell_at pa'''q 1
        have zpb'''q := lt_of_obj pb'''q
        have pb'''qc0 := cell_at pb'''q 0
        have pb'''qc1 := cell_at pb'''q 1
        have zpy'q := lt_of_obj py'q
        have py'qc0 := cell_at py'q 0
        have py'qc1 := cell_at py'q 1
        have zpzq := lt_of_obj pzq
        have pzqc0 := cell_at pzq 0
        have pzqc1 := cell_at pzq 1
        have zpwq := lt_of_obj pwq
        have pwqc0 := cell_at pwq 0
        have pwqc1 := cell_at pwq 1
        simp at pr'''qc0 pr'''qc1 pr'''qc2 pr'''qc3 pr'''qc4 pa'''qc0 pa'''qc1 pb'''qc0 pb'''qc1 py'qc0 py'qc1 pzqc0 pzqc1 pwqc0 pwqc1
        refine wp_region_later w5 (Below.refl _ _) (by kernel_rfl) (by kernel_rfl) ?_
        repeat (go_big_quiet_step (first
          | (go_at_call 16; with_reducible exact Calls.later (H4.out _))
          | (go_at_call 16; with_reducible exact Calls.later (H5.out _))))
        refine wpQuiet_nil ?_
        intro _ hx
        obtain ⟨⟨w7, hb7⟩, hx⟩ := hx
        subst hx
        rename_i w7
        go_wp2_with fail
        go_ret
        exact ⟨rfl, hB5.trans (hb7.mono hB5.size)⟩
      · have g1 : decide (bv < av) = true := by simp; omega
        clear f3
        go_wp2_with fail
        all_goals first
          | (exfalso; omega)
          | skip
        have pr'''q := (obj_alloc_past w4 (.cells #[.int .i64 y3.value, .int .i64 y3.at_] 25 (0, 0)) _ zpr''').trans pr'''
        have pa'''q := (obj_alloc_past w4 (.cells #[.int .i64 y3.value, .int .i64 y3.at_] 25 (0, 0)) _ zpa''').trans pa'''
        have pb'''q := (obj_alloc_past w4 (.cells #[.int .i64 y3.value, .int .i64 y3.at_] 25 (0, 0)) _ zpb''').trans pb'''
        have py'q := (obj_alloc_past w4 (.cells #[.int .i64 y3.value, .int .i64 y3.at_] 25 (0, 0)) _ zpy').trans py'
        have pzq := (obj_alloc_past w4 (.cells #[.int .i64 y3.value, .int .i64 y3.at_] 25 (0, 0)) _ zpz).trans pz
        have pwq : obj (w4.alloc (.cells #[.int .i64 y3.value, .int .i64 y3.at_] 25 (0, 0))) w4.heap.size = some (.cells #[.int .i64 y3.value, .int .i64 y3.at_] 25 (0, 0)) := obj_alloc_at _ _ _ rfl
        have hB5 : Below w.heap.size w (w4.alloc (.cells #[.int .i64 y3.value, .int .i64 y3.at_] 25 (0, 0))) := hB4.alloc hB4.size _
        generalize w4.alloc (.cells #[.int .i64 y3.value, .int .i64 y3.at_] 25 (0, 0)) = w5 at *
        clear zpr''' pr'''c0 pr'''c1 pr'''c2 pr'''c3 pr'''c4 zpa''' pa'''c0 pa'''c1 zpb''' pb'''c0 pb'''c1 zpy' py'c0 py'c1 zpz pzc0 pzc1
        clear pr''' pa''' pb''' py' pz
        have zpr'''q := lt_of_obj pr'''q
        have pr'''qc0 := cell_at pr'''q 0
        have pr'''qc1 := cell_at pr'''q 1
        have pr'''qc2 := cell_at pr'''q 2
        have pr'''qc3 := cell_at pr'''q 3
        have pr'''qc4 := cell_at pr'''q 4
        have zpa'''q := lt_of_obj pa'''q
        have pa'''qc0 := cell_at pa'''q 0
        have pa'''qc1 := cell_at pa'''q 1
        have zpb'''q := lt_of_obj pb'''q
        have pb'''qc0 := cell_at pb'''q 0
        have pb'''qc1 := cell_at pb'''q 1
        have zpy'q := lt_of_obj py'q
        have py'qc0 := cell_at py'q 0
        have py'qc1 := cell_at py'q 1
        have zpzq := lt_of_obj pzq
        have pzqc0 := cell_at pzq 0
        have pzqc1 := cell_at pzq 1
        have zpwq := lt_of_obj pwq
        have pwqc0 := cell_at pwq 0
        have pwqc1 := cell_at pwq 1
        simp at pr'''qc0 pr'''qc1 pr'''qc2 pr'''qc3 pr'''qc4 pa'''qc0 pa'''qc1 pb'''qc0 pb'''qc1 py'qc0 py'qc1 pzqc0 pzqc1 pwqc0 pwqc1
        refine wp_region_later w5 (Below.refl _ _) (by kernel_rfl) (by kernel_rfl) ?_
        repeat (go_big_quiet_step (first
          | (go_at_call 16; with_reducible exact Calls.later (H4.out _))
          | (go_at_call 16; with_reducible exact Calls.later (H5.out _))))
        refine wpQuiet_nil ?_
        intro _ hx
        obtain ⟨⟨w7, hb7⟩, hx⟩ := hx
        subst hx
        rename_i w7
        go_wp2_with fail
        go_ret
        exact ⟨rfl, hB5.trans (hb7.mono hB5.size)⟩
    · have f1' := f1 (by omega)
      have f2' := f2 (by omega)
      clear f1 f2
      by_cases hv : av ≤ bv
      · obtain ⟨f4, f5⟩ := f3 hv
        have g1 : decide (bv < av) = false := by simp; omega
        have g2 : decide (y1.value ≤ y3.value) = true := by simp; omega
        have g3 : decide (t1 ≤ t3) = true := by simp; omega
        clear f3
        go_wp2_with fail
        all_goals first
          | (exfalso; omega)
          | skip
        have pr'''q := (obj_alloc_past w4 (.cells #[.int .i64 y3.value, .int .i64 y3.at_] 25 (0, 0)) _ zpr''').trans pr'''
        have pa'''q := (obj_alloc_past w4 (.cells #[.int .i64 y3.value, .int .i64 y3.at_] 25 (0, 0)) _ zpa''').trans pa'''
        have pb'''q := (obj_alloc_past w4 (.cells #[.int .i64 y3.value, .int .i64 y3.at_] 25 (0, 0)) _ zpb''').trans pb'''
        have py'q := (obj_alloc_past w4 (.cells #[.int .i64 y3.value, .int .i64 y3.at_] 25 (0, 0)) _ zpy').trans py'
        have pzq := (obj_alloc_past w4 (.cells #[.int .i64 y3.value, .int .i64 y3.at_] 25 (0, 0)) _ zpz).trans pz
        have pwq : obj (w4.alloc (.cells #[.int .i64 y3.value, .int .i64 y3.at_] 25 (0, 0))) w4.heap.size = some (.cells #[.int .i64 y3.value, .int .i64 y3.at_] 25 (0, 0)) := obj_alloc_at _ _ _ rfl
        have hB5 : Below w.heap.size w (w4.alloc (.cells #[.int .i64 y3.value, .int .i64 y3.at_] 25 (0, 0))) := hB4.alloc hB4.size _
        generalize w4.alloc (.cells #[.int .i64 y3.value, .int .i64 y3.at_] 25 (0, 0)) = w5 at *
        clear zpr''' pr'''c0 pr'''c1 pr'''c2 pr'''c3 pr'''c4 zpa''' pa'''c0 pa'''c1 zpb''' pb'''c0 pb'''c1 zpy' py'c0 py'c1 zpz pzc0 pzc1
        clear pr''' pa''' pb''' py' pz
        have zpr'''q := lt_of_obj pr'''q
        have pr'''qc0 := cell_at pr'''q 0
        have pr'''qc1 := cell_at pr'''q 1
        have pr'''qc2 := cell_at pr'''q 2
        have pr'''qc3 := cell_at pr'''q 3
        have pr'''qc4 := cell_at pr'''q 4
        have zpa'''q := lt_of_obj pa'''q
        have pa'''qc0 := cell_at pa'''q 0
        have pa'''qc1 := cell_at pa'''q 1
        have zpb'''q := lt_of_obj pb'''q
        have pb'''qc0 := cell_at pb'''q 0
        have pb'''qc1 := cell_at pb'''q 1
        have zpy'q := lt_of_obj py'q
        have py'qc0 := cell_at py'q 0
        have py'qc1 := cell_at py'q 1
        have zpzq := lt_of_obj pzq
        have pzqc0 := cell_at pzq 0
        have pzqc1 := cell_at pzq 1
        have zpwq := lt_of_obj pwq
        have pwqc0 := cell_at pwq 0
        have pwqc1 := cell_at pwq 1
        simp at pr'''qc0 pr'''qc1 pr'''qc2 pr'''qc3 pr'''qc4 pa'''qc0 pa'''qc1 pb'''qc0 pb'''qc1 py'qc0 py'qc1 pzqc0 pzqc1 pwqc0 pwqc1
        refine wp_region_later w5 (Below.refl _ _) (by kernel_rfl) (by kernel_rfl) ?_
        repeat (go_big_quiet_step (first
          | (go_at_call 16; with_reducible exact Calls.later (H4.out _))
          | (go_at_call 16; with_reducible exact Calls.later (H5.out _))))
        refine wpQuiet_nil ?_
        intro _ hx
        obtain ⟨⟨w7, hb7⟩, hx⟩ := hx
        subst hx
        rename_i w7
        go_wp2_with fail
        go_ret
        exact ⟨rfl, hB5.trans (hb7.mono hB5.size)⟩
      · have g1 : decide (bv < av) = true := by simp; omega
        clear f3
        go_wp2_with fail
        all_goals first
          | (exfalso; omega)
          | skip
        have pr'''q := (obj_alloc_past w4 (.cells #[.int .i64 y3.value, .int .i64 y3.at_] 25 (0, 0)) _ zpr''').trans pr'''
        have pa'''q := (obj_alloc_past w4 (.cells #[.int .i64 y3.value, .int .i64 y3.at_] 25 (0, 0)) _ zpa''').trans pa'''
        have pb'''q := (obj_alloc_past w4 (.cells #[.int .i64 y3.value, .int .i64 y3.at_] 25 (0, 0)) _ zpb''').trans pb'''
        have py'q := (obj_alloc_past w4 (.cells #[.int .i64 y3.value, .int .i64 y3.at_] 25 (0, 0)) _ zpy').trans py'
        have pzq := (obj_alloc_past w4 (.cells #[.int .i64 y3.value, .int .i64 y3.at_] 25 (0, 0)) _ zpz).trans pz
        have pwq : obj (w4.alloc (.cells #[.int .i64 y3.value, .int .i64 y3.at_] 25 (0, 0))) w4.heap.size = some (.cells #[.int .i64 y3.value, .int .i64 y3.at_] 25 (0, 0)) := obj_alloc_at _ _ _ rfl
        have hB5 : Below w.heap.size w (w4.alloc (.cells #[.int .i64 y3.value, .int .i64 y3.at_] 25 (0, 0))) := hB4.alloc hB4.size _
        generalize w4.alloc (.cells #[.int .i64 y3.value, .int .i64 y3.at_] 25 (0, 0)) = w5 at *
        clear zpr''' pr'''c0 pr'''c1 pr'''c2 pr'''c3 pr'''c4 zpa''' pa'''c0 pa'''c1 zpb''' pb'''c0 pb'''c1 zpy' py'c0 py'c1 zpz pzc0 pzc1
        clear pr''' pa''' pb''' py' pz
        have zpr'''q := lt_of_obj pr'''q
        have pr'''qc0 := cell_at pr'''q 0
        have pr'''qc1 := cell_at pr'''q 1
        have pr'''qc2 := cell_at pr'''q 2
        have pr'''qc3 := cell_at pr'''q 3
        have pr'''qc4 := cell_at pr'''q 4
        have zpa'''q := lt_of_obj pa'''q
        have pa'''qc0 := cell_at pa'''q 0
        have pa'''qc1 := cell_at pa'''q 1
        have zpb'''q := lt_of_obj pb'''q
        have pb'''qc0 := cell_at pb'''q 0
        have pb'''qc1 := cell_at pb'''q 1
        have zpy'q := lt_of_obj py'q
        have py'qc0 := cell_at py'q 0
        have py'qc1 := cell_at py'q 1
        have zpzq := lt_of_obj pzq
        have pzqc0 := cell_at pzq 0
        have pzqc1 := cell_at pzq 1
        have zpwq := lt_of_obj pwq
        have pwqc0 := cell_at pwq 0
        have pwqc1 := cell_at pwq 1
        simp at pr'''qc0 pr'''qc1 pr'''qc2 pr'''qc3 pr'''qc4 pa'''qc0 pa'''qc1 pb'''qc0 pb'''qc1 py'qc0 py'qc1 pzqc0 pzqc1 pwqc0 pwqc1
        refine wp_region_later w5 (Below.refl _ _) (by kernel_rfl) (by kernel_rfl) ?_
        repeat (go_big_quiet_step (first
          | (go_at_call 16; with_reducible exact Calls.later (H4.out _))
          | (go_at_call 16; with_reducible exact Calls.later (H5.out _))))
        refine wpQuiet_nil ?_
        intro _ hx
        obtain ⟨⟨w7, hb7⟩, hx⟩ := hx
        subst hx
        rename_i w7
        go_wp2_with fail
        go_ret
        exact ⟨rfl, hB5.trans (hb7.mono hB5.size)⟩
    · have f2' := f2 (by omega)
      clear f1 f2
      by_cases hv : av ≤ bv
      · obtain ⟨f4, f5⟩ := f3 hv
        have g1 : decide (bv < av) = false := by simp; omega
        have g2 : decide (y1.value ≤ y3.value) = true := by simp; omega
        have g3 : decide (t1 ≤ t3) = true := by simp; omega
        clear f3
        go_wp2_with fail
        all_goals first
          | (exfalso; omega)
          | skip
        have pr'''q := (obj_alloc_past w4 (.cells #[.int .i64 y3.value, .int .i64 y3.at_] 25 (0, 0)) _ zpr''').trans pr'''
        have pa'''q := (obj_alloc_past w4 (.cells #[.int .i64 y3.value, .int .i64 y3.at_] 25 (0, 0)) _ zpa''').trans pa'''
        have pb'''q := (obj_alloc_past w4 (.cells #[.int .i64 y3.value, .int .i64 y3.at_] 25 (0, 0)) _ zpb''').trans pb'''
        have py'q := (obj_alloc_past w4 (.cells #[.int .i64 y3.value, .int .i64 y3.at_] 25 (0, 0)) _ zpy').trans py'
        have pzq := (obj_alloc_past w4 (.cells #[.int .i64 y3.value, .int .i64 y3.at_] 25 (0, 0)) _ zpz).trans pz
        have pwq : obj (w4.alloc (.cells #[.int .i64 y3.value, .int .i64 y3.at_] 25 (0, 0))) w4.heap.size = some (.cells #[.int .i64 y3.value, .int .i64 y3.at_] 25 (0, 0)) := obj_alloc_at _ _ _ rfl
        have hB5 : Below w.heap.size w (w4.alloc (.cells #[.int .i64 y3.value, .int .i64 y3.at_] 25 (0, 0))) := hB4.alloc hB4.size _
        generalize w4.alloc (.cells #[.int .i64 y3.value, .int .i64 y3.at_] 25 (0, 0)) = w5 at *
        clear zpr''' pr'''c0 pr'''c1 pr'''c2 pr'''c3 pr'''c4 zpa''' pa'''c0 pa'''c1 zpb''' pb'''c0 pb'''c1 zpy' py'c0 py'c1 zpz pzc0 pzc1
        clear pr''' pa''' pb''' py' pz
        have zpr'''q := lt_of_obj pr'''q
        have pr'''qc0 := cell_at pr'''q 0
        have pr'''qc1 := cell_at pr'''q 1
        have pr'''qc2 := cell_at pr'''q 2
        have pr'''qc3 := cell_at pr'''q 3
        have pr'''qc4 := cell_at pr'''q 4
        have zpa'''q := lt_of_obj pa'''q
        have pa'''qc0 := cell_at pa'''q 0
        have pa'''qc1 := cell_at pa'''q 1
        have zpb'''q := lt_of_obj pb'''q
        have pb'''qc0 := cell_at pb'''q 0
        have pb'''qc1 := cell_at pb'''q 1
        have zpy'q := lt_of_obj py'q
        have py'qc0 := cell_at py'q 0
        have py'qc1 := cell_at py'q 1
        have zpzq := lt_of_obj pzq
        have pzqc0 := cell_at pzq 0
        have pzqc1 := cell_at pzq 1
        have zpwq := lt_of_obj pwq
        have pwqc0 := cell_at pwq 0
        have pwqc1 := cell_at pwq 1
        simp at pr'''qc0 pr'''qc1 pr'''qc2 pr'''qc3 pr'''qc4 pa'''qc0 pa'''qc1 pb'''qc0 pb'''qc1 py'qc0 py'qc1 pzqc0 pzqc1 pwqc0 pwqc1
        refine wp_region_later w5 (Below.refl _ _) (by kernel_rfl) (by kernel_rfl) ?_
        repeat (go_big_quiet_step (first
          | (go_at_call 16; with_reducible exact Calls.later (H4.out _))
          | (go_at_call 16; with_reducible exact Calls.later (H5.out _))))
        refine wpQuiet_nil ?_
        intro _ hx
        obtain ⟨⟨w7, hb7⟩, hx⟩ := hx
        subst hx
        rename_i w7
        go_wp2_with fail
        go_ret
        exact ⟨rfl, hB5.trans (hb7.mono hB5.size)⟩
      · have g1 : decide (bv < av) = true := by simp; omega
        clear f3
        go_wp2_with fail
        all_goals first
          | (exfalso; omega)
          | skip
        have pr'''q := (obj_alloc_past w4 (.cells #[.int .i64 y3.value, .int .i64 y3.at_] 25 (0, 0)) _ zpr''').trans pr'''
        have pa'''q := (obj_alloc_past w4 (.cells #[.int .i64 y3.value, .int .i64 y3.at_] 25 (0, 0)) _ zpa''').trans pa'''
        have pb'''q := (obj_alloc_past w4 (.cells #[.int .i64 y3.value, .int .i64 y3.at_] 25 (0, 0)) _ zpb''').trans pb'''
        have py'q := (obj_alloc_past w4 (.cells #[.int .i64 y3.value, .int .i64 y3.at_] 25 (0, 0)) _ zpy').trans py'
        have pzq := (obj_alloc_past w4 (.cells #[.int .i64 y3.value, .int .i64 y3.at_] 25 (0, 0)) _ zpz).trans pz
        have pwq : obj (w4.alloc (.cells #[.int .i64 y3.value, .int .i64 y3.at_] 25 (0, 0))) w4.heap.size = some (.cells #[.int .i64 y3.value, .int .i64 y3.at_] 25 (0, 0)) := obj_alloc_at _ _ _ rfl
        have hB5 : Below w.heap.size w (w4.alloc (.cells #[.int .i64 y3.value, .int .i64 y3.at_] 25 (0, 0))) := hB4.alloc hB4.size _
        generalize w4.alloc (.cells #[.int .i64 y3.value, .int .i64 y3.at_] 25 (0, 0)) = w5 at *
        clear zpr''' pr'''c0 pr'''c1 pr'''c2 pr'''c3 pr'''c4 zpa''' pa'''c0 pa'''c1 zpb''' pb'''c0 pb'''c1 zpy' py'c0 py'c1 zpz pzc0 pzc1
        clear pr''' pa''' pb''' py' pz
        have zpr'''q := lt_of_obj pr'''q
        have pr'''qc0 := cell_at pr'''q 0
        have pr'''qc1 := cell_at pr'''q 1
        have pr'''qc2 := cell_at pr'''q 2
        have pr'''qc3 := cell_at pr'''q 3
        have pr'''qc4 := cell_at pr'''q 4
        have zpa'''q := lt_of_obj pa'''q
        have pa'''qc0 := cell_at pa'''q 0
        have pa'''qc1 := cell_at pa'''q 1
        have zpb'''q := lt_of_obj pb'''q
        have pb'''qc0 := cell_at pb'''q 0
        have pb'''qc1 := cell_at pb'''q 1
        have zpy'q := lt_of_obj py'q
        have py'qc0 := cell_at py'q 0
        have py'qc1 := cell_at py'q 1
        have zpzq := lt_of_obj pzq
        have pzqc0 := cell_at pzq 0
        have pzqc1 := cell_at pzq 1
        have zpwq := lt_of_obj pwq
        have pwqc0 := cell_at pwq 0
        have pwqc1 := cell_at pwq 1
        simp at pr'''qc0 pr'''qc1 pr'''qc2 pr'''qc3 pr'''qc4 pa'''qc0 pa'''qc1 pb'''qc0 pb'''qc1 py'qc0 py'qc1 pzqc0 pzqc1 pwqc0 pwqc1
        refine wp_region_later w5 (Below.refl _ _) (by kernel_rfl) (by kernel_rfl) ?_
        repeat (go_big_quiet_step (first
          | (go_at_call 16; with_reducible exact Calls.later (H4.out _))
          | (go_at_call 16; with_reducible exact Calls.later (H5.out _))))
        refine wpQuiet_nil ?_
        intro _ hx
        obtain ⟨⟨w7, hb7⟩, hx⟩ := hx
        subst hx
        rename_i w7
        go_wp2_with fail
        go_ret
        exact ⟨rfl, hB5.trans (hb7.mono hB5.size)⟩
  · clear HF
    by_cases q1 : e1 = 0
    · by_cases q2 : e2 = 0
      · have q3 : ¬ e3 = 0 := fun h => hz ⟨q1, q2, h⟩
        clear hz
        go_wp2_with fail
        all_goals first
          | (exfalso; omega)
          | (go_ret; exact ⟨rfl, hB4.alloc hB4.size _⟩)
      · clear hz
        go_wp2_with fail
        all_goals first
          | (exfalso; omega)
          | (go_ret; exact ⟨rfl, hB4.alloc hB4.size _⟩)
    · clear hz
      go_wp2_with fail
      all_goals first
        | (exfalso; omega)
        | (go_ret; exact ⟨rfl, hB4.alloc hB4.size _⟩)
set_option maxRecDepth 100000 in
set_option maxHeartbeats 4000000 in
theorem fur_ne (r : RuleD) (a b : MeanD) (x y : Int) (w : World) (hat : ¬ a.at_ = b.at_) : Calls Try.prog 6 #[ruleV r, meanV a, meanV b, .int .i64 x, .int .i64 y] w fun e w' => e = .returned (.bool true) ∧ Below w.heap.size w w' := by
  unfold ruleV meanV
  go_enter Try.func6, Try.ntmps6
  go_wp2_with fail
  refine (live_any _).mono ?_
  rintro _ w1 ⟨rfl, hb1⟩
  have pa := (obj_below hb1 (n := w.heap.size + 1) (by simp)).trans ((by rw [obj_alloc_past _ _ _ (by simp)]; exact obj_alloc_at _ _ _ (by simp)) : _ = some (.cells #[.int .i64 a.value, .int .i64 a.at_] 25 (0, 0)))
  have pb := (obj_below hb1 (n := w.heap.size + 1 + 1) (by simp)).trans ((obj_alloc_at _ _ _ (by simp)) : _ = some (.cells #[.int .i64 b.value, .int .i64 b.at_] 25 (0, 0)))
  have hB : Below w.heap.size w w1 := ((((Below.refl _ _).alloc (Nat.le_refl _) _).alloc (by simp) _).alloc (by simp; omega) _).trans (hb1.mono (by simp; omega))
  clear hb1
  have z1 := lt_of_obj pa
  have z2 := lt_of_obj pb
  have c1 := cell_at pa 1
  have c2 := cell_at pb 1
  simp at c1 c2
  go_wp2_with fail
  refine (live_any _).mono ?_
  rintro _ w2 ⟨rfl, hb2⟩
  go_wp2_with fail
  go_ret
  exact ⟨rfl, hB.trans (hb2.mono hB.size)⟩
theorem fur_any (r : RuleD) (a b : MeanD) (x y : Int) (w : World) : Calls Try.prog 6 #[ruleV r, meanV a, meanV b, .int .i64 x, .int .i64 y] w fun e w' => e = .returned (.bool true) ∧ Below w.heap.size w w' := by
  obtain ⟨av, t⟩ := a
  obtain ⟨bv, t'⟩ := b
  by_cases h : t = t'
  · subst h; exact fur_eq r av bv t x y w
  · exact fur_ne r _ _ x y w h
end Go.Proofs.Ytojdgmeefnaejaa
