import Derived.Test.YtojdgmeefnaejaaFur
namespace Go.Proofs.Ytojdgmeefnaejaa
open Go.RowKit

theorem bnd_facts (r : RuleD) (now : Int) (L : Nat → MeanD) (len : Nat) :
    (∃ c, c ≠ 0 ∧ newR r now = (⟨0, 0⟩, c)) ∨ (RuleOk r ∧ (newR r now).2 = 0 ∧ MeanOk r (newR r now).1 ∧ ((newR r now).1.value < 16 * r.max → r.first ≤ tmoR r (newR r now).1)) := by
  unfold newR
  by_cases h : RuleOk r
  · rw [if_pos h]
    by_cases hn : 0 ≤ now ∧ now ≤ 4611686018427387903
    · rw [if_pos hn]; exact Or.inr ⟨h, rfl, new_keeps h hn.1 hn.2, fun hv => new_first h hn.1 hn.2 hv⟩
    · rw [if_neg hn]; exact Or.inl ⟨131, by decide, rfl⟩
  · rw [if_neg h]; exact Or.inl ⟨130, by decide, rfl⟩
set_option maxRecDepth 100000 in
set_option maxHeartbeats 4000000 in
theorem bounds_any (r : RuleD) (now : Int) (oa : Option Addr) (len cap : Nat) (hlc : len ≤ cap) (hcap : cap ≤ maxLen) (L : Nat → MeanD) (w : World) (h : SlAt w oa len L) :
    Calls Try.prog 8 #[ruleV r, .int .i64 now, .slice oa len cap] w fun e w' => e = .returned (.bool true) ∧ Below w.heap.size w w' := by
  have h1 := fun w => new_any r now w
  have hf := bnd_facts r now L len
  generalize newR r now = o at h1 hf
  obtain ⟨y, e⟩ := o
  have h2 : ∀ w' : World, Below w.heap.size w w' → _ := fun w' hb => all_any r y oa len cap hlc hcap L w' (h.below hb)
  have h3 := fun w => tmo_any r y w
  have hk := fun hm : MeanOk r y => all_keeps (L := L) len 0 y hm
  have ht := fun hm : MeanOk r y => tmo_bd hm
  have ht2 := fun hm : MeanOk r y => tmo_bd (hk hm).1
  generalize allR r L len 0 y = p at h2 hk ht2
  obtain ⟨z, k, e2⟩ := p
  have h4 := fun w => tmo_any r z w
  have h5 : MeanOk r z → ∀ w, _ := fun hm w => may_ok r z w hm
  simp only at hf hk ht2
  generalize tmoR r y = t1 at *
  generalize tmoR r z = t2 at *
  simp only [ruleV, meanV] at h1 h2 h3 h4 h5
  have H1 := Lib.hid h1
  have H2 := Lib.hid h2
  have H3 := Lib.hid h3
  have H4 := Lib.hid h4
  have hm := hcap
  unfold maxLen at hm
  clear h1 h2 h3 h4 h hcap
  have HF : Hid (_ ∨ _) := Lib.hid hf
  have HK := Lib.hid hk
  have HT := Lib.hid ht
  have HT2 := Lib.hid ht2
  have H5 := Lib.hid h5
  clear hf hk ht ht2 h5
  unfold ruleV
  go_enter Try.func8, Try.ntmps8
  go_wp2_with fail
  refine (H1.out _).mono ?_
  rintro _ w1 ⟨rfl, hb1⟩
  have pr := (obj_below hb1 (n := w.heap.size) (by simp)).trans ((obj_alloc_at _ _ _ rfl) : _ = some (.cells #[.int .i64 r.first, .int .i64 r.min, .int .i64 r.max, .int .i64 r.half, .int .i64 r.quart] 23 (0, 0)))
  have hB : Below w.heap.size w w1 := ((Below.refl _ _).alloc (Nat.le_refl _) _).trans (hb1.mono (by simp))
  clear hb1
  have zpr := lt_of_obj pr
  go_wp2_with fail
  refine (live_any _).mono ?_
  rintro _ w2 ⟨rfl, hb2⟩
  have pr' := (obj_below hb2 (n := w.heap.size) (by simp; omega)).trans ((obj_alloc_past _ _ _ zpr).trans pr)
  have py := (obj_below hb2 (n := w1.heap.size) (by simp)).trans ((obj_alloc_at _ _ _ rfl) : _ = some (.cells #[.int .i64 y.value, .int .i64 y.at_] 25 (0, 0)))
  have hB2 : Below w.heap.size w w2 := (hB.alloc hB.size _).trans (hb2.mono (by have := hB.size; simp; omega))
  clear hb2 zpr
  generalize w1.heap.size = n1 at *
  clear pr hB
  have zpr' := lt_of_obj pr'
  have pr'c0 := cell_at pr' 0
  have pr'c1 := cell_at pr' 1
  have pr'c2 := cell_at pr' 2
  have pr'c3 := cell_at pr' 3
  have pr'c4 := cell_at pr' 4
  have zpy := lt_of_obj py
  have pyc0 := cell_at py 0
  have pyc1 := cell_at py 1
  simp at pr'c0 pr'c1 pr'c2 pr'c3 pr'c4 pyc0 pyc1
  rcases HF.out with ⟨c, hc0, hc⟩ | ⟨hr, he, hmy, hfirst⟩
  · simp only [Prod.mk.injEq] at hc
    obtain ⟨_, rfl⟩ := hc
    clear HF HK HT HT2
    go_wp2_with fail
    refine (live_any _).mono ?_
    rintro _ w3 ⟨rfl, hb3⟩
    go_wp2_with fail
    go_ret
    exact ⟨rfl, hB2.trans (hb3.mono hB2.size)⟩
  · subst he
    obtain ⟨k1, k2, k3⟩ := HK.out hmy
    obtain ⟨v1, v2⟩ := HT.out hmy
    obtain ⟨v3, v4⟩ := HT2.out hmy
    have K5 := Lib.hid (H5.out k1)
    have K1 := Lib.hid k1
    have RK := Lib.hid hr
    obtain ⟨h1, h2, h3, h4, h5, h6, h7, h8⟩ := hr
    clear k1 hmy HF HK HT HT2 H5
    by_cases hl : 1000 < len
    · go_wp2_with fail
      refine (live_any _).mono ?_
      rintro _ w3 ⟨rfl, hb3⟩
      go_wp2_with fail
      go_ret
      exact ⟨rfl, hB2.trans (hb3.mono hB2.size)⟩
    · go_wp2_with fail
      refine (H3.out _).mono ?_
      rintro _ w3 ⟨rfl, hb3⟩
      have pr'' := (obj_below hb3 (n := w.heap.size) zpr').trans pr'
      have py' := (obj_below hb3 (n := n1) zpy).trans py
      have hB3 : Below w.heap.size w w3 := hB2.trans (hb3.mono hB2.size)
      clear hb3
      clear zpr' pr'c0 pr'c1 pr'c2 pr'c3 pr'c4 zpy pyc0 pyc1
      clear pr' py
      have zpr'' := lt_of_obj pr''
      have pr''c0 := cell_at pr'' 0
      have pr''c1 := cell_at pr'' 1
      have pr''c2 := cell_at pr'' 2
      have pr''c3 := cell_at pr'' 3
      have pr''c4 := cell_at pr'' 4
      have zpy' := lt_of_obj py'
      have py'c0 := cell_at py' 0
      have py'c1 := cell_at py' 1
      simp at pr''c0 pr''c1 pr''c2 pr''c3 pr''c4 py'c0 py'c1
      have hcase : (y.value < 16 * r.max → r.first ≤ t1) := hfirst
      by_cases hv : y.value < 16 * r.max
      · have hv1 := hcase hv
        clear hcase hfirst
        go_wp2_with fail
        all_goals try (exfalso; omega)
        all_goals
          go_wp2_with fail
          refine (H2.out _ hB3).mono ?_
          rintro _ w4 ⟨rfl, hb4⟩
          have pr''' := (obj_below hb4 (n := w.heap.size) zpr'').trans pr''
          have py'' := (obj_below hb4 (n := n1) zpy').trans py'
          have hB4 : Below w.heap.size w w4 := hB3.trans (hb4.mono hB3.size)
          clear hb4
          clear zpr'' pr''c0 pr''c1 pr''c2 pr''c3 pr''c4 zpy' py'c0 py'c1
          clear pr'' py'
          have zpr''' := lt_of_obj pr'''
          have pr'''c0 := cell_at pr''' 0
          have pr'''c1 := cell_at pr''' 1
          have pr'''c2 := cell_at pr''' 2
          have pr'''c3 := cell_at pr''' 3
          have pr'''c4 := cell_at pr''' 4
          have zpy'' := lt_of_obj py''
          have py''c0 := cell_at py'' 0
          have py''c1 := cell_at py'' 1
          simp at pr'''c0 pr'''c1 pr'''c2 pr'''c3 pr'''c4 py''c0 py''c1
          go_wp2_with fail
          refine (H4.out _).mono ?_
          rintro _ w5 ⟨rfl, hb5⟩
          have pr'''' := (obj_below hb5 (n := w.heap.size) (by simp; omega)).trans ((obj_alloc_past _ _ _ zpr''').trans pr''')
          have py''' := (obj_below hb5 (n := n1) (by simp; omega)).trans ((obj_alloc_past _ _ _ zpy'').trans py'')
          have pz := (obj_below hb5 (n := w4.heap.size) (by simp)).trans ((obj_alloc_at _ _ _ rfl) : _ = some (.cells #[.int .i64 z.value, .int .i64 z.at_] 25 (0, 0)))
          have hB5 : Below w.heap.size w w5 := (hB4.alloc hB4.size _).trans (hb5.mono (by have := hB4.size; simp; omega))
          clear hb5
          clear zpr''' pr'''c0 pr'''c1 pr'''c2 pr'''c3 pr'''c4 zpy'' py''c0 py''c1
          clear pr''' py''
          have zpr'''' := lt_of_obj pr''''
          have pr''''c0 := cell_at pr'''' 0
          have pr''''c1 := cell_at pr'''' 1
          have pr''''c2 := cell_at pr'''' 2
          have pr''''c3 := cell_at pr'''' 3
          have pr''''c4 := cell_at pr'''' 4
          have zpy''' := lt_of_obj py'''
          have py'''c0 := cell_at py''' 0
          have py'''c1 := cell_at py''' 1
          have zpz := lt_of_obj pz
          have pzc0 := cell_at pz 0
          have pzc1 := cell_at pz 1
          simp at pr''''c0 pr''''c1 pr''''c2 pr''''c3 pr''''c4 py'''c0 py'''c1 pzc0 pzc1
          go_wp2_with fail
          refine (K5.out _).mono ?_
          rintro _ w6 ⟨rfl, hb6⟩
          have pr''''' := (obj_below hb6 (n := w.heap.size) zpr'''').trans pr''''
          have py'''' := (obj_below hb6 (n := n1) zpy''').trans py'''
          have pz' := (obj_below hb6 (n := w4.heap.size) zpz).trans pz
          have hB6 : Below w.heap.size w w6 := hB5.trans (hb6.mono hB5.size)
          clear hb6
          clear zpr'''' pr''''c0 pr''''c1 pr''''c2 pr''''c3 pr''''c4 zpy''' py'''c0 py'''c1 zpz pzc0 pzc1
          clear pr'''' py''' pz
          have zpr''''' := lt_of_obj pr'''''
          have pr'''''c0 := cell_at pr''''' 0
          have pr'''''c1 := cell_at pr''''' 1
          have pr'''''c2 := cell_at pr''''' 2
          have pr'''''c3 := cell_at pr''''' 3
          have pr'''''c4 := cell_at pr''''' 4
          have zpy'''' := lt_of_obj py''''
          have py''''c0 := cell_at py'''' 0
          have py''''c1 := cell_at py'''' 1
          have zpz' := lt_of_obj pz'
          have pz'c0 := cell_at pz' 0
          have pz'c1 := cell_at pz' 1
          simp at pr'''''c0 pr'''''c1 pr'''''c2 pr'''''c3 pr'''''c4 py''''c0 py''''c1 pz'c0 pz'c1
          go_wp2_with fail
          all_goals try (exfalso; omega)
          go_ret
          exact ⟨rfl, hB6⟩
      · clear hcase hfirst
        go_wp2_with fail
        all_goals try (exfalso; omega)
        all_goals
          go_wp2_with fail
          refine (H2.out _ hB3).mono ?_
          rintro _ w4 ⟨rfl, hb4⟩
          have pr''' := (obj_below hb4 (n := w.heap.size) zpr'').trans pr''
          have py'' := (obj_below hb4 (n := n1) zpy').trans py'
          have hB4 : Below w.heap.size w w4 := hB3.trans (hb4.mono hB3.size)
          clear hb4
          clear zpr'' pr''c0 pr''c1 pr''c2 pr''c3 pr''c4 zpy' py'c0 py'c1
          clear pr'' py'
          have zpr''' := lt_of_obj pr'''
          have pr'''c0 := cell_at pr''' 0
          have pr'''c1 := cell_at pr''' 1
          have pr'''c2 := cell_at pr''' 2
          have pr'''c3 := cell_at pr''' 3
          have pr'''c4 := cell_at pr''' 4
          have zpy'' := lt_of_obj py''
          have py''c0 := cell_at py'' 0
          have py''c1 := cell_at py'' 1
          simp at pr'''c0 pr'''c1 pr'''c2 pr'''c3 pr'''c4 py''c0 py''c1
          go_wp2_with fail
          refine (H4.out _).mono ?_
          rintro _ w5 ⟨rfl, hb5⟩
          have pr'''' := (obj_below hb5 (n := w.heap.size) (by simp; omega)).trans ((obj_alloc_past _ _ _ zpr''').trans pr''')
          have py''' := (obj_below hb5 (n := n1) (by simp; omega)).trans ((obj_alloc_past _ _ _ zpy'').trans py'')
          have pz := (obj_below hb5 (n := w4.heap.size) (by simp)).trans ((obj_alloc_at _ _ _ rfl) : _ = some (.cells #[.int .i64 z.value, .int .i64 z.at_] 25 (0, 0)))
          have hB5 : Below w.heap.size w w5 := (hB4.alloc hB4.size _).trans (hb5.mono (by have := hB4.size; simp; omega))
          clear hb5
          clear zpr''' pr'''c0 pr'''c1 pr'''c2 pr'''c3 pr'''c4 zpy'' py''c0 py''c1
          clear pr''' py''
          have zpr'''' := lt_of_obj pr''''
          have pr''''c0 := cell_at pr'''' 0
          have pr''''c1 := cell_at pr'''' 1
          have pr''''c2 := cell_at pr'''' 2
          have pr''''c3 := cell_at pr'''' 3
          have pr''''c4 := cell_at pr'''' 4
          have zpy''' := lt_of_obj py'''
          have py'''c0 := cell_at py''' 0
          have py'''c1 := cell_at py''' 1
          have zpz := lt_of_obj pz
          have pzc0 := cell_at pz 0
          have pzc1 := cell_at pz 1
          simp at pr''''c0 pr''''c1 pr''''c2 pr''''c3 pr''''c4 py'''c0 py'''c1 pzc0 pzc1
          go_wp2_with fail
          refine (K5.out _).mono ?_
          rintro _ w6 ⟨rfl, hb6⟩
          have pr''''' := (obj_below hb6 (n := w.heap.size) zpr'''').trans pr''''
          have py'''' := (obj_below hb6 (n := n1) zpy''').trans py'''
          have pz' := (obj_below hb6 (n := w4.heap.size) zpz).trans pz
          have hB6 : Below w.heap.size w w6 := hB5.trans (hb6.mono hB5.size)
          clear hb6
          clear zpr'''' pr''''c0 pr''''c1 pr''''c2 pr''''c3 pr''''c4 zpy''' py'''c0 py'''c1 zpz pzc0 pzc1
          clear pr'''' py''' pz
          have zpr''''' := lt_of_obj pr'''''
          have pr'''''c0 := cell_at pr''''' 0
          have pr'''''c1 := cell_at pr''''' 1
          have pr'''''c2 := cell_at pr''''' 2
          have pr'''''c3 := cell_at pr''''' 3
          have pr'''''c4 := cell_at pr''''' 4
          have zpy'''' := lt_of_obj py''''
          have py''''c0 := cell_at py'''' 0
          have py''''c1 := cell_at py'''' 1
          have zpz' := lt_of_obj pz'
          have pz'c0 := cell_at pz' 0
          have pz'c1 := cell_at pz' 1
          simp at pr'''''c0 pr'''''c1 pr'''''c2 pr'''''c3 pr'''''c4 py''''c0 py''''c1 pz'c0 pz'c1
          go_wp2_with fail
          all_goals try (exfalso; omega)
          go_ret
          exact ⟨rfl, hB6⟩
end Go.Proofs.Ytojdgmeefnaejaa
