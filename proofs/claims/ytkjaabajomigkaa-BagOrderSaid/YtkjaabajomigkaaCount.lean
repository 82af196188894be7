import Derived.Test.YtkjaabajomigkaaTot
namespace Go.Proofs.Ytkjaabajomigkaa
open Go.RowKit

theorem cnt_drop {id : ID} {l : List Vt} (ha : Asc l) {k : Nat} (hlt : k < l.length) : (l[k].id = id → cnt id (l.drop k) = l[k].n) ∧ (l[k].id ≠ id → cnt id (l.drop k) = cnt id (l.drop (k + 1))) := by
  have hd := List.drop_eq_getElem_cons hlt
  have hp : Asc (l[k] :: l.drop (k + 1)) := by rw [← hd]; exact List.Pairwise.sublist (List.drop_sublist _ _) ha
  rw [hd]
  constructor
  · intro e
    simp only [cnt]
    rw [if_pos e, cnt_gt (fun x hx => ?_)]
    · omega
    · have := (List.pairwise_cons.1 hp).1 x hx
      rw [e] at this
      exact fun e' => ltI_ne this e'.symm
  · intro e
    simp only [cnt]
    rw [if_neg e]
    omega
theorem goodV_70 {l : List Vt} (h : bagE l = 70) : goodV l = [] := by unfold goodV; rw [if_neg (by omega)]
set_option maxRecDepth 100000 in
set_option maxHeartbeats 1000000 in
/-- bag.Count -/
theorem count_any (w : World) (v : Value) (l : List Vt) (id : ID) (h : SlIn w v 33 vtL l) : Calls Try.prog 22 #[v, .agg (idL id).toArray] w fun e w' => e = .returned (.int .i64 (countV l id)) ∧ Below w.heap.size w w' := by
  have hb : Below w.heap.size w (w.alloc (.cells (idL id).toArray 27)) := (Below.refl _ w).alloc (Nat.le_refl _) _
  have hob : obj (w.alloc (.cells (idL id).toArray 27)) w.heap.size = some (.cells (idL id).toArray 27 (0, 0)) := obj_alloc_at _ _ _ rfl
  have hz : (w.alloc (.cells (idL id).toArray 27)).heap.size = w.heap.size + 1 := by simp
  have HC := Lib.hid (good_at _ w v l h hb)
  have HT : Hid (countV l id = cnt id (goodV l)) := Lib.hid rfl
  obtain ⟨ha, _, _⟩ := goodV_ok l
  have HB := Lib.hid hb
  have HO := Lib.hid hob
  generalize countV l id = T at *
  generalize goodV l = g at *
  clear h hb hob
  go_enter Try.func22, Try.ntmps22
  go_wp2_with fail
  generalize w.alloc (.cells (idL id).toArray 27) = w0 at *
  generalize hBB : w.heap.size = B at *
  refine HC.out.mono ?_
  rintro e w1 ⟨oa, cap, rfl, ⟨oa', cap', e1, g1, g2, g3⟩, b1⟩
  simp only [Value.slice.injEq] at e1
  obtain ⟨rfl, _, rfl⟩ := e1
  unfold maxLen at g2
  have H3 := Lib.hid g3
  have B1 := Lib.hid (HB.out.trans (b1.mono (by omega)))
  have O1 := Lib.hid ((obj_below b1 (by omega)).trans HO.out)
  have hz1 := b1.size
  clear g3 b1 HC
  go_wp2
  go_loopw [10] (fun v10 wr => ∃ (k : Nat), k ≤ g.length ∧ v10 = .int .i64 k ∧ Hid (cnt id (g.drop k) = T) ∧ Hid (Below w1.heap.size w1 wr)) (fun i _ => g.length - (intOf i).toNat)
  case atStart => exact ⟨0, Nat.zero_le _, rfl, Lib.hid HT.out.symm, Lib.hid (Below.refl _ _)⟩
  case round =>
    obtain ⟨k, hk, rfl, HM, HK⟩ := hrel
    have hzk := HK.out.size
    have hBK := Lib.hid (B1.out.trans (HK.out.mono (by omega)))
    by_cases hlt : k < g.length
    · obtain ⟨b, off, hoa, hbb, hrow⟩ := H3.out (by omega)
      subst hoa
      have hs1 := hrow k hlt
      rw [← obj_below hBK.out (by omega)] at hs1
      have hbl : b < wr.heap.size := by omega
      have hmulk : off + k * 33 + 33 ≤ off + k * 33 + 33 := Nat.le_refl _
      have HD := Lib.hid (cnt_drop (id := id) ha hlt)
      rw [HM.out] at HD
      have o2 : obj (wr.alloc (.cells (vtL g[k]).toArray 33)) wr.heap.size = some (.cells (vtL g[k]).toArray 33 (0, 0)) := obj_alloc_at _ _ _ rfl
      have HK2 := Lib.hid (HK.out.alloc hzk (.cells (vtL g[k]).toArray 33))
      have o3 : obj (wr.alloc (.cells (vtL g[k]).toArray 33)) B = some (.cells (idL id).toArray 27 (0, 0)) := (obj_alloc_past _ _ _ (by omega)).trans ((obj_below HK.out (by omega)).trans O1.out)
      clear hrow
      generalize g[k] = x at *
      obtain ⟨p1, p2⟩ := vt_parts (x := x) (W := wr.alloc (.cells (vtL x).toArray 33)) (b := wr.heap.size) (o := 0) (by rw [o2, subOf_cells (by simp), subA_all (by simp)])
      rw [Nat.zero_add] at p2
      have p3 : subOf (obj (wr.alloc (.cells (vtL x).toArray 33)) B) 0 32 = some (idL id).toArray := by rw [o3, subOf_cells (by simp), subA_all (by simp)]
      clear o2 o3
      by_cases hx : x.id = id
      · have dx : decide (x.id = id) = true := by simpa using hx
        have HN := Lib.hid (HD.out.1 hx)
        clear hx HD
        go_wp2
        go_ret
        exact ⟨ret_int HN.out.symm, by rw [hBB]; exact B1.out.trans (HK2.out.mono (by omega))⟩
      · have dx : decide (x.id = id) = false := by simpa using hx
        have HN := Lib.hid (HD.out.2 hx)
        clear hx HD
        go_wp2
        go_roundw
        case rel => exact ⟨k + 1, by omega, by go_num, Lib.hid HN.out.symm, HK2⟩
        case measure => simp [intOf]; omega
    · have HG : Hid (0 = T) := Lib.hid (by have := HM.out; rw [List.drop_eq_nil_of_le (by omega)] at this; exact this)
      go_wp2
      go_ret
      exact ⟨ret_int HG.out, by rw [hBB]; exact hBK.out⟩
set_option maxRecDepth 100000 in
set_option maxHeartbeats 1000000 in
/-- flurryref07.Count -/
theorem countR_any (w : World) (v : Value) (l : List Vt) (id : ID) (h : SlIn w v 33 vtL l) : Calls Try.prog 23 #[v, .agg (idL id).toArray] w fun e w' => e = .returned (.int .i64 (countV l id)) ∧ Below w.heap.size w w' := by
  have hb : Below w.heap.size w (w.alloc (.cells (idL id).toArray 27)) := (Below.refl _ w).alloc (Nat.le_refl _) _
  have hob : obj (w.alloc (.cells (idL id).toArray 27)) w.heap.size = some (.cells (idL id).toArray 27 (0, 0)) := obj_alloc_at _ _ _ rfl
  have hz : (w.alloc (.cells (idL id).toArray 27)).heap.size = w.heap.size + 1 := by simp
  have HSL := Lib.hid (h.below hb)
  have HB := Lib.hid hb
  have HO := Lib.hid hob
  have HT0 : Hid (bagE l = 0 → countV l id = cnt id l ∧ Asc l) := Lib.hid (fun hE => ⟨by unfold countV; rw [goodV_of hE], (bagE_0 hE).1⟩)
  have HT7 : Hid (bagE l = 70 → countV l id = 0) := Lib.hid (fun hE => by unfold countV; rw [goodV_70 hE]; rfl)
  have HE := Lib.hid (bagE_cases l)
  obtain ⟨oa, cap, rfl, g1, g2, g3⟩ := h
  unfold maxLen at g2
  generalize countV l id = T at *
  clear g3 hb hob
  go_enter Try.func23, Try.ntmps23
  go_wp2
  generalize w.alloc (.cells (idL id).toArray 27) = w0 at *
  generalize hBB : w.heap.size = B at *
  go_loopw [5] (fun v5 wr => ∃ (k : Nat), k ≤ l.length ∧ v5 = .int .i64 k ∧ Hid (k = 0 ∨ bagE l = 0) ∧ Hid (bagE l = 0 → cnt id (l.drop k) = T) ∧ Hid (Below (B + 1) w0 wr)) (fun i _ => l.length - (intOf i).toNat)
  case atStart => exact ⟨0, Nat.zero_le _, rfl, Lib.hid (.inl rfl), Lib.hid (fun hE => (HT0.out hE).1.symm), Lib.hid (Below.refl _ _)⟩
  case round =>
    obtain ⟨k, hk, rfl, HZ, HM, HK⟩ := hrel
    have hzk := HK.out.size
    have hBK := Lib.hid (HB.out.trans (HK.out.mono (by omega)))
    by_cases hlt : k < l.length
    · have dl : decide ((k : Int) < l.length) = true := by simp; omega
      have HC := Lib.hid (checkR_any wr _ l (HSL.out.below (HK.out.mono (by omega))))
      rcases HE.out with hE | hE
      · rw [hE] at HC
        have HD := Lib.hid (cnt_drop (id := id) (HT0.out hE).2 hlt)
        rw [HM.out hE] at HD
        have HEE := Lib.hid hE
        clear hE
        go_wp2_with fail
        refine HC.out.mono ?_
        rintro e w1 ⟨rfl, b1⟩
        have hz1 := b1.size
        have HK1 := Lib.hid (HK.out.trans (b1.mono (by omega)))
        have o3 := (obj_below HK1.out (by omega)).trans HO.out
        clear b1 HC
        obtain ⟨oa', cap', e1, g1', g2', g3'⟩ := HSL.out.below (HK1.out.mono (by omega))
        simp only [Value.slice.injEq] at e1
        obtain ⟨rfl, _, rfl⟩ := e1
        obtain ⟨b, off, hoa, hbb, hrow⟩ := g3' (by omega)
        subst hoa
        have hs1 := hrow k hlt
        have hmulk : off + k * 33 + 33 ≤ off + k * 33 + 33 := Nat.le_refl _
        obtain ⟨p1, p2⟩ := vt_parts hs1
        have p3 : subOf (obj w1 B) 0 32 = some (idL id).toArray := by rw [o3, subOf_cells (by simp), subA_all (by simp)]
        have hBl : B < w1.heap.size := by omega
        clear hrow g3' o3 hs1
        generalize l[k] = x at *
        by_cases hx : x.id = id
        · have dx : decide (x.id = id) = true := by simpa using hx
          have HN := Lib.hid (HD.out.1 hx)
          clear hx HD
          go_wp2
          go_quiet (fail)
          go_wp2
          go_ret
          exact ⟨ret_int HN.out.symm, by rw [hBB]; exact below_drewN (HB.out.trans (HK1.out.mono (by omega))) _⟩
        · have dx : decide (x.id = id) = false := by simpa using hx
          have HN := Lib.hid (HD.out.2 hx)
          clear hx HD
          go_wp2
          go_quiet (fail)
          go_wp2
          go_roundw
          case rel => exact ⟨k + 1, by omega, by go_num, Lib.hid (.inr HEE.out), Lib.hid (fun _ => HN.out.symm), Lib.hid (below_drewN HK1.out _)⟩
          case measure => simp [intOf]; omega
      · rw [hE] at HC
        have HN := Lib.hid (HT7.out hE)
        clear hE
        go_wp2_with fail
        refine HC.out.mono ?_
        rintro e w1 ⟨rfl, b1⟩
        have HK1 := Lib.hid (HK.out.trans (b1.mono (by omega)))
        clear b1 HC
        go_wp2
        go_ret
        exact ⟨ret_int HN.out.symm, by rw [hBB]; exact HB.out.trans (HK1.out.mono (by omega))⟩
    · have dl : decide ((k : Int) < l.length) = false := by simp; omega
      have HG : Hid (0 = T) := Lib.hid (by
        have hkl : k = l.length := by omega
        rcases HE.out with hE | hE
        · have := HM.out hE; rw [List.drop_eq_nil_of_le (by omega)] at this; exact this
        · exact (HT7.out hE).symm)
      go_wp2
      go_ret
      exact ⟨ret_int HG.out, by rw [hBB]; exact hBK.out⟩
set_option maxRecDepth 100000 in
set_option maxHeartbeats 1000000 in
/-- flurryref07.Total -/
theorem totalR_any (w : World) (v : Value) (l : List Vt) (h : SlIn w v 33 vtL l) : Calls Try.prog 25 #[v] w fun e w' => e = .returned (.int .i64 (totV l)) ∧ Below w.heap.size w w' := by
  have HSL := Lib.hid h
  have HT0 : Hid (bagE l = 0 → totV l = sumN l ∧ Pos l ∧ sumN l ≤ 1048576) := Lib.hid (fun hE => ⟨by unfold totV; rw [goodV_of hE], (bagE_0 hE).2⟩)
  have HT7 : Hid (bagE l = 70 → totV l = 0) := Lib.hid (fun hE => by unfold totV; rw [goodV_70 hE]; rfl)
  have HE := Lib.hid (bagE_cases l)
  obtain ⟨oa, cap, rfl, g1, g2, g3⟩ := h
  unfold maxLen at g2
  generalize totV l = T at *
  clear g3
  go_enter Try.func25, Try.ntmps25
  go_wp2
  go_loopw [3, 4] (fun v3 v4 wr => ∃ (k : Nat), k ≤ l.length ∧ v4 = .int .i64 k ∧ v3 = .int .i64 (sumN (l.take k)) ∧ Hid (k = 0 ∨ bagE l = 0) ∧ Hid (Below w.heap.size w wr)) (fun _ i _ => l.length - (intOf i).toNat)
  case atStart => exact ⟨0, Nat.zero_le _, rfl, rfl, Lib.hid (.inl rfl), Lib.hid (Below.refl _ _)⟩
  case round =>
    obtain ⟨k, hk, rfl, rfl, HZ, HK⟩ := hrel
    have hzk := HK.out.size
    by_cases hlt : k < l.length
    · have dl : decide ((k : Int) < l.length) = true := by simp; omega
      have HC := Lib.hid (checkR_any wr _ l (HSL.out.below HK.out))
      rcases HE.out with hE | hE
      · rw [hE] at HC
        have HEE := Lib.hid hE
        obtain ⟨_, hp, hs⟩ := HT0.out hE
        clear hE
        go_wp2_with fail
        refine HC.out.mono ?_
        rintro e w1 ⟨rfl, b1⟩
        have hz1 := b1.size
        have HK1 := Lib.hid (HK.out.trans (b1.mono (by omega)))
        clear b1 HC
        obtain ⟨oa', cap', e1, g1', g2', g3'⟩ := HSL.out.below HK1.out
        simp only [Value.slice.injEq] at e1
        obtain ⟨rfl, _, rfl⟩ := e1
        obtain ⟨b, off, hoa, hbb, hrow⟩ := g3' (by omega)
        subst hoa
        have hs1 := hrow k hlt
        have hmulk : off + k * 33 + 33 ≤ off + k * 33 + 33 := Nat.le_refl _
        have hn : Hid (sumN (l.take (k + 1)) = sumN (l.take k) + l[k].n) := Lib.hid (by rw [List.take_succ_eq_append_getElem hlt, sumN_app]; simp [sumN])
        have h1 := sumN_take hp k
        have h2 := sumN_take hp (k + 1)
        rw [hn.out] at h2
        have hwr : IntKind.i64.wrap (sumN (l.take k) + l[k].n) = sumN (l.take k) + l[k].n := by simp [IntKind.wrap, IntKind.signed, IntKind.bits]; omega
        obtain ⟨p1, p2⟩ := vt_parts hs1
        clear hrow g3' hs1 h1 h2
        generalize l[k] = x at *
        go_wp2
        go_roundw
        case rel => exact ⟨k + 1, by omega, by go_num, by rw [hn.out], Lib.hid (.inr HEE.out), HK1⟩
        case measure => simp [intOf]; omega
      · rw [hE] at HC
        have HN : Hid (sumN (l.take k) = T) := Lib.hid (by
          rw [HT7.out hE]
          rcases HZ.out with rfl | h
          · rfl
          · omega)
        clear hE
        go_wp2_with fail
        refine HC.out.mono ?_
        rintro e w1 ⟨rfl, b1⟩
        have HK1 := Lib.hid (HK.out.trans (b1.mono (by omega)))
        clear b1 HC
        go_wp2
        go_ret
        exact ⟨ret_int HN.out, HK1.out⟩
    · have dl : decide ((k : Int) < l.length) = false := by simp; omega
      have HG : Hid (sumN (l.take k) = T) := Lib.hid (by
        have hkl : k = l.length := by omega
        subst hkl
        rcases HE.out with hE | hE
        · rw [List.take_length]; exact (HT0.out hE).1.symm
        · rw [HT7.out hE]
          rcases HZ.out with h | h
          · rw [h]; rfl
          · omega)
      go_wp2
      go_ret
      exact ⟨ret_int HG.out, HK.out⟩
end Go.Proofs.Ytkjaabajomigkaa
