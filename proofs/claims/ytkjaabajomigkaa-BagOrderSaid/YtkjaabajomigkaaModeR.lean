import Derived.Test.YtkjaabajomigkaaCount
namespace Go.Proofs.Ytkjaabajomigkaa
open Go.RowKit

theorem modeR_facts {w w0 wr : World} {B : Nat} {best : Vt} (h0 : Below B w w0) (hk : Keeps (fun j => j = B + 1) w0 wr) (o1 : obj wr B = some (.cells (idL ID.zero).toArray 27 (0, 0))) (o2 : obj wr (B + 1) = some (.cells (vtL best).toArray 33 (0, 0))) (hz : w0.heap.size = B + 2) (hl : B + 1 < wr.heap.size) :
    subOf (obj (putObj wr B (.cells (idL best.id).toArray 27)) (B + 1)) 0 32 = some (idL best.id).toArray ∧ (putObj wr B (.cells (idL best.id).toArray 27)).cell? ⟨B + 1, 32, none⟩ = some (.int .i64 best.n) ∧ putOf (obj wr B) 0 32 (idL best.id).toArray = some (.cells (idL best.id).toArray 27 (0, 0)) ∧ subOf (obj (putObj wr B (.cells (idL best.id).toArray 27)) B) 0 32 = some (idL best.id).toArray ∧ Below B w (putObj wr B (.cells (idL best.id).toArray 27)) ∧ subOf (obj wr (B + 1)) 0 32 = some (idL best.id).toArray ∧ wr.cell? ⟨B + 1, 32, none⟩ = some (.int .i64 best.n) := by
  obtain ⟨r1, r2⟩ := vt_parts (x := best) (W := wr) (b := B + 1) (o := 0) (by rw [o2, subOf_cells (by simp), subA_all (by simp)])
  rw [Nat.zero_add] at r2
  have q4 : obj (putObj wr B (.cells (idL best.id).toArray 27)) (B + 1) = obj wr (B + 1) := obj_putObj_ne _ _ _ _ (by omega)
  refine ⟨by rw [q4]; exact r1, by rw [cell_putObj_ne (h := by omega)]; exact r2, by rw [o1, putOf_cells (by simp) (by simp) (idL_one _), spliceA_all (by simp)], ?_, ?_, r1, r2⟩
  · rw [obj_putObj_eq _ _ _ (by omega), subOf_cells (by simp), subA_all (by simp)]
  · exact h0.trans ((hk.mono (G := fun j => j = B ∨ j = B + 1) (fun j hj => .inr hj)).putObj (m := B) (.inl rfl) (.cells (idL best.id).toArray 27) |>.below (B := B) (fun j hj => by omega) (by omega))
set_option maxRecDepth 100000 in
set_option maxHeartbeats 2000000 in
/-- flurryref07.Mode -/
theorem modeR_any (w : World) (v : Value) (l : List Vt) (h : SlIn w v 33 vtL l) : Calls Try.prog 20 #[v] w fun e w' => e = .returned (.tuple #[.agg (idL (modeV l).id).toArray, .int .i64 (modeV l).n]) ∧ Below w.heap.size w w' := by
  have hb : Below w.heap.size w ((w.alloc (.cells (idL ID.zero).toArray 27)).alloc (.cells (vtL Vt.zero).toArray 33)) := ((Below.refl _ w).alloc (Nat.le_refl _) _).alloc (by simp) _
  have HSL := Lib.hid h
  have HT0 : Hid (bagE l = 0 → modeV l = modeF Vt.zero l) := Lib.hid (fun hE => by unfold modeV; rw [goodV_of hE]; rfl)
  have HT7 : Hid (bagE l = 70 → modeV l = Vt.zero) := Lib.hid (fun hE => by unfold modeV; rw [goodV_70 hE]; rfl)
  have HE := Lib.hid (bagE_cases l)
  have HB0 := Lib.hid hb
  have O1 := Lib.hid ((obj_alloc_past _ _ _ (by simp)).trans (obj_alloc_at _ _ _ rfl) : obj ((w.alloc (.cells (idL ID.zero).toArray 27)).alloc (.cells (vtL Vt.zero).toArray 33)) w.heap.size = some (.cells (idL ID.zero).toArray 27 (0, 0)))
  have O2 : Hid (obj ((w.alloc (.cells (idL ID.zero).toArray 27)).alloc (.cells (vtL Vt.zero).toArray 33)) (w.heap.size + 1) = some (.cells (vtL Vt.zero).toArray 33 (0, 0))) := Lib.hid (obj_alloc_at _ _ _ (by simp))
  have hz0 : ((w.alloc (.cells (idL ID.zero).toArray 27)).alloc (.cells (vtL Vt.zero).toArray 33)).heap.size = w.heap.size + 2 := by simp
  obtain ⟨oa, cap, rfl, g1, g2, g3⟩ := h
  unfold maxLen at g2
  generalize modeV l = T at *
  clear g3 hb
  go_enter Try.func20, Try.ntmps20
  go_wp2
  generalize (w.alloc (.cells (idL ID.zero).toArray 27)).alloc (.cells (vtL Vt.zero).toArray 33) = w0 at *
  generalize hB : w.heap.size = B at *
  go_loopw [5] (fun v5 wr => ∃ (k : Nat) (best : Vt), k ≤ l.length ∧ v5 = .int .i64 k ∧ Hid ((k = 0 ∧ best = Vt.zero) ∨ bagE l = 0) ∧ Hid (bagE l = 0 → modeF best (l.drop k) = T) ∧ Hid (obj wr (B + 1) = some (.cells (vtL best).toArray 33 (0, 0))) ∧ Hid (obj wr B = some (.cells (idL ID.zero).toArray 27 (0, 0))) ∧ Hid (Keeps (fun j => j = B + 1) w0 wr)) (fun i _ => l.length - (intOf i).toNat)
  case atStart => exact ⟨0, Vt.zero, Nat.zero_le _, rfl, Lib.hid (.inl ⟨rfl, rfl⟩), Lib.hid (fun hE => (HT0.out hE).symm), O2, O1, Lib.hid (Keeps.refl _ _)⟩
  case round =>
    obtain ⟨k, best, hk, rfl, HZ, HM, P2, P1, HK⟩ := hrel
    have hzk := HK.out.size
    have hsl : SlIn wr (.slice oa l.length cap) 33 vtL l := SlIn.of_below (B := w.heap.size) HSL.out (by rw [hB]; exact HB0.out) (by rw [hB]; exact HK.out.below (B := B) (fun k hk => by omega) (by omega))
    by_cases hlt : k < l.length
    · have dl : decide ((k : Int) < l.length) = true := by simp; omega
      have HC := Lib.hid (checkR_any wr _ l hsl)
      rcases HE.out with hE | hE
      · rw [hE] at HC
        have HEE := Lib.hid hE
        have HM2 : Hid (modeF (if best.n < l[k].n then l[k] else best) (l.drop (k + 1)) = T) := Lib.hid (by have := HM.out hE; rw [List.drop_eq_getElem_cons hlt] at this; exact this)
        have HSR := Lib.hid hsl
        clear hE hsl
        go_wp2_with fail
        refine HC.out.mono ?_
        rintro e w1 ⟨rfl, b1⟩
        have hz1 := b1.size
        have HK1 := Lib.hid (HK.out.trans (Keeps.of_below b1))
        have Q1 := Lib.hid ((obj_below b1 (by omega)).trans P1.out)
        have Q2 := Lib.hid ((obj_below b1 (by omega)).trans P2.out)
        obtain ⟨oa', cap', e1, g1', g2', g3'⟩ := HSR.out.below b1
        simp only [Value.slice.injEq] at e1
        obtain ⟨rfl, _, rfl⟩ := e1
        obtain ⟨b, off, hoa, hbb, hrow⟩ := g3' (by omega)
        subst hoa
        have hs1 := hrow k hlt
        have hmulk : off + k * 33 + 33 ≤ off + k * 33 + 33 := Nat.le_refl _
        obtain ⟨p1, p2⟩ := vt_parts hs1
        have q2 := Q2.out
        obtain ⟨_, r2⟩ := vt_parts (x := best) (W := w1) (b := B + 1) (o := 0) (by rw [q2, subOf_cells (by simp), subA_all (by simp)])
        rw [Nat.zero_add] at r2
        have hBl : B + 1 < w1.heap.size := by omega
        clear hrow g3' b1 HC HSR
        generalize l[k] = x at *
        by_cases hgt : best.n < x.n
        · have d1 : decide (best.n < x.n) = true := by simpa using hgt
          rw [if_pos hgt] at HM2
          have pp : putOf (obj w1 (B + 1)) 0 33 (vtL x).toArray = some (.cells (vtL x).toArray 33 (0, 0)) := by
            rw [q2, putOf_cells (by simp) (by simp) (vtL_one x), spliceA_all (by simp)]
          clear q2 hgt
          go_wp2
          go_quiet (fail)
          go_wp2
          go_roundw
          case rel => exact ⟨k + 1, x, by omega, by go_num, Lib.hid (.inr HEE.out), Lib.hid (fun _ => HM2.out), Lib.hid (obj_putObj_eq _ _ _ (by simpa using hBl)), Lib.hid ((obj_putObj_ne _ _ _ _ (by omega)).trans Q1.out), Lib.hid ((HK1.out.drewN _).putObj (m := B + 1) rfl _)⟩
          case measure => simp [intOf]; omega
        · have d1 : decide (best.n < x.n) = false := by simpa using hgt
          rw [if_neg hgt] at HM2
          clear q2 hgt
          go_wp2
          go_quiet (fail)
          go_wp2
          go_roundw
          case rel => exact ⟨k + 1, best, by omega, by go_num, Lib.hid (.inr HEE.out), Lib.hid (fun _ => HM2.out), Q2, Q1, Lib.hid (HK1.out.drewN _)⟩
          case measure => simp [intOf]; omega
      · rw [hE] at HC
        have HG : Hid (best = T) := Lib.hid (by
          rw [HT7.out hE]
          rcases HZ.out with h | h
          · exact h.2
          · omega)
        clear hE hsl
        go_wp2_with fail
        refine HC.out.mono ?_
        rintro e w1 ⟨rfl, b1⟩
        have hz1 := b1.size
        have HK1 := Lib.hid (HK.out.trans (Keeps.of_below b1))
        have Q1 := Lib.hid ((obj_below b1 (by omega)).trans P1.out)
        have Q2 := Lib.hid ((obj_below b1 (by omega)).trans P2.out)
        clear b1 HC
        have HF := modeR_facts HB0.out HK1.out Q1.out Q2.out (by omega) (by omega)
        obtain ⟨r1', r2', pp, p3, hF, r1, r2⟩ := HF
        have HFF := Lib.hid hF
        have hBl : B < w1.heap.size := by omega
        have hBl2 : B + 1 < w1.heap.size := by omega
        clear hF
        go_wp2
        go_region
        all_goals go_wp2
        have p4 : subOf (obj (putObj w1 B (.cells (idL best.id).toArray 27)).drew B) 0 32 = some (idL best.id).toArray := p3
        refine bodyPost_ret (results_cell_tmp rfl _ rfl (by rw [run_load27, p4]; rfl)) rfl ?_
        rw [← HG.out]
        exact ⟨rfl, by rw [hB]; exact HFF.out.drew⟩
    · have dl : decide ((k : Int) < l.length) = false := by simp; omega
      have HG : Hid (best = T) := Lib.hid (by
        have hkl : k = l.length := by omega
        rcases HE.out with hE | hE
        · have := HM.out hE; rw [List.drop_eq_nil_of_le (by omega)] at this; exact this
        · rw [HT7.out hE]
          rcases HZ.out with h | h
          · exact h.2
          · omega)
      have HF := modeR_facts HB0.out HK.out P1.out P2.out (by omega) (by omega)
      obtain ⟨r1', r2', pp, p3, hF, r1, r2⟩ := HF
      have HFF := Lib.hid hF
      have hBl : B < wr.heap.size := by omega
      have hBl2 : B + 1 < wr.heap.size := by omega
      clear hF hsl
      go_wp2
      go_region
      all_goals go_wp2
      have p4 : subOf (obj (putObj wr B (.cells (idL best.id).toArray 27)).drew B) 0 32 = some (idL best.id).toArray := p3
      refine bodyPost_ret (results_cell_tmp rfl _ rfl (by rw [run_load27, p4]; rfl)) rfl ?_
      rw [← HG.out]
      exact ⟨rfl, by rw [hB]; exact HFF.out.drew⟩
set_option maxRecDepth 100000 in
set_option maxHeartbeats 2000000 in
/-- flurryref07.AtLeast -/
theorem atlR_any (w : World) (v : Value) (l : List Vt) (n : Int) (h : SlIn w v 33 vtL l) (hlen : l.length ≤ 1048576) : Calls Try.prog 21 #[v, .int .i64 n] w (RetOwn w 27 32 idL (atlV l n)) := by
  have HSL := Lib.hid h
  have HT0 : Hid (bagE l = 0 → atlV l n = (l.filter fun x => decide (n ≤ x.n)).map (·.id)) := Lib.hid (fun hE => by unfold atlV; rw [goodV_of hE])
  have HT7 : Hid (bagE l = 70 → atlV l n = []) := Lib.hid (fun hE => by unfold atlV; rw [goodV_70 hE]; rfl)
  have HE := Lib.hid (bagE_cases l)
  obtain ⟨oa, cap, rfl, g1, g2, g3⟩ := h
  unfold maxLen at g2
  generalize atlV l n = T at *
  clear g3
  go_enter Try.func21, Try.ntmps21
  go_wp2
  go_loopw [5, 6] (fun v5 v6 wr => ∃ (k : Nat), k ≤ l.length ∧ v6 = .int .i64 k ∧ Hid (k = 0 ∨ bagE l = 0) ∧ Hid (OwnS wr w.heap.size 27 32 idL v5 (((l.take k).filter fun x => decide (n ≤ x.n)).map (·.id))) ∧ Hid (Below w.heap.size w wr)) (fun _ i _ => l.length - (intOf i).toNat)
  case atStart => exact ⟨0, Nat.zero_le _, rfl, Lib.hid (.inl rfl), Lib.hid (OwnS.nil _ _ _ _ _), Lib.hid (Below.refl _ _)⟩
  case round =>
    obtain ⟨k, hk, rfl, HZ, HO, HK⟩ := hrel
    have hzk := HK.out.size
    by_cases hlt : k < l.length
    · have dl : decide ((k : Int) < l.length) = true := by simp; omega
      have HC := Lib.hid (checkR_any wr _ l (HSL.out.below HK.out))
      rcases HE.out with hE | hE
      · rw [hE] at HC
        have HEE := Lib.hid hE
        clear hE
        go_wp2_with fail
        refine HC.out.mono ?_
        rintro e w1 ⟨rfl, b1⟩
        have hz1 := b1.size
        have HK1 := Lib.hid (HK.out.trans (b1.mono hzk))
        have HO1 := Lib.hid (HO.out.below b1)
        clear b1 HC HO
        obtain ⟨oa', cap', e1, g1', g2', g3'⟩ := HSL.out.below HK1.out
        simp only [Value.slice.injEq] at e1
        obtain ⟨rfl, _, rfl⟩ := e1
        obtain ⟨b, off, hoa, hbb, hrow⟩ := g3' (by omega)
        subst hoa
        have hs1 := hrow k hlt
        have hmulk : off + k * 33 + 33 ≤ off + k * 33 + 33 := Nat.le_refl _
        have hn : Hid ((((l.take (k + 1)).filter fun x => decide (n ≤ x.n)).map (·.id)) = (((l.take k).filter fun x => decide (n ≤ x.n)).map (·.id)) ++ if n ≤ l[k].n then [l[k].id] else []) := Lib.hid (by
          rw [List.take_succ_eq_append_getElem hlt, List.filter_append, List.map_append]
          congr 1
          by_cases hx : n ≤ l[k].n <;> simp [hx])
        have hln : Hid ((((l.take k).filter fun x => decide (n ≤ x.n)).map (·.id)).length ≤ 1048576) := Lib.hid (by
          rw [List.length_map]
          have := List.length_filter_le (fun x : Vt => decide (n ≤ x.n)) (l.take k)
          rw [List.length_take] at this
          omega)
        obtain ⟨p1, p2⟩ := vt_parts hs1
        clear hrow g3' hs1
        generalize l[k] = x at *
        generalize ((l.take k).filter fun x => decide (n ≤ x.n)).map (·.id) = ws at *
        by_cases hx : n ≤ x.n
        · have dx : decide (n ≤ x.n) = true := by simpa using hx
          rw [if_pos hx] at hn
          clear hx
          go_wp2_with (at_builtin; refine push23 rfl _ _ rfl w.heap.size u5 ws x.id rfl (HO1.out.alloc _) w1.heap.size rfl (obj_alloc_at _ _ _ rfl) hln.out (by simp; omega) ?_; intro v' w' hO' hB' _; have HO' := Lib.hid hO'; have HB' := Lib.hid ((HK1.out.alloc (by omega) _).trans hB'); clear hO' hB')
          go_roundw
          case rel => exact ⟨k + 1, by omega, by go_num, Lib.hid (.inr HEE.out), by rw [hn.out]; exact HO', HB'⟩
          case measure => simp [intOf]; omega
        · have dx : decide (n ≤ x.n) = false := by simpa using hx
          rw [if_neg hx, List.append_nil] at hn
          clear hx
          go_wp2
          go_roundw
          case rel => exact ⟨k + 1, by omega, by go_num, Lib.hid (.inr HEE.out), by rw [hn.out]; exact HO1, HK1⟩
          case measure => simp [intOf]; omega
      · rw [hE] at HC
        have HN : Hid (OwnS wr w.heap.size 27 32 idL u5 T) := Lib.hid (by
          rw [HT7.out hE]
          rcases HZ.out with rfl | h
          · exact HO.out
          · omega)
        clear hE
        go_wp2_with fail
        refine HC.out.mono ?_
        rintro e w1 ⟨rfl, b1⟩
        have HK1 := Lib.hid (HK.out.trans (b1.mono hzk))
        have HN1 := Lib.hid (HN.out.below b1)
        clear b1 HC
        go_wp2
        go_ret
        exact ⟨_, rfl, HN1.out, HK1.out⟩
    · have dl : decide ((k : Int) < l.length) = false := by simp; omega
      have HG : Hid (OwnS wr w.heap.size 27 32 idL u5 T) := Lib.hid (by
        have hkl : k = l.length := by omega
        have h0 := HO.out
        rcases HE.out with hE | hE
        · rw [HT0.out hE]; rw [hkl, List.take_length] at h0; exact h0
        · rw [HT7.out hE]
          rcases HZ.out with h | h
          · rw [h] at h0; exact h0
          · omega)
      go_wp2
      go_ret
      exact ⟨_, rfl, HG.out, HK.out⟩
end Go.Proofs.Ytkjaabajomigkaa
