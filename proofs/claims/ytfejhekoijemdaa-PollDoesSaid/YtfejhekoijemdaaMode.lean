import Derived.Test.YtfejhekoijemdaaGoT
namespace Go.Proofs.Ytfejhekoijemdaa
open Go.RowKit

set_option maxRecDepth 100000 in
set_option maxHeartbeats 2000000 in
/-- bag.Mode -/
theorem mode_any (w : World) (v : Value) (l : List Vt) (h : SlIn w v 33 vtL l) : Calls Try.prog 52 #[v] w fun e w' => e = .returned (.tuple #[.agg (idL (modeV l).id).toArray, .int .i64 (modeV l).n]) ∧ Below w.heap.size w w' := by
  have hb : Below w.heap.size w ((w.alloc (.cells (idL ID.zero).toArray 37)).alloc (.cells (vtL Vt.zero).toArray 58)) := ((Below.refl _ w).alloc (Nat.le_refl _) _).alloc (by simp) _
  have HC := Lib.hid (good_at _ w v l h hb)
  have HT : Hid (modeV l = modeF Vt.zero (goodV l)) := Lib.hid rfl
  have HB0 := Lib.hid hb
  have o1 : obj ((w.alloc (.cells (idL ID.zero).toArray 37)).alloc (.cells (vtL Vt.zero).toArray 58)) w.heap.size = some (.cells (idL ID.zero).toArray 37 (0, 0)) := (obj_alloc_past _ _ _ (by simp)).trans (obj_alloc_at _ _ _ rfl)
  have o2 : obj ((w.alloc (.cells (idL ID.zero).toArray 37)).alloc (.cells (vtL Vt.zero).toArray 58)) (w.heap.size + 1) = some (.cells (vtL Vt.zero).toArray 58 (0, 0)) := obj_alloc_at _ _ _ (by simp)
  have hz0 : ((w.alloc (.cells (idL ID.zero).toArray 37)).alloc (.cells (vtL Vt.zero).toArray 58)).heap.size = w.heap.size + 2 := by simp
  generalize modeV l = T at *
  generalize goodV l = g at *
  clear h hb
  go_enter Try.func52, Try.ntmps52
  go_wp2_with fail
  generalize (w.alloc (.cells (idL ID.zero).toArray 37)).alloc (.cells (vtL Vt.zero).toArray 58) = w0 at *
  generalize hB : w.heap.size = B at *
  refine HC.out.mono ?_
  rintro e w1 ⟨oa, cap, rfl, ⟨oa', cap', e1, g1, g2, g3⟩, b1⟩
  simp only [Value.slice.injEq] at e1
  obtain ⟨rfl, _, rfl⟩ := e1
  unfold maxLen at g2
  have H3 := Lib.hid g3
  have B1 := Lib.hid b1
  have O1 := Lib.hid ((obj_below b1 (by omega : B < w0.heap.size)).trans o1)
  have O2 := Lib.hid ((obj_below b1 (by omega : B + 1 < w0.heap.size)).trans o2)
  clear g3 b1 HC o1 o2
  go_wp2
  go_loopw [10] (fun v10 wr => ∃ (k : Nat) (best : Vt), k ≤ g.length ∧ v10 = .int .i64 k ∧ Hid (modeF best (g.drop k) = T) ∧ Hid (obj wr (B + 1) = some (.cells (vtL best).toArray 58 (0, 0))) ∧ Hid (obj wr B = some (.cells (idL ID.zero).toArray 37 (0, 0))) ∧ Hid (Keeps (fun j => j = B + 1) w0 wr)) (fun i _ => g.length - (intOf i).toNat)
  case atStart => exact ⟨0, Vt.zero, Nat.zero_le _, rfl, Lib.hid HT.out.symm, O2, O1, Lib.hid (Keeps.of_below B1.out)⟩
  case round =>
    obtain ⟨k, best, hk, rfl, HM, P2, P1, HK⟩ := hrel
    have hzk := HK.out.size
    by_cases hlt : k < g.length
    · obtain ⟨b, off, hoa, hbb, hrow⟩ := H3.out (by omega)
      subst hoa
      have hs1 := hrow k hlt
      have hbe : obj wr b = obj w b := (HK.out.block b (by omega) (by omega)).trans (obj_below HB0.out (by omega))
      rw [← hbe] at hs1
      have hbl : b < wr.heap.size := by omega
      have hmulk : off + k * 33 + 33 ≤ off + k * 33 + 33 := Nat.le_refl _
      have HM2 : Hid (modeF (if best.n < g[k].n then g[k] else best) (g.drop (k + 1)) = T) := Lib.hid (by have := HM.out; rw [List.drop_eq_getElem_cons hlt] at this; exact this)
      clear hrow hbe
      generalize g[k] = x at *
      have o2 : obj (wr.alloc (.cells (vtL x).toArray 58)) wr.heap.size = some (.cells (vtL x).toArray 58 (0, 0)) := obj_alloc_at _ _ _ rfl
      obtain ⟨_, p2⟩ := vt_parts (x := x) (W := wr.alloc (.cells (vtL x).toArray 58)) (b := wr.heap.size) (o := 0) (by rw [o2, subOf_cells (by simp), subA_all (by simp)])
      rw [Nat.zero_add] at p2
      have q2 : obj (wr.alloc (.cells (vtL x).toArray 58)) (B + 1) = some (.cells (vtL best).toArray 58 (0, 0)) := (obj_alloc_past _ _ _ (by omega)).trans P2.out
      have q1 : obj (wr.alloc (.cells (vtL x).toArray 58)) B = some (.cells (idL ID.zero).toArray 37 (0, 0)) := (obj_alloc_past _ _ _ (by omega)).trans P1.out
      obtain ⟨_, r2⟩ := vt_parts (x := best) (W := wr.alloc (.cells (vtL x).toArray 58)) (b := B + 1) (o := 0) (by rw [q2, subOf_cells (by simp), subA_all (by simp)])
      rw [Nat.zero_add] at r2
      have HK2 := Lib.hid (HK.out.alloc (.cells (vtL x).toArray 58))
      have hzz : (wr.alloc (.cells (vtL x).toArray 58)).heap.size = wr.heap.size + 1 := by simp
      have HQ1 := Lib.hid q1
      have HQ2 := Lib.hid q2
      by_cases hgt : best.n < x.n
      · have d1 : decide (best.n < x.n) = true := by simpa using hgt
        rw [if_pos hgt] at HM2
        have px : subOf (obj (wr.alloc (.cells (vtL x).toArray 58)) wr.heap.size) 0 33 = some (vtL x).toArray := by rw [o2, subOf_cells (by simp), subA_all (by simp)]
        have pp : putOf (obj (wr.alloc (.cells (vtL x).toArray 58)) (B + 1)) 0 33 (vtL x).toArray = some (.cells (vtL x).toArray 58 (0, 0)) := by
          rw [q2, putOf_cells (by simp) (by simp) (vtL_one x), spliceA_all (by simp)]
        clear o2 q1 q2 hgt
        go_wp2
        go_roundw
        case rel => exact ⟨k + 1, x, by omega, by go_num, HM2, Lib.hid (obj_putObj_eq _ _ _ (by omega)), Lib.hid ((obj_putObj_ne _ _ _ _ (by omega)).trans HQ1.out), Lib.hid (HK2.out.putObj (m := B + 1) rfl _)⟩
        case measure => simp [intOf]; omega
      · have d1 : decide (best.n < x.n) = false := by simpa using hgt
        rw [if_neg hgt] at HM2
        clear o2 q1 q2 hgt
        go_wp2
        go_roundw
        case rel => exact ⟨k + 1, best, by omega, by go_num, HM2, HQ2, HQ1, HK2⟩
        case measure => simp [intOf]; omega
    · have HG : Hid (best = T) := Lib.hid (by have := HM.out; rw [List.drop_eq_nil_of_le (by omega)] at this; exact this)
      have q2 := P2.out
      obtain ⟨r1, r2⟩ := vt_parts (x := best) (W := wr) (b := B + 1) (o := 0) (by rw [q2, subOf_cells (by simp), subA_all (by simp)])
      rw [Nat.zero_add] at r2
      have pp : putOf (obj wr B) 0 32 (idL best.id).toArray = some (.cells (idL best.id).toArray 37 (0, 0)) := by
        rw [P1.out, putOf_cells (by simp) (by simp) (idL_one _), spliceA_all (by simp)]
      have hBl : B < wr.heap.size := by omega
      have q3 : obj (putObj wr B (.cells (idL best.id).toArray 37)) B = some (.cells (idL best.id).toArray 37 (0, 0)) := obj_putObj_eq _ _ _ hBl
      have p3 : subOf (obj (putObj wr B (.cells (idL best.id).toArray 37)) B) 0 32 = some (idL best.id).toArray := by rw [q3, subOf_cells (by simp), subA_all (by simp)]
      have q4 : obj (putObj wr B (.cells (idL best.id).toArray 37)) (B + 1) = obj wr (B + 1) := obj_putObj_ne _ _ _ _ (by omega)
      have r1' := r1
      rw [← q4] at r1'
      have r2' : (putObj wr B (.cells (idL best.id).toArray 37)).cell? ⟨B + 1, 32, none⟩ = some (.int .i64 best.n) := by rw [cell_putObj_ne (h := by omega)]; exact r2
      have HF := Lib.hid (HB0.out.trans ((HK.out.mono (G := fun j => j = B ∨ j = B + 1) (fun j hj => .inr hj)).putObj (m := B) (.inl rfl) (.cells (idL best.id).toArray 37) |>.below (B := B) (fun j hj => by omega) (by omega)))
      clear q2 q4
      go_wp2
      go_region
      all_goals go_wp2
      have p4 : subOf (obj (putObj wr B (.cells (idL best.id).toArray 37)).drew B) 0 32 = some (idL best.id).toArray := p3
      refine bodyPost_ret (results_cell_tmp rfl _ rfl (by rw [run_load37, p4]; rfl)) rfl ?_
      rw [← HG.out]
      exact ⟨rfl, by rw [hB]; exact HF.out.drew⟩
end Go.Proofs.Ytfejhekoijemdaa
