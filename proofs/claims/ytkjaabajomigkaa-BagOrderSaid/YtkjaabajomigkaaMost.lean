import Derived.Test.YtkjaabajomigkaaParts
import Derived.Test.YtkjaabajomigkaaAtl
namespace Go.Proofs.Ytkjaabajomigkaa
open Go.RowKit

theorem atl_most {l : List Vt} (hE : bagE l = 0) {k : Int} (hk : 1 ≤ k) (m : Nat) : k * (((atlV l k).take m).length : Int) ≤ sumN l := by
  obtain ⟨_, hp, _⟩ := bagE_0 hE
  have h1 := atl_len hk hp
  have h2 : atlV l k = (l.filter fun x => decide (k ≤ x.n)).map (·.id) := by unfold atlV; rw [goodV_of hE]
  rw [← h2] at h1
  have h3 : ((atlV l k).take m).length ≤ (atlV l k).length := by rw [List.length_take]; omega
  have h4 : k * (((atlV l k).take m).length : Int) ≤ k * ((atlV l k).length : Int) := Int.mul_le_mul_of_nonneg_left (by omega) (by omega)
  omega
/-- the calls at a law's end -/
def MostP (w : World) (e : Ending) (w' : World) : Prop := e = .returned (.bool true) ∧ Below w.heap.size w w'
set_option maxRecDepth 100000 in
set_option maxHeartbeats 2000000 in
/-- BagMost -/
theorem mostLaw_any (w : World) (va : Value) (l : List Vt) (n : Int) (h1 : SlIn w va 33 vtL l) (hn0 : 0 ≤ n) (hn1 : n ≤ 65535) :
    Calls Try.prog 5 #[va, .int .u16 n] w fun e w' => e = .returned (.bool true) ∧ Below w.heap.size w w' := by
  have HL := fun W => Lib.hid (live_any W)
  have H1 := Lib.hid h1
  have HFE := fun w1 hb => Lib.hid (few_row w w1 va l h1 hb)
  obtain ⟨oa, ca, rfl, a1, a2, a3⟩ := h1
  have HR := Lib.hid a3
  unfold maxLen at a2
  clear a3
  by_cases hn : l.length ≤ 60
  · rw [show decide (l.length ≤ 60) = true from decide_eq_true hn] at HFE
    rcases bagE_cases l with hE | hE
    · have hmc := mode_count hE
      obtain ⟨ha, hp, hs⟩ := bagE_0 hE
      have HAT := Lib.hid (fun k hk m => atl_most hE (k := k) hk m)
      have hgv := goodV_of hE
      have HCN : Hid (∀ k (h : k < l.length), countV l l[k].id = l[k].n ∧ 1 ≤ l[k].n ∧ l[k].n ≤ (modeV l).n) := Lib.hid (fun k h => ⟨by unfold countV; rw [hgv]; exact cnt_at ha (List.getElem_mem h), hp _ (List.getElem_mem h), hmc.2 _ (List.getElem_mem h)⟩)
      have HCM := Lib.hid hmc.1
      have HTO := Lib.hid (totV_of hE)
      have HST : Hid (∀ k (h : k < l.length), sumN (l.take (k + 1)) = sumN (l.take k) + l[k].n ∧ 0 ≤ sumN (l.take k) ∧ sumN (l.take (k + 1)) ≤ 1048576) := Lib.hid (fun k h => by
        have h1 := sumN_take hp k
        have h2 := sumN_take hp (k + 1)
        exact ⟨by rw [List.take_succ_eq_append_getElem h, sumN_app]; simp [sumN], h1.1, by omega⟩)
      have hs0 := sumN_pos hp
      have hwn : IntKind.i64.wrap n = n := by simp [IntKind.wrap, IntKind.signed, IntKind.bits]; omega
      have hwn1 : IntKind.i64.wrap (n + 1) = n + 1 := by simp [IntKind.wrap, IntKind.signed, IntKind.bits]; omega
      clear hmc ha hp hgv
      go_enter Try.func5, Try.ntmps5
      go_wp2_with fail
      refine (HL _).out.mono ?_
      rintro e w1 ⟨rfl, bb1⟩
      have HF := Lib.hid (HFE w1 bb1).out
      clear bb1 HFE
      go_wp2_with fail
      refine HF.out.mono ?_
      rintro e w3 ⟨rfl, b3⟩
      have B3 := Lib.hid b3
      have HC := Lib.hid (check_any w3 _ l (H1.out.below b3))
      rw [hE] at HC
      clear b3 HF hE
      go_wp2_with fail
      refine HC.out.mono ?_
      rintro e w4 ⟨rfl, b4⟩
      have B4 := Lib.hid (B3.out.trans (b4.mono B3.out.size))
      have HMO := Lib.hid (mode_any w4 _ l (H1.out.below B4.out))
      clear b4 HC
      generalize modeV l = mo at *
      go_wp2_with fail
      refine HMO.out.mono ?_
      rintro e w5 ⟨rfl, b5⟩
      have B5 := Lib.hid (B4.out.trans (b5.mono B4.out.size))
      have hz5 := B5.out.size
      have B6 := Lib.hid (B5.out.alloc hz5 (.cells (idL mo.id).toArray 27))
      have O6 : Hid (obj (w5.alloc (.cells (idL mo.id).toArray 27)) w5.heap.size = some (.cells (idL mo.id).toArray 27 (0, 0))) := Lib.hid (obj_alloc_at _ _ _ rfl)
      have hz6 : (w5.alloc (.cells (idL mo.id).toArray 27)).heap.size = w5.heap.size + 1 := by simp
      clear b5 HMO
      go_wp2
      generalize w5.alloc (.cells (idL mo.id).toArray 27) = w6 at *
      generalize w5.heap.size = mb at *
      go_loopw [5, 34] (fun v5 v34 wr => ∃ k : Nat, k ≤ l.length ∧ v34 = .int .i64 k ∧ v5 = .int .i64 (sumN (l.take k)) ∧ Hid (Below w6.heap.size w6 wr)) (fun _ i _ => l.length - (intOf i).toNat)
      case atStart => exact ⟨0, Nat.zero_le _, rfl, rfl, Lib.hid (Below.refl _ _)⟩
      case round =>
        obtain ⟨k, hk, rfl, rfl, HQ⟩ := hrel
        have hzq := HQ.out.size
        have HB := Lib.hid (B6.out.trans (HQ.out.mono (by omega)))
        have O6r := Lib.hid ((obj_below HQ.out (by omega)).trans O6.out)
        by_cases hlt : k < l.length
        · obtain ⟨b, off, hoa, hbb, hrow⟩ := HR.out (by omega)
          subst hoa
          have hs1 := hrow k hlt
          rw [← obj_below HB.out hbb] at hs1
          have hbl : b < wr.heap.size := by omega
          have hmulk : off + k * 33 + 33 ≤ off + k * 33 + 33 := Nat.le_refl _
          obtain ⟨c1, c2, c3⟩ := HCN.out k hlt
          obtain ⟨t1, t2, t3⟩ := HST.out k hlt
          have o2 : obj (wr.alloc (.cells (vtL l[k]).toArray 33)) wr.heap.size = some (.cells (vtL l[k]).toArray 33 (0, 0)) := obj_alloc_at _ _ _ rfl
          have hba : Below wr.heap.size wr (wr.alloc (.cells (vtL l[k]).toArray 33)) := (Below.refl _ _).alloc (Nat.le_refl _) _
          have HQ2 := Lib.hid (HQ.out.trans (hba.mono hzq))
          have HCO := Lib.hid (count_any _ _ l l[k].id (H1.out.below (HB.out.trans (hba.mono (by omega)))))
          rw [c1] at HCO
          have hwr : IntKind.i64.wrap (sumN (l.take k) + l[k].n) = sumN (l.take k) + l[k].n := by simp [IntKind.wrap, IntKind.signed, IntKind.bits]; omega
          have d1 : (l[k].n != l[k].n) = false := by simp
          have d2 : decide (mo.n < l[k].n) = false := by simp; omega
          have HT1 := Lib.hid t1
          clear hrow hba c1 t1 t2 t3
          generalize l[k] = x at *
          obtain ⟨p1, p2⟩ := vt_parts (x := x) (W := wr.alloc (.cells (vtL x).toArray 33)) (b := wr.heap.size) (o := 0) (by rw [o2, subOf_cells (by simp), subA_all (by simp)])
          rw [Nat.zero_add] at p2
          have O2 := Lib.hid o2
          have hzx : (wr.alloc (.cells (vtL x).toArray 33)).heap.size = wr.heap.size + 1 := by simp
          clear o2
          go_wp2_with fail
          generalize wr.alloc (.cells (vtL x).toArray 33) = wx at *
          generalize hbx : wr.heap.size = bx at *
          clear hs1
          refine HCO.out.mono ?_
          rintro e w7 ⟨rfl, b7⟩
          have hz7 := b7.size
          have HQ7 := Lib.hid (HQ2.out.trans (b7.mono (by omega)))
          obtain ⟨_, p2⟩ := vt_parts (x := x) (W := w7) (b := bx) (o := 0) (by rw [obj_below b7 (by omega), O2.out, subOf_cells (by simp), subA_all (by simp)])
          rw [Nat.zero_add] at p2
          clear b7 HCO
          go_wp2
          go_roundw
          case rel => exact ⟨k + 1, by omega, by go_num, by rw [HT1.out], HQ7⟩
          case measure => simp [intOf]; omega
        · have hke : sumN (l.take k) = sumN l := by rw [List.take_of_length_le (by omega)]
          rw [hke]
          generalize hS : sumN l = S at *
          have HA1 := Lib.hid (atl_any wr _ l (n + 1) (H1.out.below HB.out))
          clear HR HL
          go_wp2_with fail
          refine HA1.out.mono ?_
          rintro e w7 ⟨sb, nb, D, rfl, b7, hD, hsq⟩
          have HB7 := Lib.hid (HB.out.trans (b7.mono (by omega)))
          have HTL := Lib.hid (told_atl w7 w7 l (n + 1) sb nb D hD hsq (Below.refl _ _) 1048576)
          have O7 := Lib.hid ((obj_below b7 (by omega)).trans O6r.out)
          clear hsq b7 HA1
          have HM1 := Lib.hid (HAT.out (n + 1) (by omega) (1048576 : Int).toNat)
          generalize (atlV l (n + 1)).take (1048576 : Int).toNat = A1 at *
          go_wp2_with fail
          refine HTL.out.mono ?_
          rintro e w8 ⟨v8, rfl, o8, b8⟩
          have hz7 := HB7.out.size
          have HB8 := Lib.hid (HB7.out.trans (b8.mono hz7))
          have O8 := Lib.hid ((obj_below b8 (lt_of_obj O7.out)).trans O7.out)
          have HTT := Lib.hid (total_any w8 _ l (H1.out.below HB8.out))
          rw [HTO.out] at HTT
          obtain ⟨ov, cv, rfl⟩ := o8.slice
          clear o8 b8 HTL
          go_wp2_with fail
          refine HTT.out.mono ?_
          rintro e w9 ⟨rfl, b9⟩
          have HB9 := Lib.hid (HB8.out.trans (b9.mono HB8.out.size))
          have O9 := Lib.hid ((obj_below b9 (lt_of_obj O8.out)).trans O8.out)
          have p9 : subOf (obj w9 mb) 0 32 = some (idL mo.id).toArray := by rw [O9.out, subOf_cells (by simp), subA_all (by simp)]
          have hl9 := lt_of_obj O9.out
          have HCC := Lib.hid (count_any w9 _ l mo.id (H1.out.below HB9.out))
          rw [HCM.out] at HCC
          clear b9 HTT
          go_wp2_with fail
          refine HCC.out.mono ?_
          rintro e w10 ⟨rfl, b10⟩
          have HB10 := Lib.hid (HB9.out.trans (b10.mono HB9.out.size))
          clear b10 HCC
          have dq : decide ((A1.length : Int) ≤ S / (n + 1)) = true := by
            simp only [decide_eq_true_eq]
            refine Int.le_ediv_of_mul_le (by omega) ?_
            rw [Int.mul_comm]; exact HM1.out
          have hs2 : 1 ≤ S / 2 + 1 := by omega
          have HA2 := Lib.hid (atl_any w10 _ l (S / 2 + 1) (H1.out.below HB10.out))
          have HM2 := Lib.hid (HAT.out (S / 2 + 1) hs2 (1048576 : Int).toNat)
          go_wp2_with fail
          refine HA2.out.mono ?_
          rintro e w11 ⟨sb2, nb2, D2, rfl, b11, hD2, hsq2⟩
          have HB11 := Lib.hid (HB10.out.trans (b11.mono HB10.out.size))
          have HTL2 := Lib.hid (told_atl w11 w11 l (S / 2 + 1) sb2 nb2 D2 hD2 hsq2 (Below.refl _ _) 1048576)
          clear hsq2 b11 HA2
          generalize (atlV l (S / 2 + 1)).take (1048576 : Int).toNat = A2 at *
          have HL2 : Hid (A2.length ≤ 1) := Lib.hid (by
            have h0 := HM2.out
            by_cases h2 : A2.length ≤ 1
            · exact h2
            · exfalso
              have h3 : (S / 2 + 1) * 2 ≤ (S / 2 + 1) * (A2.length : Int) := Int.mul_le_mul_of_nonneg_left (by omega) (by omega)
              omega)
          go_wp2_with fail
          refine HTL2.out.mono ?_
          rintro e w12 ⟨v12, rfl, o12, b12⟩
          have HB12 := Lib.hid (HB11.out.trans (b12.mono HB11.out.size))
          obtain ⟨ov2, cv2, rfl⟩ := o12.slice
          have d12 : decide ((A2.length : Int) ≤ 1) = true := by have := HL2.out; simp; omega
          clear o12 b12 HTL2
          go_wp2
          go_ret
          exact ⟨rfl, HB12.out⟩
    · go_enter Try.func5, Try.ntmps5
      go_wp2_with fail
      refine (HL _).out.mono ?_
      rintro e w1 ⟨rfl, bb1⟩
      have HF := Lib.hid (HFE w1 bb1).out
      clear bb1 HFE
      go_wp2_with fail
      refine HF.out.mono ?_
      rintro e w3 ⟨rfl, b3⟩
      have B3 := Lib.hid b3
      have HC := Lib.hid (check_any w3 _ l (H1.out.below b3))
      rw [hE] at HC
      clear b3 HF hE
      go_wp2_with fail
      refine HC.out.mono ?_
      rintro e w4 ⟨rfl, b4⟩
      have B4 := Lib.hid (B3.out.trans (b4.mono B3.out.size))
      clear b4 HC
      go_wp2_with fail
      refine (HL _).out.mono ?_
      rintro e w5 ⟨rfl, b5⟩
      have B5 := Lib.hid (B4.out.trans (b5.mono B4.out.size))
      clear b5
      go_wp2
      go_ret
      exact ⟨rfl, B5.out⟩
  · rw [show decide (l.length ≤ 60) = false from decide_eq_false hn] at HFE
    go_enter Try.func5, Try.ntmps5
    go_wp2_with fail
    refine (HL _).out.mono ?_
    rintro e w1 ⟨rfl, bb1⟩
    have HF := Lib.hid (HFE w1 bb1).out
    clear bb1 HFE
    go_wp2_with fail
    refine HF.out.mono ?_
    rintro e w3 ⟨rfl, b3⟩
    have B3 := Lib.hid b3
    clear b3 HF
    go_wp2_with fail
    refine (HL _).out.mono ?_
    rintro e w5 ⟨rfl, b5⟩
    have B5 := Lib.hid (B3.out.trans (b5.mono B3.out.size))
    clear b5
    go_wp2
    go_ret
    exact ⟨rfl, B5.out⟩
end Go.Proofs.Ytkjaabajomigkaa
