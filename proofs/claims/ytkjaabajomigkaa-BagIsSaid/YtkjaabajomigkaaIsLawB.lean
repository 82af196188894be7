import Derived.Test.YtkjaabajomigkaaIsLaw
namespace Go.Proofs.Ytkjaabajomigkaa
open Go.RowKit

set_option maxRecDepth 100000 in
set_option maxHeartbeats 2000000 in
theorem isLaw_few (w : World) (va vb vi : Value) (xs ys : List Vt) (ids : List ID) (h1 : SlIn w va 33 vtL xs) (h2 : SlIn w vb 33 vtL ys) (h3 : SlIn w vi 32 idL ids) (hn : xs.length ≤ 60 ∧ ys.length ≤ 60) (hm : ids.length ≤ 60) :
    Calls Try.prog 3 #[va, vb, vi] w fun e w' => e = .returned (.bool true) ∧ Below w.heap.size w w' := by
  have HL := fun W => Lib.hid (live_any W)
  have H1 := Lib.hid h1
  have H2 := Lib.hid h2
  have H3 := Lib.hid h3
  obtain ⟨oa, ca, rfl, a1, a2, a3⟩ := h1
  obtain ⟨ob, cb, rfl, b1, b2, b3⟩ := h2
  obtain ⟨oc, cc, rfl, c1, c2, c3⟩ := h3
  unfold maxLen at c2
  have HR := Lib.hid c3
  clear a3 b3 c3
  have d60 : decide ((60 : Int) < (ids.length : Int)) = false := by simp; omega
  go_enter Try.func3, Try.ntmps3
  go_wp2_with fail
  refine (HL _).out.mono ?_
  rintro e w1 ⟨rfl, bb1⟩
  have B1 := Lib.hid bb1
  have o2 : obj (w1.alloc (.cells #[.slice oa xs.length ca, .slice ob ys.length cb] 22)) w1.heap.size = some (.cells #[.slice oa xs.length ca, .slice ob ys.length cb] 22 (0, 0)) := obj_alloc_at _ _ _ rfl
  have hb2 : Below w1.heap.size w1 (w1.alloc (.cells #[.slice oa xs.length ca, .slice ob ys.length cb] 22)) := (Below.refl _ _).alloc (Nat.le_refl _) _
  have HF := Lib.hid (few_any _ _ _ _ xs ys ((H1.out.below bb1).below hb2) ((H2.out.below bb1).below hb2) 22 (0, 0) o2)
  rw [show decide (xs.length ≤ 60 ∧ ys.length ≤ 60) = true from decide_eq_true hn] at HF
  have B2 := Lib.hid (bb1.trans (hb2.mono bb1.size))
  clear bb1 o2 hb2
  go_wp2_with fail
  refine HF.out.mono ?_
  rintro e w3 ⟨rfl, b3⟩
  have B3 := Lib.hid (B2.out.trans (b3.mono B2.out.size))
  clear b3 HF B2 B1
  go_wp2
  go_loopw [28] (fun v28 wr => ∃ k : Nat, k ≤ ids.length ∧ v28 = .int .i64 k ∧ Hid (Below w.heap.size w wr)) (fun i _ => ids.length - (intOf i).toNat)
  case atStart => exact ⟨0, Nat.zero_le _, rfl, B3⟩
  case round =>
    obtain ⟨k, hk, rfl, HB⟩ := hrel
    by_cases hlt : k < ids.length
    · obtain ⟨b, off, hoa, hbb, hrow⟩ := HR.out (by omega)
      subst hoa
      have HROW := Lib.hid hrow
      have hs1 := hrow k hlt
      rw [← obj_below HB.out hbb] at hs1
      have hbl : b < wr.heap.size := Nat.lt_of_lt_of_le hbb HB.out.size
      have hmulk : off + k * 32 + 32 ≤ off + k * 32 + 32 := Nat.le_refl _
      have HB2 := Lib.hid (HB.out.alloc HB.out.size (.cells (idL ids[k]).toArray 27))
      have O2 := Lib.hid (obj_alloc_at wr (.cells (idL ids[k]).toArray 27) wr.heap.size rfl)
      have hzk := HB.out.size
      have hzz : (wr.alloc (.cells (idL ids[k]).toArray 27)).heap.size = wr.heap.size + 1 := by simp
      clear hrow
      generalize ids[k] = x at *
      go_wp2
      generalize wr.alloc (.cells (idL x).toArray 27) = wx at *
      generalize hbx : wr.heap.size = bx at *
      clear hs1 HB
      go_loopw [34] (fun v34 wr => ∃ j : Nat, j ≤ ids.length ∧ v34 = .int .i64 j ∧ Hid (Below (bx + 1) wx wr)) (fun i _ => ids.length - (intOf i).toNat)
      case atStart => exact ⟨0, Nat.zero_le _, rfl, Lib.hid (Below.refl _ _)⟩
      case round =>
        obtain ⟨j, hj, rfl, HBj⟩ := hrel
        have hzj := HBj.out.size
        by_cases hjt : j < ids.length
        · have hs2 := HROW.out j hjt
          rw [← obj_below HB2.out hbb, ← obj_below HBj.out (by omega)] at hs2
          have hbl2 : b < wr.heap.size := by omega
          have hmulj : off + j * 32 + 32 ≤ off + j * 32 + 32 := Nat.le_refl _
          have ox := (obj_below HBj.out (Nat.lt_succ_self bx)).trans O2.out
          have HC1 := Lib.hid (fun W : Later (wr.alloc (.cells (idL ids[j]).toArray 27)) => less_any W.w x ids[j])
          have HC2 := Lib.hid (fun W : Later (wr.alloc (.cells (idL ids[j]).toArray 27)) => lessR_any W.w x ids[j])
          have oy : obj (wr.alloc (.cells (idL ids[j]).toArray 27)) wr.heap.size = some (.cells (idL ids[j]).toArray 27 (0, 0)) := obj_alloc_at _ _ _ rfl
          have ox2 : obj (wr.alloc (.cells (idL ids[j]).toArray 27)) bx = some (.cells (idL x).toArray 27 (0, 0)) := (obj_alloc_past _ _ _ (by omega)).trans ox
          have HBy := Lib.hid (HBj.out.alloc (by omega) (.cells (idL ids[j]).toArray 27))
          have hzy : (wr.alloc (.cells (idL ids[j]).toArray 27)).heap.size = wr.heap.size + 1 := by simp
          have px : subOf (obj (wr.alloc (.cells (idL ids[j]).toArray 27)) bx) 0 32 = some (idL x).toArray := by rw [ox2, subOf_cells (by simp), subA_all (by simp)]
          have py : subOf (obj (wr.alloc (.cells (idL ids[j]).toArray 27)) wr.heap.size) 0 32 = some (idL ids[j]).toArray := by rw [oy, subOf_cells (by simp), subA_all (by simp)]
          have hbxl : bx < (wr.alloc (.cells (idL ids[j]).toArray 27)).heap.size := by omega
          have hbyl : wr.heap.size < (wr.alloc (.cells (idL ids[j]).toArray 27)).heap.size := by omega
          generalize ids[j] = y at *
          generalize ltI x y = t at *
          clear ox oy ox2 hzy hzj
          go_wp2
          generalize wr.alloc (.cells (idL y).toArray 27) = wy at *
          refine wp_region_later wy (Below.refl _ _) (by kernel_rfl) (by kernel_rfl) ?_
          repeat (go_big_quiet_step (first | (go_at_call 11; with_reducible exact Calls.later (HC1.out _)) | (go_at_call 12; with_reducible exact Calls.later (HC2.out _)) | fail))
          refine wpQuiet_nil ?_
          intro _ hx
          obtain ⟨⟨wz, hbz⟩, hx⟩ := hx
          subst hx
          rename_i wz
          have HBZ := Lib.hid (HBy.out.trans (hbz.mono (by have := HBy.out.size; omega)))
          clear hbz
          go_wp2
          go_roundw
          case rel => exact ⟨j + 1, by omega, by go_num, HBZ⟩
          case measure => simp [intOf]; omega
        · go_wp2
          go_roundw
          case rel => exact ⟨k + 1, by omega, by go_num, Lib.hid (HB2.out.trans (HBj.out.mono (by omega)))⟩
          case measure => simp [intOf]; omega
    · have hz := HB.out.size
      have HK1 := Lib.hid (check_any wr _ xs (H1.out.below HB.out))
      clear HR HL
      go_wp2_with fail
      refine HK1.out.mono ?_
      rintro e w5 ⟨rfl, b5⟩
      have HB5 := Lib.hid (HB.out.trans (b5.mono hz))
      have HK2 := Lib.hid (checkR_any w5 _ xs (H1.out.below HB5.out))
      clear b5 HK1
      go_wp2_with fail
      refine HK2.out.mono ?_
      rintro e w6 ⟨rfl, b6⟩
      have HB6 := Lib.hid (HB5.out.trans (b6.mono HB5.out.size))
      have HS1 := Lib.hid (same_any w6 _ _ xs ys (H1.out.below HB6.out) (H2.out.below HB6.out))
      clear b6 HK2
      go_wp2_with fail
      refine HS1.out.mono ?_
      rintro e w7 ⟨rfl, b7⟩
      have HB7 := Lib.hid (HB6.out.trans (b7.mono HB6.out.size))
      have HS2 := Lib.hid (equal_votes w7 _ _ xs ys (H1.out.below HB7.out) (H2.out.below HB7.out))
      clear b7 HS1
      generalize decide (xs = ys) = t at *
      go_wp2_with fail
      refine HS2.out.mono ?_
      rintro e w8 ⟨rfl, b8⟩
      have HB8 := Lib.hid (HB7.out.trans (b8.mono HB7.out.size))
      have HS3 := Lib.hid (same_any w8 _ _ xs xs (H1.out.below HB8.out) (H1.out.below HB8.out))
      rw [show decide (xs = xs) = true from decide_eq_true rfl] at HS3
      clear b8 HS2
      go_wp2_with fail
      refine HS3.out.mono ?_
      rintro e w9 ⟨rfl, b9⟩
      have HB9 := Lib.hid (HB8.out.trans (b9.mono HB8.out.size))
      have HO1 := Lib.hid (of_any w9 _ ids (H3.out.below HB9.out) (by omega))
      clear b9 HS3
      go_wp2_with fail
      refine HO1.out.mono ?_
      rintro e w10 ⟨v10, rfl, o10, b10⟩
      have HB10 := Lib.hid (HB9.out.trans (b10.mono HB9.out.size))
      have HO2 := Lib.hid (ofR_any w10 _ ids (H3.out.below HB10.out) (by omega))
      have HV10 := Lib.hid (o10.slIn vtL_length)
      clear b10 HO1 o10
      go_wp2_with fail
      refine HO2.out.mono ?_
      rintro e w11 ⟨v11, rfl, o11, b11⟩
      have HB11 := Lib.hid (HB10.out.trans (b11.mono HB10.out.size))
      have HE := Lib.hid (equal_votes w11 v10 v11 _ _ (HV10.out.below b11) (o11.slIn vtL_length))
      rw [show decide (ofV [] ids = ofV [] ids) = true from decide_eq_true rfl] at HE
      clear b11 HO2 o11
      go_wp2_with fail
      refine HE.out.mono ?_
      rintro e w12 ⟨rfl, b12⟩
      have HB12 := Lib.hid (HB11.out.trans (b12.mono HB11.out.size))
      clear b12 HE
      go_wp2
      go_ret
      exact ⟨rfl, HB12.out⟩
/-- BagIs -/
theorem isLaw_any (w : World) (va vb vi : Value) (xs ys : List Vt) (ids : List ID) (h1 : SlIn w va 33 vtL xs) (h2 : SlIn w vb 33 vtL ys) (h3 : SlIn w vi 32 idL ids) :
    Calls Try.prog 3 #[va, vb, vi] w fun e w' => e = .returned (.bool true) ∧ Below w.heap.size w w' := by
  by_cases hn : xs.length ≤ 60 ∧ ys.length ≤ 60
  · by_cases hm : ids.length ≤ 60
    · exact isLaw_few w va vb vi xs ys ids h1 h2 h3 hn hm
    · exact isLaw_names w va vb vi xs ys ids h1 h2 h3 hn (by omega)
  · exact isLaw_many w va vb vi xs ys ids h1 h2 h3 hn
end Go.Proofs.Ytkjaabajomigkaa
