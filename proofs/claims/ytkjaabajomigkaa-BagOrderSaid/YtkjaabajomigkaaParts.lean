import Derived.Test.YtkjaabajomigkaaOnlyR
import Derived.Test.YtkjaabajomigkaaNames
import Derived.Test.YtkjaabajomigkaaSame
import Derived.Test.YtkjaabajomigkaaLive
namespace Go.Proofs.Ytkjaabajomigkaa
open Go.RowKit

set_option maxRecDepth 100000 in
/-- few, of one bag in a row of slices -/
theorem few_one (w : World) (b : Nat) (v1 : Value) (xs : List Vt) (h : SlIn w v1 33 vtL xs) (T : TypeId) (fr : Nat × Nat) (ho : obj w b = some (.cells #[v1] T fr)) :
    Calls Try.prog 10 #[.slice (some ⟨b, 0, none⟩) 1 1] w fun e w' => e = .returned (.bool (decide (xs.length ≤ 60))) ∧ Below w.heap.size w w' := by
  obtain ⟨oa, cap, rfl, g1, g2, g3⟩ := h
  clear g3
  have c0 := cell_at ho 0
  have hb := lt_of_obj ho
  simp at c0
  clear ho
  go_enter Try.func10, Try.ntmps10
  go_wp2
  go_loopw [4, 7] (fun _ v7 wr => ∃ k : Nat, k ≤ 1 ∧ v7 = .int .i64 k ∧ Hid (0 < k → xs.length ≤ 60) ∧ wr = w) (fun _ i _ => 1 - (intOf i).toNat)
  case atStart => exact ⟨0, by omega, rfl, Lib.hid (by omega), rfl⟩
  case round =>
    obtain ⟨k, hk, rfl, HK, rfl⟩ := hrel
    have hks : k = 0 ∨ k = 1 := by omega
    rcases hks with rfl | rfl
    · by_cases hx : xs.length ≤ 60
      · have d : decide (60 < (xs.length : Int)) = false := by simp; omega
        have HX := Lib.hid hx
        clear hx
        go_wp2
        go_roundw
        case rel => exact ⟨1, by omega, by simp, Lib.hid (fun _ => HX.out), by simp⟩
        case measure => simp [intOf]
      · have d : decide (60 < (xs.length : Int)) = true := by simp; omega
        have HX := Lib.hid hx
        clear hx
        go_wp2
        go_ret
        exact ⟨ret_bool (by simpa using HX.out), Below.refl _ _⟩
    · have HX : Hid (xs.length ≤ 60) := Lib.hid (HK.out (by omega))
      go_wp2
      go_ret
      exact ⟨ret_bool (by simpa using HX.out), Below.refl _ _⟩
/-- a law's beginning: the call's row of one bag, and what few says -/
theorem few_row (w w1 : World) (v1 : Value) (xs : List Vt) (h : SlIn w v1 33 vtL xs) (hb : Below w.heap.size w w1) :
    Calls Try.prog 10 #[.slice (some ⟨w1.heap.size, 0, none⟩) 1 1] (w1.alloc (.cells #[v1] 22)) fun e w' => e = .returned (.bool (decide (xs.length ≤ 60))) ∧ Below w.heap.size w w' := by
  have hb2 : Below w1.heap.size w1 (w1.alloc (.cells #[v1] 22)) := (Below.refl _ _).alloc (Nat.le_refl _) _
  have hb3 := hb.trans (hb2.mono hb.size)
  refine (few_one _ w1.heap.size v1 xs (h.below hb3) 22 (0, 0) (obj_alloc_at _ _ _ rfl)).mono ?_
  rintro e w' ⟨h1, h2⟩
  exact ⟨h1, hb3.trans (h2.mono hb3.size)⟩
/-! ### what the parts are -/
def restV (l : List Vt) (ids : List ID) : List ID := (l.filter fun x => !decide (x.id ∈ ids)).map (·.id)
theorem only_rest {l : List Vt} (hE : bagE l = 0) (ids : List ID) : onlyV l (restV l ids) = l.filter fun x => !decide (x.id ∈ ids) := by
  unfold onlyV
  rw [goodV_of hE]
  apply List.filter_congr
  intro x hx
  rw [Bool.eq_iff_iff]
  simp only [decide_eq_true_eq, Bool.not_eq_true', decide_eq_false_iff_not]
  unfold restV
  rw [List.mem_map]
  constructor
  · rintro ⟨y, hy, e⟩
    have := (List.mem_filter.1 hy).2
    rw [e] at this
    simpa using this
  · intro h
    exact ⟨x, List.mem_filter.2 ⟨hx, by simpa using h⟩, rfl⟩
theorem parts_all {l : List Vt} (hE : bagE l = 0) (ids : List ID) :
    mergeE (onlyV l ids) (onlyV l (restV l ids)) = 0 ∧ mergeW (onlyV l ids) (onlyV l (restV l ids)) = l ∧ totV (onlyV l ids) + totV (onlyV l (restV l ids)) = totV l := by
  rw [only_rest hE]
  have ho : onlyV l ids = l.filter fun x => decide (x.id ∈ ids) := by unfold onlyV; rw [goodV_of hE]
  rw [ho]
  have b1 := filter_bag hE (fun x => decide (x.id ∈ ids))
  have b2 := filter_bag hE (fun x => !decide (x.id ∈ ids))
  have hs := sum_filter (fun x => decide (x.id ∈ ids)) l
  have ht : totV (l.filter fun x => decide (x.id ∈ ids)) + totV (l.filter fun x => !decide (x.id ∈ ids)) = totV l := by
    rw [totV_of b1, totV_of b2, totV_of hE]; exact hs
  have hbd := totV_bd l
  have hm : mergeE (l.filter fun x => decide (x.id ∈ ids)) (l.filter fun x => !decide (x.id ∈ ids)) = 0 := by
    unfold mergeE
    rw [if_pos b1, if_pos b2, if_neg (by omega)]
  refine ⟨hm, ?_, ht⟩
  unfold mergeW
  rw [if_pos hm]
  exact parts_merge hE _
set_option maxRecDepth 100000 in
set_option maxHeartbeats 2000000 in
/-- BagParts -/
theorem partsLaw_any (w : World) (va vi : Value) (l : List Vt) (ids : List ID) (h1 : SlIn w va 33 vtL l) (h2 : SlIn w vi 32 idL ids) :
    Calls Try.prog 7 #[va, vi] w fun e w' => e = .returned (.bool true) ∧ Below w.heap.size w w' := by
  have HL := fun W => Lib.hid (live_any W)
  have H1 := Lib.hid h1
  have H2 := Lib.hid h2
  have HFE := fun w1 hb => Lib.hid (few_row w w1 va l h1 hb)
  obtain ⟨oa, ca, rfl, a1, a2, a3⟩ := h1
  obtain ⟨oc, cc, rfl, c1, c2, c3⟩ := h2
  have HR := Lib.hid a3
  unfold maxLen at a2 c2
  clear a3 c3
  by_cases hn : l.length ≤ 60
  · rw [show decide (l.length ≤ 60) = true from decide_eq_true hn] at HFE
    by_cases hm : ids.length ≤ 60
    · have dm : decide ((60 : Int) < (ids.length : Int)) = false := by simp; omega
      rcases bagE_cases l with hE | hE
      · obtain ⟨q1, q2, q3⟩ := parts_all hE ids
        have hbt1 := totV_bd (onlyV l ids)
        have hbt2 := totV_bd (onlyV l (restV l ids))
        have hwr : IntKind.i64.wrap (totV (onlyV l ids) + totV (onlyV l (restV l ids))) = totV l := by rw [q3]; have := totV_bd l; simp [IntKind.wrap, IntKind.signed, IntKind.bits]; omega
        have HREST : Hid (restV l ids = (l.filter fun x => !decide (x.id ∈ ids)).map (·.id)) := Lib.hid rfl
        clear q3 hbt1 hbt2
        go_enter Try.func7, Try.ntmps7
        go_wp2_with fail
        refine (HL _).out.mono ?_
        rintro e w1 ⟨rfl, bb1⟩
        have HF := Lib.hid (HFE w1 bb1).out
        clear bb1 HFE
        go_wp2_with fail
        refine HF.out.mono ?_
        rintro e w3 ⟨rfl, b3⟩
        have B3 := Lib.hid b3
        have HC := Lib.hid (check_any w3 _ l (H1.out.below b3))
        rw [hE] at HC
        have HEE := Lib.hid hE
        clear b3 HF hE
        go_wp2_with fail
        refine HC.out.mono ?_
        rintro e w4 ⟨rfl, b4⟩
        have B4 := Lib.hid (B3.out.trans (b4.mono B3.out.size))
        clear b4 HC
        go_wp2
        go_loopw [5, 33] (fun v5 v33 wr => ∃ k : Nat, k ≤ l.length ∧ v33 = .int .i64 k ∧ Hid (OwnS wr w.heap.size 27 32 idL v5 (((l.take k).filter fun x => !decide (x.id ∈ ids)).map (·.id))) ∧ Hid (Below w.heap.size w wr)) (fun _ i _ => l.length - (intOf i).toNat)
        case atStart => exact ⟨0, Nat.zero_le _, rfl, Lib.hid (OwnS.nil _ _ _ _ _), B4⟩
        case round =>
          obtain ⟨k, hk, rfl, HO, HB⟩ := hrel
          have hzk := HB.out.size
          by_cases hlt : k < l.length
          · obtain ⟨b, off, hoa, hbb, hrow⟩ := HR.out (by omega)
            subst hoa
            have hs1 := hrow k hlt
            rw [← obj_below HB.out hbb] at hs1
            have hbl : b < wr.heap.size := by omega
            have hmulk : off + k * 33 + 33 ≤ off + k * 33 + 33 := Nat.le_refl _
            have hnx : Hid (((l.take (k + 1)).filter fun x => !decide (x.id ∈ ids)).map (·.id) = ((l.take k).filter fun x => !decide (x.id ∈ ids)).map (·.id) ++ if l[k].id ∈ ids then [] else [l[k].id]) := Lib.hid (by
              rw [List.take_succ_eq_append_getElem hlt, List.filter_append, List.map_append]
              congr 1
              by_cases hx : l[k].id ∈ ids <;> simp [hx])
            have hln : Hid ((((l.take k).filter fun x => !decide (x.id ∈ ids)).map (·.id)).length ≤ 1048576) := Lib.hid (by
              rw [List.length_map]
              have := List.length_filter_le (fun x : Vt => !decide (x.id ∈ ids)) (l.take k)
              rw [List.length_take] at this
              omega)
            have o2 : obj (wr.alloc (.cells (vtL l[k]).toArray 33)) wr.heap.size = some (.cells (vtL l[k]).toArray 33 (0, 0)) := obj_alloc_at _ _ _ rfl
            have hba : Below wr.heap.size wr (wr.alloc (.cells (vtL l[k]).toArray 33)) := (Below.refl _ _).alloc (Nat.le_refl _) _
            have HB2 := Lib.hid (HB.out.trans (hba.mono hzk))
            have HO2 := Lib.hid (HO.out.alloc (.cells (vtL l[k]).toArray 33))
            have HCO := Lib.hid (contains_any _ _ ids l[k].id (H2.out.below HB2.out))
            clear hrow hba HO
            generalize l[k] = x at *
            generalize ((l.take k).filter fun x => !decide (x.id ∈ ids)).map (·.id) = ws at *
            obtain ⟨p1, p2⟩ := vt_parts (x := x) (W := wr.alloc (.cells (vtL x).toArray 33)) (b := wr.heap.size) (o := 0) (by rw [o2, subOf_cells (by simp), subA_all (by simp)])
            rw [Nat.zero_add] at p2
            have O2 := Lib.hid o2
            have hzx : (wr.alloc (.cells (vtL x).toArray 33)).heap.size = wr.heap.size + 1 := by simp
            clear o2
            go_wp2_with fail
            generalize wr.alloc (.cells (vtL x).toArray 33) = wx at *
            generalize hbx : wr.heap.size = bx at *
            clear hs1
            refine HCO.out.mono ?_
            rintro e w5 ⟨rfl, b5⟩
            have hz5 := b5.size
            have HB5 := Lib.hid (HB2.out.trans (b5.mono (by omega)))
            have HO5 := Lib.hid (HO2.out.below b5)
            obtain ⟨p1, _⟩ := vt_parts (x := x) (W := w5) (b := bx) (o := 0) (by rw [obj_below b5 (by omega), O2.out, subOf_cells (by simp), subA_all (by simp)])
            clear b5 HCO
            by_cases hx : x.id ∈ ids
            · have dx : decide (x.id ∈ ids) = true := by simpa using hx
              rw [if_pos hx, List.append_nil] at hnx
              rw [dx]
              clear hx
              go_wp2
              go_roundw
              case rel => exact ⟨k + 1, by omega, by go_num, by rw [hnx.out]; exact HO5, HB5⟩
              case measure => simp [intOf]; omega
            · have dx : decide (x.id ∈ ids) = false := by simpa using hx
              rw [if_neg hx] at hnx
              rw [dx]
              clear hx
              go_wp2_with (at_builtin; refine push23 rfl _ _ rfl w.heap.size u5 ws x.id rfl (HO5.out.alloc _) w5.heap.size rfl (obj_alloc_at _ _ _ rfl) hln.out (by simp; omega) ?_; intro v' w' hO' hB' _; have HO' := Lib.hid hO'; have HB' := Lib.hid ((HB5.out.alloc (by omega) _).trans hB'); clear hO' hB')
              go_roundw
              case rel => exact ⟨k + 1, by omega, by go_num, by rw [hnx.out]; exact HO', HB'⟩
              case measure => simp [intOf]; omega
          · have HG : Hid (OwnS wr w.heap.size 27 32 idL u5 (restV l ids)) := Lib.hid (by
              have h0 := HO.out
              rw [List.take_of_length_le (by omega), ← HREST.out] at h0
              exact h0)
            generalize restV l ids = rest at *
            have HON := Lib.hid (only_any wr _ _ l ids (H1.out.below HB.out) (H2.out.below HB.out))
            clear HR HL HO
            go_wp2_with fail
            refine HON.out.mono ?_
            rintro e w5 ⟨v5, rfl, o5, b5⟩
            have HB5 := Lib.hid (HB.out.trans (b5.mono hzk))
            have HG5 := Lib.hid ((HG.out.below b5).slIn idL_length)
            have HS5 := Lib.hid (o5.slIn vtL_length)
            have HON2 := Lib.hid (only_any w5 _ _ l rest (H1.out.below HB5.out) HG5.out)
            clear o5 b5 HON HG
            go_wp2_with fail
            refine HON2.out.mono ?_
            rintro e w6 ⟨v6, rfl, o6, b6⟩
            have HB6 := Lib.hid (HB5.out.trans (b6.mono HB5.out.size))
            have HS56 := Lib.hid (HS5.out.below b6)
            have HS6 := Lib.hid (o6.slIn vtL_length)
            generalize onlyV l ids = pa at *
            generalize onlyV l rest = pb at *
            have HME := Lib.hid (merge_any w6 v5 v6 pa pb HS56.out HS6.out)
            rw [q1, q2] at HME
            clear o6 b6 HON2 HS5 q1 q2
            go_wp2_with fail
            refine HME.out.mono ?_
            rintro e w7 ⟨v7, rfl, o7, b7⟩
            have HB7 := Lib.hid (HB6.out.trans (b7.mono HB6.out.size))
            have HS57 := Lib.hid (HS56.out.below b7)
            have HS67 := Lib.hid (HS6.out.below b7)
            have HSA := Lib.hid (same_any w7 v7 _ l l (o7.slIn vtL_length) (H1.out.below HB7.out))
            rw [show decide (l = l) = true from decide_eq_true rfl] at HSA
            clear o7 b7 HME HS56 HS6
            go_wp2_with fail
            refine HSA.out.mono ?_
            rintro e w8 ⟨rfl, b8⟩
            have HB8 := Lib.hid (HB7.out.trans (b8.mono HB7.out.size))
            have HT1 := Lib.hid (total_any w8 v5 pa (HS57.out.below b8))
            have HS68 := Lib.hid (HS67.out.below b8)
            clear b8 HSA HS57 HS67
            go_wp2_with fail
            refine HT1.out.mono ?_
            rintro e w9 ⟨rfl, b9⟩
            have HB9 := Lib.hid (HB8.out.trans (b9.mono HB8.out.size))
            have HT2 := Lib.hid (total_any w9 v6 pb (HS68.out.below b9))
            clear b9 HT1 HS68
            go_wp2_with fail
            refine HT2.out.mono ?_
            rintro e w10 ⟨rfl, b10⟩
            have HB10 := Lib.hid (HB9.out.trans (b10.mono HB9.out.size))
            have HT3 := Lib.hid (total_any w10 _ l (H1.out.below HB10.out))
            clear b10 HT2
            generalize totV pa = ta at *
            generalize totV pb = tb at *
            generalize totV l = tl at *
            go_wp2_with fail
            refine HT3.out.mono ?_
            rintro e w11 ⟨rfl, b11⟩
            have HB11 := Lib.hid (HB10.out.trans (b11.mono HB10.out.size))
            clear b11 HT3
            go_wp2
            go_ret
            exact ⟨rfl, HB11.out⟩
      · go_enter Try.func7, Try.ntmps7
        go_wp2_with fail
        refine (HL _).out.mono ?_
        rintro e w1 ⟨rfl, bb1⟩
        have HF := Lib.hid (HFE w1 bb1).out
        clear bb1 HFE
        go_wp2_with fail
        refine HF.out.mono ?_
        rintro e w3 ⟨rfl, b3⟩
        have B3 := Lib.hid b3
        have HC := Lib.hid (check_any w3 _ l (H1.out.below b3))
        rw [hE] at HC
        clear b3 HF hE
        go_wp2_with fail
        refine HC.out.mono ?_
        rintro e w4 ⟨rfl, b4⟩
        have B4 := Lib.hid (B3.out.trans (b4.mono B3.out.size))
        clear b4 HC
        go_wp2_with fail
        refine (HL _).out.mono ?_
        rintro e w5 ⟨rfl, b5⟩
        have B5 := Lib.hid (B4.out.trans (b5.mono B4.out.size))
        clear b5
        go_wp2
        go_ret
        exact ⟨rfl, B5.out⟩
    · have dm : decide ((60 : Int) < (ids.length : Int)) = true := by simp; omega
      go_enter Try.func7, Try.ntmps7
      go_wp2_with fail
      refine (HL _).out.mono ?_
      rintro e w1 ⟨rfl, bb1⟩
      have HF := Lib.hid (HFE w1 bb1).out
      clear bb1 HFE
      go_wp2_with fail
      refine HF.out.mono ?_
      rintro e w3 ⟨rfl, b3⟩
      have B3 := Lib.hid b3
      clear b3 HF
      go_wp2_with fail
      refine (HL _).out.mono ?_
      rintro e w5 ⟨rfl, b5⟩
      have B5 := Lib.hid (B3.out.trans (b5.mono B3.out.size))
      clear b5
      go_wp2
      go_ret
      exact ⟨rfl, B5.out⟩
  · rw [show decide (l.length ≤ 60) = false from decide_eq_false hn] at HFE
    go_enter Try.func7, Try.ntmps7
    go_wp2_with fail
    refine (HL _).out.mono ?_
    rintro e w1 ⟨rfl, bb1⟩
    have HF := Lib.hid (HFE w1 bb1).out
    clear bb1 HFE
    go_wp2_with fail
    refine HF.out.mono ?_
    rintro e w3 ⟨rfl, b3⟩
    have B3 := Lib.hid b3
    clear b3 HF
    go_wp2_with fail
    refine (HL _).out.mono ?_
    rintro e w5 ⟨rfl, b5⟩
    have B5 := Lib.hid (B3.out.trans (b5.mono B3.out.size))
    clear b5
    go_wp2
    go_ret
    exact ⟨rfl, B5.out⟩
end Go.Proofs.Ytkjaabajomigkaa
