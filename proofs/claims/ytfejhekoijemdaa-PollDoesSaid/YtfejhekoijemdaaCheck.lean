import Derived.Test.YtfejhekoijemdaaCmp
namespace Go.Proofs.Ytfejhekoijemdaa
open Go.RowKit

def prevO (l : List Vt) : Nat → Option ID
  | 0 => none
  | k + 1 => some (l.getD k Vt.zero).id
theorem bagE_n {l : List Vt} (h : bagF none 1048576 l = false) : bagE l = 70 := by unfold bagE; rw [h]; rfl
theorem bagE_y {l : List Vt} (h : bagF none 1048576 l = true) : bagE l = 0 := by unfold bagE; rw [h]; rfl
set_option maxRecDepth 100000 in
set_option maxHeartbeats 2000000 in
/-- bag.Check -/
theorem check_any (w : World) (v : Value) (l : List Vt) (h : SlIn w v 33 vtL l) : Calls Try.prog 54 #[v] w fun e w' => e = .returned (.int .i64 (bagE l)) ∧ Below w.heap.size w w' := by
  obtain ⟨oa, cap, rfl, g1, g2, g3⟩ := h
  unfold maxLen at g2
  have H3 := Lib.hid g3
  clear g3
  go_enter Try.func54, Try.ntmps54
  go_wp2
  go_loopw [3, 8] (fun v3 v8 wr => ∃ (k : Nat) (left : Int), k ≤ l.length ∧ v8 = .int .i64 k ∧ v3 = .int .i64 (1048576 - left) ∧ 0 ≤ left ∧ left ≤ 1048576 ∧ Hid (Below w.heap.size w wr) ∧ Hid (bagF (prevO l k) left (l.drop k) = bagF none 1048576 l)) (fun _ i _ => l.length - (intOf i).toNat)
  case atStart => exact ⟨0, 1048576, Nat.zero_le _, rfl, rfl, by decide, Int.le_refl _, Lib.hid (Below.refl _ _), Lib.hid rfl⟩
  case round =>
    obtain ⟨k, left, hk, rfl, rfl, hl0, hl1, HB, HF⟩ := hrel
    by_cases hlt : k < l.length
    · obtain ⟨b, off, hoa, hbb, hrow⟩ := H3.out (by omega)
      subst hoa
      have hs1 := hrow k hlt
      rw [← obj_below HB.out hbb] at hs1
      have hbl : b < wr.heap.size := Nat.lt_of_lt_of_le hbb HB.out.size
      have hF := HF.out
      rw [List.drop_eq_getElem_cons hlt, bagF_cons] at hF
      have hpk : prevO l (k + 1) = some l[k].id := by unfold prevO; simp [List.getD, hlt]
      have HPK := Lib.hid hpk
      have hmulk : off + k * 33 + 33 ≤ off + k * 33 + 33 := Nat.le_refl _
      have HB2 := Lib.hid (HB.out.alloc HB.out.size (.cells (vtL l[k]).toArray 58))
      have o2 : obj (wr.alloc (.cells (vtL l[k]).toArray 58)) wr.heap.size = some (.cells (vtL l[k]).toArray 58 (0, 0)) := obj_alloc_at _ _ _ rfl
      have hb2 : obj (wr.alloc (.cells (vtL l[k]).toArray 58)) b = obj wr b := obj_alloc_past _ _ _ hbl
      have hz2 : wr.heap.size < (wr.alloc (.cells (vtL l[k]).toArray 58)).heap.size := lt_of_obj o2
      have hbl2 : b < (wr.alloc (.cells (vtL l[k]).toArray 58)).heap.size := by simp; omega
      by_cases h0 : k = 0
      · have hok : okP (prevO l k) l[k].id = true := by
          have hp : prevO l k = none := by rw [h0]; rfl
          rw [hp]; rfl
        have HC : Hid (∀ x : World, True) := Lib.hid (fun _ => trivial)
        have hkk : decide (0 < k) = false := by simp; omega
        clear h0
        generalize l[k] = x at *
        obtain ⟨p1, p2⟩ := vt_parts (x := x) (W := wr.alloc (.cells (vtL x).toArray 58)) (b := wr.heap.size) (o := 0) (by rw [o2, subOf_cells (by simp), subA_all (by simp)])
        rw [Nat.zero_add] at p2
        clear o2 hb2
        by_cases t1 : x.n < 1
        · have HG := Lib.hid (show bagE l = 70 from bagE_n (by rw [← hF, if_pos (.inr (.inl t1))]))
          have d1 : decide (x.n < 1) = true := by simpa using t1
          clear hF HF
          go_wp2
          generalize wr.heap.size = bx at *
          generalize wr.alloc (.cells (vtL x).toArray 58) = wr2 at *
          clear HB
          refine wp_region_later wr2 (Below.refl _ _) (by kernel_rfl) (by kernel_rfl) ?_
          repeat (go_big_quiet_step (first | (go_at_call 64; with_reducible exact Calls.later (HC.out _)) | fail))
          refine wpQuiet_nil ?_
          intro _ hx
          obtain ⟨⟨wz, hbz⟩, hx⟩ := hx
          subst hx
          rename_i wz
          have HBZ := Lib.hid (HB2.out.trans (hbz.mono HB2.out.size))
          have hbz' := Lib.hid hbz
          clear hbz
          go_wp2
          go_ret
          exact ⟨ret_int HG.out.symm, HBZ.out⟩
        · have d1 : decide (x.n < 1) = false := by simpa using t1
          by_cases t2 : left < x.n
          · have HG := Lib.hid (show bagE l = 70 from bagE_n (by rw [← hF, if_pos (.inr (.inr t2))]))
            have d2 : decide (left < x.n) = true := by simpa using t2
            have e2 : 1048576 - (1048576 - left) = left := by omega
            clear hF HF
            go_wp2
            generalize wr.heap.size = bx at *
            generalize wr.alloc (.cells (vtL x).toArray 58) = wr2 at *
            clear HB
            refine wp_region_later wr2 (Below.refl _ _) (by kernel_rfl) (by kernel_rfl) ?_
            repeat (go_big_quiet_step (first | (go_at_call 64; with_reducible exact Calls.later (HC.out _)) | fail))
            refine wpQuiet_nil ?_
            intro _ hx
            obtain ⟨⟨wz, hbz⟩, hx⟩ := hx
            subst hx
            rename_i wz
            have HBZ := Lib.hid (HB2.out.trans (hbz.mono HB2.out.size))
            have hbz' := Lib.hid hbz
            clear hbz
            go_wp2
            go_ret
            exact ⟨ret_int HG.out.symm, HBZ.out⟩
          · have d2 : decide (left < x.n) = false := by simpa using t2
            have e2 : 1048576 - (1048576 - left) = left := by omega
            have HG := Lib.hid (show bagF (some x.id) (left - x.n) (l.drop (k + 1)) = bagF none 1048576 l by rw [← hF, if_neg (by rintro (h | h | h); (· exact Bool.noConfusion (hok.symm.trans h)); exact t1 h; exact t2 h)])
            clear hF HF
            go_wp2
            generalize wr.heap.size = bx at *
            generalize wr.alloc (.cells (vtL x).toArray 58) = wr2 at *
            clear HB
            refine wp_region_later wr2 (Below.refl _ _) (by kernel_rfl) (by kernel_rfl) ?_
            repeat (go_big_quiet_step (first | (go_at_call 64; with_reducible exact Calls.later (HC.out _)) | fail))
            refine wpQuiet_nil ?_
            intro _ hx
            obtain ⟨⟨wz, hbz⟩, hx⟩ := hx
            subst hx
            rename_i wz
            have HBZ := Lib.hid (HB2.out.trans (hbz.mono HB2.out.size))
            have hbz' := Lib.hid hbz
            clear hbz
            have hzp := HBZ.out
            have p2z : wz.cell? ⟨bx, 32, none⟩ = some (.int .i64 x.n) := (hbz'.out.cell (p := ⟨bx, 32, none⟩) hz2).trans p2
            go_wp2
            go_roundw
            case rel => exact ⟨k + 1, left - x.n, by omega, by go_num, by go_num, by omega, by omega, HBZ, by rw [HPK.out]; exact HG⟩
            case measure => simp [intOf]; omega
      · obtain ⟨j, rfl⟩ : ∃ j, k = j + 1 := ⟨k - 1, by omega⟩
        have hjl : j < l.length := by omega
        have hsj := hrow j hjl
        rw [← obj_below HB.out hbb] at hsj
        obtain ⟨q1, _⟩ := vt_parts hsj
        rw [← hb2] at q1
        have hpj : prevO l (j + 1) = some l[j].id := by unfold prevO; simp [List.getD, hjl]
        rw [hpj] at hF
        have hkk : decide (0 < j + 1) = true := by simp
        have hkj : ((j : Int) + 1 - 1) = (j : Int) := by omega
        have HC := Lib.hid (fun x : Later (wr.alloc (.cells (vtL l[j + 1]).toArray 58)) => less_any x.w l[j].id l[j + 1].id)
        clear h0 hrow hsj hpj
        generalize l[j] = y at *
        generalize l[j + 1] = x at *
        obtain ⟨p1, p2⟩ := vt_parts (x := x) (W := wr.alloc (.cells (vtL x).toArray 58)) (b := wr.heap.size) (o := 0) (by rw [o2, subOf_cells (by simp), subA_all (by simp)])
        rw [Nat.zero_add] at p2
        clear o2 hb2
        cases hok : ltI y.id x.id with
        | false =>
          rw [hok] at HC
          replace hok : okP (some y.id) x.id = false := hok
          have HG := Lib.hid (show bagE l = 70 from bagE_n (by rw [← hF, if_pos (.inl hok)]))
          clear hF HF
          go_wp2
          generalize wr.heap.size = bx at *
          generalize wr.alloc (.cells (vtL x).toArray 58) = wr2 at *
          clear HB
          refine wp_region_later wr2 (Below.refl _ _) (by kernel_rfl) (by kernel_rfl) ?_
          repeat (go_big_quiet_step (first | (go_at_call 64; with_reducible exact Calls.later (HC.out _)) | fail))
          refine wpQuiet_nil ?_
          intro _ hx
          obtain ⟨⟨wz, hbz⟩, hx⟩ := hx
          subst hx
          rename_i wz
          have HBZ := Lib.hid (HB2.out.trans (hbz.mono HB2.out.size))
          have hbz' := Lib.hid hbz
          clear hbz
          go_wp2
          go_ret
          exact ⟨ret_int HG.out.symm, HBZ.out⟩
        | true =>
          rw [hok] at HC
          replace hok : okP (some y.id) x.id = true := hok
          by_cases t1 : x.n < 1
          · have HG := Lib.hid (show bagE l = 70 from bagE_n (by rw [← hF, if_pos (.inr (.inl t1))]))
            have d1 : decide (x.n < 1) = true := by simpa using t1
            clear hF HF
            go_wp2
            generalize wr.heap.size = bx at *
            generalize wr.alloc (.cells (vtL x).toArray 58) = wr2 at *
            clear HB
            refine wp_region_later wr2 (Below.refl _ _) (by kernel_rfl) (by kernel_rfl) ?_
            repeat (go_big_quiet_step (first | (go_at_call 64; with_reducible exact Calls.later (HC.out _)) | fail))
            refine wpQuiet_nil ?_
            intro _ hx
            obtain ⟨⟨wz, hbz⟩, hx⟩ := hx
            subst hx
            rename_i wz
            have HBZ := Lib.hid (HB2.out.trans (hbz.mono HB2.out.size))
            have hbz' := Lib.hid hbz
            clear hbz
            go_wp2
            go_ret
            exact ⟨ret_int HG.out.symm, HBZ.out⟩
          · have d1 : decide (x.n < 1) = false := by simpa using t1
            by_cases t2 : left < x.n
            · have HG := Lib.hid (show bagE l = 70 from bagE_n (by rw [← hF, if_pos (.inr (.inr t2))]))
              have d2 : decide (left < x.n) = true := by simpa using t2
              have e2 : 1048576 - (1048576 - left) = left := by omega
              clear hF HF
              go_wp2
              generalize wr.heap.size = bx at *
              generalize wr.alloc (.cells (vtL x).toArray 58) = wr2 at *
              clear HB
              refine wp_region_later wr2 (Below.refl _ _) (by kernel_rfl) (by kernel_rfl) ?_
              repeat (go_big_quiet_step (first | (go_at_call 64; with_reducible exact Calls.later (HC.out _)) | fail))
              refine wpQuiet_nil ?_
              intro _ hx
              obtain ⟨⟨wz, hbz⟩, hx⟩ := hx
              subst hx
              rename_i wz
              have HBZ := Lib.hid (HB2.out.trans (hbz.mono HB2.out.size))
              have hbz' := Lib.hid hbz
              clear hbz
              go_wp2
              go_ret
              exact ⟨ret_int HG.out.symm, HBZ.out⟩
            · have d2 : decide (left < x.n) = false := by simpa using t2
              have e2 : 1048576 - (1048576 - left) = left := by omega
              have HG := Lib.hid (show bagF (some x.id) (left - x.n) (l.drop (j + 1 + 1)) = bagF none 1048576 l by rw [← hF, if_neg (by rintro (h | h | h); (· exact Bool.noConfusion (hok.symm.trans h)); exact t1 h; exact t2 h)])
              clear hF HF
              go_wp2
              generalize wr.heap.size = bx at *
              generalize wr.alloc (.cells (vtL x).toArray 58) = wr2 at *
              clear HB
              refine wp_region_later wr2 (Below.refl _ _) (by kernel_rfl) (by kernel_rfl) ?_
              repeat (go_big_quiet_step (first | (go_at_call 64; with_reducible exact Calls.later (HC.out _)) | fail))
              refine wpQuiet_nil ?_
              intro _ hx
              obtain ⟨⟨wz, hbz⟩, hx⟩ := hx
              subst hx
              rename_i wz
              have HBZ := Lib.hid (HB2.out.trans (hbz.mono HB2.out.size))
              have hbz' := Lib.hid hbz
              clear hbz
              have hzp := HBZ.out
              have p2z : wz.cell? ⟨bx, 32, none⟩ = some (.int .i64 x.n) := (hbz'.out.cell (p := ⟨bx, 32, none⟩) hz2).trans p2
              go_wp2
              go_roundw
              case rel => exact ⟨j + 1 + 1, left - x.n, by omega, by go_num, by go_num, by omega, by omega, HBZ, by rw [HPK.out]; exact HG⟩
              case measure => simp [intOf]; omega
    · have hF := HF.out
      rw [List.drop_eq_nil_of_le (by omega)] at hF
      have HG := Lib.hid (show bagE l = 0 from bagE_y (by rw [← hF]; rfl))
      clear hF HF
      go_wp2
      go_ret
      exact ⟨ret_int HG.out.symm, HB.out⟩
end Go.Proofs.Ytfejhekoijemdaa
