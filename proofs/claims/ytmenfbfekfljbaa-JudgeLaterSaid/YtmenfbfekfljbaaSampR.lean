import Derived.Test.YtmenfbfekfljbaaSamp
namespace Go.Proofs.Ytmenfbfekfljbaa
open Go.RowKit

set_option maxRecDepth 100000 in
set_option maxHeartbeats 4000000 in
/-- flurryref26.Samples -/
theorem samplesR_any (w : World) (v : Value) (p : PlanD) (zs : List FactX) (byz : List Int) (fr : Int) (h : SlIn w v 72 fxL zs) (hby : SlIn w (slV p.byz) 1 iL byz) (hin : ∀ z ∈ zs, Inner w z) (hsl : ∀ z ∈ zs, z.sl.length ≤ 1000) :
    Calls Try.prog 31 #[.agg (planL p).toArray, v, .int .i64 fr] w fun e w' => e = .returned (.bool (!zs.any (badP byz p.al1 fr))) ∧ Below w.heap.size w w' := by
  have HN : Hid (∀ k (hk : k < zs.length), badP byz p.al1 fr zs[k] = true → false = (!zs.any (badP byz p.al1 fr))) := Lib.hid fun k hk hx => by rw [any_yes hk hx]; rfl
  have HY : Hid ((∀ k (hk : k < zs.length), k < zs.length → badP byz p.al1 fr zs[k] = false) → true = (!zs.any (badP byz p.al1 fr))) := Lib.hid fun hx => by rw [any_no hx]; rfl
  have HBD : Hid (∀ z, badP byz p.al1 fr z = (z.x.kind == 5 && !decide (z.x.move < fr) && decide (p.al1 ≤ inN byz z.sl))) := Lib.hid fun z => rfl
  have HIN := Lib.hid hin
  have HLS := Lib.hid hsl
  have HBY := Lib.hid hby
  have B0 := Lib.hid ((Below.refl _ w).alloc (Nat.le_refl _) (.cells (planL p).toArray 41))
  have O0 : Hid (obj (w.alloc (.cells (planL p).toArray 41)) w.heap.size = some (.cells (planL p).toArray 41 (0, 0))) := Lib.hid (obj_alloc_at _ _ _ rfl)
  have hz0 : (w.alloc (.cells (planL p).toArray 41)).heap.size = w.heap.size + 1 := by simp
  obtain ⟨oa, cap, rfl, h1, h2, h3⟩ := h
  unfold maxLen at h2
  have H3 := Lib.hid h3
  clear h3 hin hsl hby
  generalize (!zs.any (badP byz p.al1 fr)) = r at *
  go_enter Try.func31, Try.ntmps31
  go_wp2
  generalize w.alloc (.cells (planL p).toArray 41) = w0 at *
  generalize hB : w.heap.size = B at *
  go_loopw [7, 8, 9] (fun v7 _ _ wr => ∃ (k : Nat), k ≤ zs.length ∧ v7 = .int .i64 k ∧ Hid (∀ j (hj : j < zs.length), j < k → badP byz p.al1 fr zs[j] = false) ∧ Hid (Below (B + 1) w0 wr)) (fun i _ _ _ => zs.length - (intOf i).toNat)
  case atStart => exact ⟨0, Nat.zero_le _, rfl, Lib.hid (by omega), Lib.hid (Below.refl _ _)⟩
  case round =>
    obtain ⟨k, hk, rfl, HG, HQ⟩ := hrel
    have hzq := HQ.out.size
    have HQW := Lib.hid (B0.out.trans (HQ.out.mono (by omega)))
    by_cases hlt : k < zs.length
    · obtain ⟨b, off, hoa, hbb, hrow⟩ := H3.out (by omega)
      subst hoa
      have NX : Hid (badP byz p.al1 fr zs[k] = false → ∀ j (h1 : j < zs.length), j < k + 1 → badP byz p.al1 fr zs[j] = false) := Lib.hid (fun h j h1 hlt' => by
          by_cases e : j = k
          · subst e; exact h
          · exact HG.out j h1 (by omega))
      have NO := Lib.hid (HN.out k hlt)
      have BD := Lib.hid (HBD.out zs[k])
      have HI := Lib.hid (HIN.out zs[k] (List.getElem_mem hlt)).1
      have hls := HLS.out zs[k] (List.getElem_mem hlt)
      have HROW : Hid (∀ W, Below B w W → subOf (obj W b) (off + k * 72) 72 = some (factL zs[k].x).toArray) := Lib.hid (fun W hW => by have := hrow k hlt; rw [← obj_below hW (by omega)] at this; exact this)
      have hmulk : off + k * 72 + 72 ≤ off + k * 72 + 72 := Nat.le_refl _
      generalize zs[k] = z at *
      clear hrow
      obtain ⟨sa, scap, hse, q1, q2, q3⟩ := HI.out
      unfold maxLen at q2
      unfold slV at hse
      simp only [Value.slice.injEq] at hse
      obtain ⟨hs1, hs2, hs3⟩ := hse
      have HQ3 := Lib.hid q3
      have HSE : Hid (slV z.x.slots = .slice sa z.sl.length scap) := Lib.hid (by unfold slV; rw [hs1, hs2, hs3])
      have hbw : b < w0.heap.size := by omega
      clear q3 HI hs1 hs2 hs3
      go_wp2
      go_loopw [8, 9] (fun v8 v9 wr => ∃ (j : Nat), j ≤ z.sl.length ∧ v9 = .int .i64 j ∧ v8 = .int .i64 (inN byz (z.sl.take j)) ∧ Hid (Below (B + 1) w0 wr)) (fun _ i _ => z.sl.length - (intOf i).toNat)
      case atStart => exact ⟨0, Nat.zero_le _, rfl, rfl, HQ⟩
      case round =>
        obtain ⟨j, hj, rfl, rfl, HJ⟩ := hrel
        have hzj := HJ.out.size
        have HJW := Lib.hid (B0.out.trans (HJ.out.mono (by omega)))
        have oP := (obj_below HJ.out (by omega)).trans O0.out
        obtain ⟨pc1, pc2, pc3⟩ := plan_cells oP
        have hPl := lt_of_obj oP
        have hle := inN_le byz (z.sl.take j)
        have hbr : b < wr.heap.size := by omega
        obtain ⟨⟨p10, p11, _, _⟩, _, ⟨_, _, p33, _⟩⟩ := fact_parts (HROW.out wr HJW.out)
        rw [HSE.out] at p33
        by_cases hjt : j < z.sl.length
        · obtain ⟨b2, off2, hoa2, hbb2, hrow2⟩ := HQ3.out (by omega)
          have cx := int_cell hrow2 (obj_below HJW.out (by omega)) hjt
          have hbl2 : b2 < wr.heap.size := by omega
          have HS := Lib.hid (inN_snoc byz (z.sl.take j) z.sl[j])
          rw [← List.take_succ_eq_append_getElem hjt] at HS
          have HC := Lib.hid (fun x : Later wr => (show Calls Try.prog 50 #[.slice p.byz.a p.byz.len p.byz.cap, .int .i64 z.sl[j]] x.w _ from has_any x.w (slV p.byz) byz z.sl[j] (HBY.out.below (by rw [hB]; exact HJW.out.trans (x.h.mono (by omega))))))
          subst hoa2
          clear hrow2 oP p10 p11
          generalize z.sl[j] = y at *
          by_cases hy : y ∈ byz
          · have dy : decide (y ∈ byz) = true := by simpa using hy
            rw [if_pos hy] at HS
            rw [dy] at HC
            have hwr : IntKind.i64.wrap (inN byz (z.sl.take j) + 1) = inN byz (z.sl.take j) + 1 := by
              rw [List.length_take] at hle
              simp [IntKind.wrap, IntKind.signed, IntKind.bits]; omega
            clear hy hle
            go_wp2
            refine wp_region_later wr (Below.refl _ _) (by kernel_rfl) (by kernel_rfl) ?_
            repeat (go_big_quiet_step (first | (go_at_call 50; with_reducible exact Calls.later (HC.out _)) | fail))
            refine wpQuiet_nil ?_
            intro _ hx
            obtain ⟨⟨wz, hbz⟩, hx⟩ := hx
            subst hx
            rename_i wz
            have HJ5 := Lib.hid (HJ.out.trans (hbz.mono (by omega)))
            clear hbz HC
            go_wp2
            go_roundw
            case rel => exact ⟨j + 1, by omega, by go_num, by rw [HS.out], HJ5⟩
            case measure => simp [intOf]; omega
          · have dy : decide (y ∈ byz) = false := by simpa using hy
            rw [if_neg hy, Int.add_zero] at HS
            rw [dy] at HC
            clear hy hle
            go_wp2
            refine wp_region_later wr (Below.refl _ _) (by kernel_rfl) (by kernel_rfl) ?_
            repeat (go_big_quiet_step (first | (go_at_call 50; with_reducible exact Calls.later (HC.out _)) | fail))
            refine wpQuiet_nil ?_
            intro _ hx
            obtain ⟨⟨wz, hbz⟩, hx⟩ := hx
            subst hx
            rename_i wz
            have HJ5 := Lib.hid (HJ.out.trans (hbz.mono (by omega)))
            clear hbz HC
            go_wp2
            go_roundw
            case rel => exact ⟨j + 1, by omega, by go_num, by rw [HS.out], HJ5⟩
            case measure => simp [intOf]; omega
        · have hke : z.sl.take j = z.sl := List.take_of_length_le (by omega)
          rw [hke] at hle ⊢
          clear oP
          cases e5 : z.x.kind == 5
          · have HF := Lib.hid (NX.out (by rw [BD.out, e5]; rfl))
            go_wp2
            go_roundw
            case rel => exact ⟨k + 1, by omega, by go_num, HF, HJ⟩
            case measure => simp [intOf]; omega
          · by_cases hm : z.x.move < fr
            · have d0 : decide (fr ≤ z.x.move) = false := decide_eq_false (by omega)
              have HF := Lib.hid (NX.out (by rw [BD.out, decide_eq_true hm]; simp))
              clear hm
              go_wp2
              go_roundw
              case rel => exact ⟨k + 1, by omega, by go_num, HF, HJ⟩
              case measure => simp [intOf]; omega
            · have d0 : decide (fr ≤ z.x.move) = true := decide_eq_true (by omega)
              have BD2 : Hid (badP byz p.al1 fr z = decide (p.al1 ≤ inN byz z.sl)) := Lib.hid (by rw [BD.out, e5, decide_eq_false hm]; simp)
              by_cases hal : p.al1 ≤ inN byz z.sl
              · have da : decide (p.al1 ≤ inN byz z.sl) = true := by simpa using hal
                have HF := Lib.hid (NO.out (by rw [BD2.out]; exact da))
                clear hal hm
                go_wp2
                go_ret
                exact ⟨ret_bool HF.out, by rw [hB]; exact HJW.out⟩
              · have da : decide (p.al1 ≤ inN byz z.sl) = false := by simpa using hal
                have HF := Lib.hid (NX.out (by rw [BD2.out]; exact da))
                clear hal hm
                go_wp2
                go_roundw
                case rel => exact ⟨k + 1, by omega, by go_num, HF, HJ⟩
                case measure => simp [intOf]; omega
    · have HR := Lib.hid (HY.out (fun j hj _ => HG.out j hj (by omega)))
      go_wp2
      go_ret
      exact ⟨ret_bool HR.out, by rw [hB]; exact HQW.out⟩
end Go.Proofs.Ytmenfbfekfljbaa
