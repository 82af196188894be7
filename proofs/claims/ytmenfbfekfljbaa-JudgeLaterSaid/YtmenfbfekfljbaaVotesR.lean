import Derived.Test.YtmenfbfekfljbaaEnough
import Derived.Test.YtmenfbfekfljbaaUnderR
namespace Go.Proofs.Ytmenfbfekfljbaa
open Go.RowKit

set_option maxRecDepth 100000 in
set_option maxHeartbeats 4000000 in
/-- flurryref26.votes -/
theorem votesR_any (w : World) (vf : Value) (xs : List FactD) (v : Value) (vs : List Vt) (id : ID) (need : Int) (hf : SlIn w vf 72 factL xs) (hlen : xs.length ≤ 1000) (h : SlIn w v 33 vtL vs) (hne : -9223372036854775808 ≤ need ∧ need ≤ 9223372036854775807) (hvn : ∀ x ∈ vs, x.n ≤ 9223372036854775807) :
    Calls Try.prog 55 #[vf, v, .agg (idL id).toArray, .int .i64 need] w fun e w' => e = .returned (.bool (votesF (fun a => underM xs a id) need vs)) ∧ Below w.heap.size w w' := by
  have HVN := Lib.hid hvn
  have HEF : Hid (∀ n v r, votesF (fun a => underM xs a id) n (v :: r) = if 1 ≤ v.n ∧ underM xs v.id id = true then (if n ≤ v.n then true else votesF (fun a => underM xs a id) (n - v.n) r) else votesF (fun a => underM xs a id) n r) := Lib.hid fun _ _ _ => rfl
  have HE0 : Hid (∀ n, votesF (fun a => underM xs a id) n [] = decide (n ≤ 0)) := Lib.hid fun _ => rfl
  have HU := fun W (hW : Below w.heap.size w W) a => Lib.hid (ref_under_any W vf xs a id (hf.below hW) hlen)
  have B0 := Lib.hid ((Below.refl _ w).alloc (Nat.le_refl _) (.cells (idL id).toArray 45))
  have O0 : Hid (obj (w.alloc (.cells (idL id).toArray 45)) w.heap.size = some (.cells (idL id).toArray 45 (0, 0))) := Lib.hid (obj_alloc_at _ _ _ rfl)
  have hz0 : (w.alloc (.cells (idL id).toArray 45)).heap.size = w.heap.size + 1 := by simp
  obtain ⟨oaf, caf, rfl, _, _, _⟩ := hf
  obtain ⟨oa, cap, rfl, h1, h2, h3⟩ := h
  unfold maxLen at h2
  have H3 := Lib.hid h3
  have HT : Hid (votesF (fun a => underM xs a id) need (vs.drop 0) = votesF (fun a => underM xs a id) need vs) := Lib.hid rfl
  generalize votesF (fun a => underM xs a id) need vs = r at *
  clear h3 hvn
  go_enter Try.func55, Try.ntmps55
  go_wp2
  generalize w.alloc (.cells (idL id).toArray 45) = w0 at *
  generalize hB : w.heap.size = B at *
  go_loopw [9, 10] (fun v9 v10 wr => ∃ (k : Nat) (n : Int), k ≤ vs.length ∧ v10 = .int .i64 k ∧ v9 = .int .i64 n ∧ Hid (-9223372036854775808 ≤ n ∧ n ≤ 9223372036854775807) ∧ Hid (votesF (fun a => underM xs a id) n (vs.drop k) = r) ∧ Hid (Below (B + 1) w0 wr)) (fun _ i _ => vs.length - (intOf i).toNat)
  case atStart => exact ⟨0, need, Nat.zero_le _, rfl, rfl, Lib.hid hne, HT, Lib.hid (Below.refl _ _)⟩
  case round =>
    obtain ⟨k, n, hk, rfl, rfl, HNN, HT, HQ⟩ := hrel
    have hzq := HQ.out.size
    have HQW := Lib.hid (B0.out.trans (HQ.out.mono (by omega)))
    by_cases hlt : k < vs.length
    · obtain ⟨b, off, hoa, hbb, hrow⟩ := H3.out (by omega)
      subst hoa
      have hsub := hrow k hlt
      rw [← obj_below HQW.out (by omega)] at hsub
      have hbr : b < wr.heap.size := by omega
      have hmulk : off + k * 33 + 33 ≤ off + k * 33 + 33 := Nat.le_refl _
      have HT2 := HT.out
      rw [List.drop_eq_getElem_cons hlt, HEF.out] at HT2
      have hxn := HVN.out vs[k] (List.getElem_mem hlt)
      have hnn := HNN.out
      generalize vs[k] = x at *
      have HTT := Lib.hid HT2
      obtain ⟨g0, g1⟩ := vt_parts hsub
      have R0 := (obj_below HQ.out (by omega)).trans O0.out
      have ri : subOf (obj wr B) 0 32 = some (idL id).toArray := by rw [R0, subOf_cells (by simp), subA_all (by simp)]
      have hBl := lt_of_obj R0
      have HU1 := Lib.hid (fun y : Later wr => (HU y.w (HQW.out.trans (y.h.mono (by omega))) x.id).out)
      clear hrow HT2 HT R0
      by_cases hx0 : 1 ≤ x.n
      · have d1 : decide (1 ≤ x.n) = true := by simpa using hx0
        cases hu : underM xs x.id id with
        | true =>
          rw [hu] at HU1
          have HTE := HTT.out
          rw [if_pos ⟨hx0, hu⟩] at HTE
          have HTF := Lib.hid HTE
          clear HTE HTT hu HU hsub
          go_wp2
          refine wp_region_later wr (Below.refl _ _) (by kernel_rfl) (by kernel_rfl) ?_
          repeat (go_big_quiet_step (first | (go_at_call 25; with_reducible exact Calls.later (HU1.out _)) | fail))
          refine wpQuiet_nil ?_
          intro _ hx
          obtain ⟨⟨wz, hbz⟩, hx⟩ := hx
          subst hx
          rename_i wz
          have HZ := Lib.hid (HQ.out.trans (hbz.mono (by omega)))
          have g1z : wz.cell? ⟨b, off + k * 33 + 32, none⟩ = some (.int .i64 x.n) := (hbz.cell (p := ⟨b, off + k * 33 + 32, none⟩) hbr).trans g1
          have hbz2 : b < wz.heap.size := by have := hbz.size; omega
          clear hbz HU1 g0 g1 ri
          by_cases hge : n ≤ x.n
          · have dg : decide (n ≤ x.n) = true := by simpa using hge
            rw [if_pos hge] at HTF
            clear hge
            go_wp2
            go_ret
            exact ⟨ret_bool HTF.out, by rw [hB]; exact B0.out.trans (HZ.out.mono (by omega))⟩
          · have dg : decide (n ≤ x.n) = false := by simpa using hge
            rw [if_neg hge] at HTF
            have hwr : IntKind.i64.wrap (n - x.n) = n - x.n := by simp [IntKind.wrap, IntKind.signed, IntKind.bits]; omega
            have HNX : Hid (-9223372036854775808 ≤ n - x.n ∧ n - x.n ≤ 9223372036854775807) := Lib.hid (by omega)
            clear hge
            go_wp2
            go_roundw
            case rel => exact ⟨k + 1, _, by omega, by go_num, rfl, HNX, HTF, HZ⟩
            case measure => simp [intOf]; omega
        | false =>
          rw [hu] at HU1
          have HTE := HTT.out
          rw [if_neg (by rw [hu]; simp)] at HTE
          have HTF := Lib.hid HTE
          clear HTE HTT hu HU hsub
          go_wp2
          refine wp_region_later wr (Below.refl _ _) (by kernel_rfl) (by kernel_rfl) ?_
          repeat (go_big_quiet_step (first | (go_at_call 25; with_reducible exact Calls.later (HU1.out _)) | fail))
          refine wpQuiet_nil ?_
          intro _ hx
          obtain ⟨⟨wz, hbz⟩, hx⟩ := hx
          subst hx
          rename_i wz
          have HZ := Lib.hid (HQ.out.trans (hbz.mono (by omega)))
          clear hbz HU1 g0 g1 ri
          go_wp2
          go_roundw
          case rel => exact ⟨k + 1, _, by omega, by go_num, rfl, HNN, HTF, HZ⟩
          case measure => simp [intOf]; omega
      · have d1 : decide (1 ≤ x.n) = false := by simpa using hx0
        have HTE := HTT.out
        rw [if_neg (fun h => hx0 h.1)] at HTE
        have HTF := Lib.hid HTE
        clear HTE HTT HU HU1 hsub
        go_wp2
        go_quiet (fail)
        go_wp2
        go_roundw
        case rel => exact ⟨k + 1, _, by omega, by go_num, rfl, HNN, HTF, Lib.hid (below_drewN HQ.out _)⟩
        case measure => simp [intOf]; omega
    · have HG : Hid (decide (n ≤ 0) = r) := Lib.hid (by
        have := HT.out
        rw [List.drop_eq_nil_of_le (by omega), HE0.out] at this
        exact this)
      go_wp2
      go_ret
      exact ⟨ret_bool HG.out, by rw [hB]; exact HQW.out⟩
end Go.Proofs.Ytmenfbfekfljbaa
