import Derived.Test.YtmenfbfekfljbaaStays
import Derived.Test.YtmenfbfekfljbaaUnderR
namespace Go.Proofs.Ytmenfbfekfljbaa
open Go.RowKit

set_option maxRecDepth 100000 in
set_option maxHeartbeats 4000000 in
/-- flurryref26.Stays -/
theorem staysR_any (w : World) (v : Value) (xs : List FactD) (fr : Int) (id : ID) (h : SlIn w v 72 factL xs) (hlen : xs.length ≤ 1000) :
    Calls Try.prog 29 #[v, .int .i64 fr, .agg (idL id).toArray] w fun e w' => e = .returned (.bool (!xs.any (badS xs fr id))) ∧ Below w.heap.size w w' := by
  have HN : Hid (∀ k (hk : k < xs.length), badS xs fr id xs[k] = true → false = (!xs.any (badS xs fr id))) := Lib.hid fun k hk hx => by
    symm; rw [Bool.not_eq_false', List.any_eq_true]; exact ⟨_, List.getElem_mem hk, hx⟩
  have HY : Hid ((∀ k (hk : k < xs.length), k < xs.length → badS xs fr id xs[k] = false) → true = (!xs.any (badS xs fr id))) := Lib.hid fun hx => by
    symm
    rw [Bool.not_eq_true', List.any_eq_false]
    intro y hy
    obtain ⟨j, hj, rfl⟩ := List.getElem_of_mem hy
    simpa using hx j hj hj
  have HBD : Hid (∀ x, badS xs fr id x = (!decide (x.move < fr) && (if x.kind == 4 || x.kind == 8 then conflictR xs x.id id else x.kind == 2 && (conflictR xs x.id id || conflictR xs x.other id)))) := Lib.hid fun x => rfl
  have HCF := fun W (hb : Below w.heap.size w W) a b => Lib.hid (ref_conflict_any W v xs a b (h.below hb) hlen)
  have B0 := Lib.hid ((Below.refl _ w).alloc (Nat.le_refl _) (.cells (idL id).toArray 45))
  have O0 : Hid (obj (w.alloc (.cells (idL id).toArray 45)) w.heap.size = some (.cells (idL id).toArray 45 (0, 0))) := Lib.hid (obj_alloc_at _ _ _ rfl)
  have hz0 : (w.alloc (.cells (idL id).toArray 45)).heap.size = w.heap.size + 1 := by simp
  obtain ⟨oa, cap, rfl, h1, h2, h3⟩ := h
  unfold maxLen at h2
  have H3 := Lib.hid h3
  clear h3
  generalize (!xs.any (badS xs fr id)) = r at *
  go_enter Try.func29, Try.ntmps29
  go_wp2
  generalize w.alloc (.cells (idL id).toArray 45) = w0 at *
  generalize hB : w.heap.size = B at *
  go_loopw [7] (fun v7 wr => ∃ (k : Nat), k ≤ xs.length ∧ v7 = .int .i64 k ∧ Hid (∀ j (hj : j < xs.length), j < k → badS xs fr id xs[j] = false) ∧ Hid (Below (B + 1) w0 wr)) (fun i _ => xs.length - (intOf i).toNat)
  case atStart => exact ⟨0, Nat.zero_le _, rfl, Lib.hid (by omega), Lib.hid (Below.refl _ _)⟩
  case round =>
    obtain ⟨k, hk, rfl, HG, HQ⟩ := hrel
    have hzq := HQ.out.size
    have HQW := Lib.hid (B0.out.trans (HQ.out.mono (by omega)))
    by_cases hlt : k < xs.length
    · obtain ⟨b, off, hoa, hbb, hrow⟩ := H3.out (by omega)
      subst hoa
      have hsub := hrow k hlt
      rw [← obj_below HQW.out (by omega)] at hsub
      have hbr : b < wr.heap.size := by omega
      have hmulk : off + k * 72 + 72 ≤ off + k * 72 + 72 := Nat.le_refl _
      have NX : Hid (badS xs fr id xs[k] = false → ∀ j (h1 : j < xs.length), j < k + 1 → badS xs fr id xs[j] = false) := Lib.hid (fun h j h1 hlt' => by
          by_cases e : j = k
          · subst e; exact h
          · exact HG.out j h1 (by omega))
      have NO := Lib.hid (HN.out k hlt)
      have BD := Lib.hid (HBD.out xs[k])
      generalize xs[k] = x at *
      clear hrow
      have bA : Below wr.heap.size wr (wr.alloc (.cells (factL x).toArray 54)) := (Below.refl _ _).alloc (Nat.le_refl _) _
      have F1 : Hid (obj (wr.alloc (.cells (factL x).toArray 54)) wr.heap.size = some (.cells (factL x).toArray 54 (0, 0))) := Lib.hid (obj_alloc_at _ _ _ rfl)
      have HQA := Lib.hid (HQ.out.trans (bA.mono (by omega)))
      have hzx : (wr.alloc (.cells (factL x).toArray 54)).heap.size = wr.heap.size + 1 := by simp
      have OI := Lib.hid ((obj_below HQA.out (by omega)).trans O0.out)
      by_cases hm : x.move < fr
      · have d0 : decide (x.move < fr) = true := by simpa using hm
        have hc := Lib.hid (NX.out (by rw [BD.out, d0]; rfl))
        clear hm
        go_wp2
        go_roundw
        case rel => exact ⟨k + 1, by omega, by go_num, hc, HQA⟩
        case measure => simp [intOf]; omega
      · have d0 : decide (x.move < fr) = false := by simpa using hm
        by_cases hkk : x.kind = 4 ∨ x.kind = 8 ∨ x.kind = 2
        · have HC1 := Lib.hid ((HCF _ (B0.out.trans (HQA.out.mono (by omega))) x.id id).out)
          have p0 : subOf (obj (wr.alloc (.cells (factL x).toArray 54)) B) 0 32 = some (idL id).toArray := by rw [OI.out, subOf_cells (by simp), subA_all (by simp)]
          have hBl := lt_of_obj OI.out
          obtain ⟨⟨g0, g1, _, _⟩, ⟨g2, g3⟩, _⟩ := fact_parts (x := x) (W := wr.alloc (.cells (factL x).toArray 54)) (b := wr.heap.size) (o := 0) (by rw [F1.out, subOf_cells (by simp), subA_all (by simp)])
          rw [Nat.zero_add] at g1 g2 g3
          have step : ∀ (c2 : Bool), Hid (badS xs fr id x = (if x.kind == 4 || x.kind == 8 then conflictR xs x.id id else x.kind == 2 && (conflictR xs x.id id || conflictR xs x.other id))) := fun _ => Lib.hid (by rw [BD.out, d0]; rfl)
          have BD2 := step true
          have C2 := fun W (hW : Below B w W) => Lib.hid ((HCF W hW x.other id).out)
          clear hm BD step HCF
          generalize conflictR xs x.id id = c1 at *
          generalize conflictR xs x.other id = c2 at *
          have hwx := lt_of_obj F1.out
          rcases hkk with hk4 | hk8 | hk2
          · have e4 : (x.kind != 4) = false := by simp [hk4]
            have e8 : (x.kind != 8) = true := by simp [hk4]
            have f2 : (x.kind == 2) = false := by simp [hk4]
            have BD3 : Hid (badS xs fr id x = c1) := Lib.hid (by rw [BD2.out]; simp [hk4])
            clear hk4
            go_wp2_with fail
            generalize wr.alloc (.cells (factL x).toArray 54) = wx at *
            generalize hbx : wr.heap.size = bx at *
            refine HC1.out.mono ?_
            rintro e w5 ⟨rfl, b5⟩
            have hz5 := b5.size
            have HQ5 := Lib.hid (HQA.out.trans (b5.mono (by omega)))
            obtain ⟨⟨g0', g1', _, _⟩, ⟨g2', g3'⟩, _⟩ := fact_parts (x := x) (W := w5) (b := bx) (o := 0) (by rw [obj_below b5 (by omega), F1.out, subOf_cells (by simp), subA_all (by simp)])
            rw [Nat.zero_add] at g1' g2' g3'
            have p0' : subOf (obj w5 B) 0 32 = some (idL id).toArray := by rw [obj_below b5 (by omega)]; exact p0
            have hB5 : B < w5.heap.size := by omega
            have hx5 : bx < w5.heap.size := by omega
            clear b5 HC1 g0 g1 g2 g3 p0 hsub
            cases c1
            · have hc := Lib.hid (NX.out BD3.out)
              go_wp2
              go_roundw
              case rel => exact ⟨k + 1, by omega, by go_num, hc, HQ5⟩
              case measure => simp [intOf]; omega
            · have hc := Lib.hid (NO.out BD3.out)
              go_wp2
              go_ret
              exact ⟨ret_bool hc.out, by rw [hB]; exact B0.out.trans (HQ5.out.mono (by omega))⟩
          · have e4 : (x.kind != 4) = true := by simp [hk8]
            have e8 : (x.kind != 8) = false := by simp [hk8]
            have f2 : (x.kind == 2) = false := by simp [hk8]
            have BD3 : Hid (badS xs fr id x = c1) := Lib.hid (by rw [BD2.out]; simp [hk8])
            clear hk8
            go_wp2_with fail
            generalize wr.alloc (.cells (factL x).toArray 54) = wx at *
            generalize hbx : wr.heap.size = bx at *
            refine HC1.out.mono ?_
            rintro e w5 ⟨rfl, b5⟩
            have hz5 := b5.size
            have HQ5 := Lib.hid (HQA.out.trans (b5.mono (by omega)))
            obtain ⟨⟨g0', g1', _, _⟩, ⟨g2', g3'⟩, _⟩ := fact_parts (x := x) (W := w5) (b := bx) (o := 0) (by rw [obj_below b5 (by omega), F1.out, subOf_cells (by simp), subA_all (by simp)])
            rw [Nat.zero_add] at g1' g2' g3'
            have p0' : subOf (obj w5 B) 0 32 = some (idL id).toArray := by rw [obj_below b5 (by omega)]; exact p0
            have hB5 : B < w5.heap.size := by omega
            have hx5 : bx < w5.heap.size := by omega
            clear b5 HC1 g0 g1 g2 g3 p0 hsub
            cases c1
            · have hc := Lib.hid (NX.out BD3.out)
              go_wp2
              go_roundw
              case rel => exact ⟨k + 1, by omega, by go_num, hc, HQ5⟩
              case measure => simp [intOf]; omega
            · have hc := Lib.hid (NO.out BD3.out)
              go_wp2
              go_ret
              exact ⟨ret_bool hc.out, by rw [hB]; exact B0.out.trans (HQ5.out.mono (by omega))⟩
          · have e4 : (x.kind != 4) = true := by simp [hk2]
            have e8 : (x.kind != 8) = true := by simp [hk2]
            have e2 : (x.kind != 2) = false := by simp [hk2]
            have f2 : (x.kind == 2) = true := by simp [hk2]
            have BD3 : Hid (badS xs fr id x = (c1 || c2)) := Lib.hid (by rw [BD2.out]; simp [hk2])
            clear hk2
            go_wp2_with fail
            generalize wr.alloc (.cells (factL x).toArray 54) = wx at *
            generalize hbx : wr.heap.size = bx at *
            refine HC1.out.mono ?_
            rintro e w5 ⟨rfl, b5⟩
            have hz5 := b5.size
            have HQ5 := Lib.hid (HQA.out.trans (b5.mono (by omega)))
            obtain ⟨⟨g0', g1', _, _⟩, ⟨g2', g3'⟩, _⟩ := fact_parts (x := x) (W := w5) (b := bx) (o := 0) (by rw [obj_below b5 (by omega), F1.out, subOf_cells (by simp), subA_all (by simp)])
            rw [Nat.zero_add] at g1' g2' g3'
            have p0' : subOf (obj w5 B) 0 32 = some (idL id).toArray := by rw [obj_below b5 (by omega)]; exact p0
            have hB5 : B < w5.heap.size := by omega
            have hx5 : bx < w5.heap.size := by omega
            clear b5 HC1 g0 g1 g2 g3 p0 hsub
            cases c1
            · have HC2 := Lib.hid ((C2 w5 (B0.out.trans (HQ5.out.mono (by omega)))).out)
              go_wp2_with fail
              refine HC2.out.mono ?_
              rintro e w6 ⟨rfl, b6⟩
              have HQ6 := Lib.hid (HQ5.out.trans (b6.mono (by omega)))
              clear b6 HC2
              cases c2
              · have hc := Lib.hid (NX.out BD3.out)
                go_wp2
                go_roundw
                case rel => exact ⟨k + 1, by omega, by go_num, hc, HQ6⟩
                case measure => simp [intOf]; omega
              · have hc := Lib.hid (NO.out BD3.out)
                go_wp2
                go_ret
                exact ⟨ret_bool hc.out, by rw [hB]; exact B0.out.trans (HQ6.out.mono (by omega))⟩
            · have hc := Lib.hid (NO.out BD3.out)
              go_wp2
              go_ret
              exact ⟨ret_bool hc.out, by rw [hB]; exact B0.out.trans (HQ5.out.mono (by omega))⟩
        · have e4 : (x.kind != 4) = true := by simp; omega
          have e8 : (x.kind != 8) = true := by simp; omega
          have e2 : (x.kind != 2) = true := by simp; omega
          have hc := Lib.hid (NX.out (by
            have f4 : (x.kind == 4) = false := by simp; omega
            have f8 : (x.kind == 8) = false := by simp; omega
            have f2 : (x.kind == 2) = false := by simp; omega
            rw [BD.out, f4, f8, f2]; simp))
          clear hm hkk
          go_wp2
          go_roundw
          case rel => exact ⟨k + 1, by omega, by go_num, hc, HQA⟩
          case measure => simp [intOf]; omega
    · have HR := Lib.hid (HY.out (fun j hj _ => HG.out j hj (by omega)))
      go_wp2
      go_ret
      exact ⟨ret_bool HR.out, by rw [hB]; exact HQW.out⟩
end Go.Proofs.Ytmenfbfekfljbaa
