import Derived.Test.YtmenfbfekfljbaaInts
namespace Go.Proofs.Ytmenfbfekfljbaa
open Go.RowKit

structure Vt where
  id : ID
  n : Int
def vtL (x : Vt) : List Value := idL x.id ++ [.int .i64 x.n]
/-- a fact with what its slices hold -/
structure FactX where
  x : FactD
  sl : List Int
  vs : List Vt
def fxL (z : FactX) : List Value := factL z.x
theorem fxL_length (z : FactX) : (fxL z).length = 72 := factL_length _
def Inner (W : World) (z : FactX) : Prop := SlIn W (slV z.x.slots) 1 iL z.sl ∧ SlIn W (slV z.x.votes) 33 vtL z.vs
theorem Inner.below {w W : World} {z : FactX} (h : Inner w z) (hb : Below w.heap.size w W) : Inner W z := ⟨h.1.below hb, h.2.below hb⟩
def PlanD.al1 (p : PlanD) : Int := p.cfg[1]'(by rw [p.hcfg]; decide)
def PlanD.al2 (p : PlanD) : Int := p.cfg[2]'(by rw [p.hcfg]; decide)
theorem planL_1 (p : PlanD) : (planL p)[1]? = some (.int .i64 p.al1) := by
  unfold planL PlanD.al1
  rw [List.getElem?_append_left (by simp [p.hcfg])]
  simp [p.hcfg]
theorem planL_2 (p : PlanD) : (planL p)[2]? = some (.int .i64 p.al2) := by
  unfold planL PlanD.al2
  rw [List.getElem?_append_left (by simp [p.hcfg])]
  simp [p.hcfg]
theorem plan_cells {W : World} {b : Nat} {p : PlanD} {fr : Nat × Nat} (h : obj W b = some (.cells (planL p).toArray 41 fr)) :
    W.cell? ⟨b, 1, none⟩ = some (.int .i64 p.al1) ∧ W.cell? ⟨b, 2, none⟩ = some (.int .i64 p.al2) ∧ W.cell? ⟨b, 29, none⟩ = some (.slice p.byz.a p.byz.len p.byz.cap) :=
  ⟨(cell_at h 1).trans (by rw [List.getElem?_toArray]; exact planL_1 p), (cell_at h 2).trans (by rw [List.getElem?_toArray]; exact planL_2 p), (cell_at h 29).trans (by rw [List.getElem?_toArray]; exact planL_29 p)⟩
/-- how many of these are among those -/
def inN (byz : List Int) (sl : List Int) : Int := ((sl.filter fun v => decide (v ∈ byz)).length : Int)
theorem inN_snoc (byz sl : List Int) (v : Int) : inN byz (sl ++ [v]) = inN byz sl + if v ∈ byz then 1 else 0 := by
  unfold inN
  rw [List.filter_append, List.length_append]
  by_cases h : v ∈ byz <;> simp [h]
theorem inN_le (byz sl : List Int) : 0 ≤ inN byz sl ∧ inN byz sl ≤ sl.length := by
  unfold inN
  have := List.length_filter_le (fun v => decide (v ∈ byz)) sl
  omega
/-- does a sample have too many -/
def badP (byz : List Int) (al fr : Int) (z : FactX) : Bool := z.x.kind == 5 && !decide (z.x.move < fr) && decide (al ≤ inN byz z.sl)
theorem any_no {α : Type} {l : List α} {q : α → Bool} (h : ∀ j (hj : j < l.length), j < l.length → q l[j] = false) : l.any q = false := by
  rw [List.any_eq_false]
  intro x hx
  obtain ⟨j, hj, rfl⟩ := List.getElem_of_mem hx
  simpa using h j hj hj
theorem any_yes {α : Type} {l : List α} {q : α → Bool} {k : Nat} (hk : k < l.length) (h : q l[k] = true) : l.any q = true := by
  rw [List.any_eq_true]; exact ⟨_, List.getElem_mem hk, h⟩
set_option maxRecDepth 100000 in
set_option maxHeartbeats 4000000 in
/-- judge.Samples -/
theorem samples_any (w : World) (v : Value) (p : PlanD) (zs : List FactX) (byz : List Int) (fr : Int) (h : SlIn w v 72 fxL zs) (hby : SlIn w (slV p.byz) 1 iL byz) (hin : ∀ z ∈ zs, Inner w z) (hsl : ∀ z ∈ zs, z.sl.length ≤ 1000) :
    Calls Try.prog 30 #[.agg (planL p).toArray, v, .int .i64 fr] w fun e w' => e = .returned (.bool (!zs.any (badP byz p.al1 fr))) ∧ Below w.heap.size w w' := by
  have HN : Hid (∀ k (hk : k < zs.length), badP byz p.al1 fr zs[k] = true → false = (!zs.any (badP byz p.al1 fr))) := Lib.hid fun k hk hx => by rw [any_yes hk hx]; rfl
  have HY : Hid ((∀ k (hk : k < zs.length), k < zs.length → badP byz p.al1 fr zs[k] = false) → true = (!zs.any (badP byz p.al1 fr))) := Lib.hid fun hx => by rw [any_no hx]; rfl
  have HBD : Hid (∀ z, badP byz p.al1 fr z = (z.x.kind == 5 && !decide (z.x.move < fr) && decide (p.al1 ≤ inN byz z.sl))) := Lib.hid fun z => rfl
  have HIN := Lib.hid hin
  have HLS := Lib.hid hsl
  have HBY := Lib.hid hby
  have B0 := Lib.hid ((Below.refl _ w).alloc (Nat.le_refl _) (.cells (planL p).toArray 41))
  have O0 : Hid (obj (w.alloc (.cells (planL p).toArray 41)) w.heap.size = some (.cells (planL p).toArray 41 (0, 0))) := Lib.hid (obj_alloc_at _ _ _ rfl)
  have hz0 : (w.alloc (.cells (planL p).toArray 41)).heap.size = w.heap.size + 1 := by simp
  obtain ⟨oa, cap, rfl, h1, h2, h3⟩ := h
  unfold maxLen at h2
  have H3 := Lib.hid h3
  clear h3 hin hsl hby
  generalize (!zs.any (badP byz p.al1 fr)) = r at *
  go_enter Try.func30, Try.ntmps30
  go_wp2
  generalize w.alloc (.cells (planL p).toArray 41) = w0 at *
  generalize hB : w.heap.size = B at *
  go_loopw [9, 14] (fun _ v14 wr => ∃ (k : Nat), k ≤ zs.length ∧ v14 = .int .i64 k ∧ Hid (∀ j (hj : j < zs.length), j < k → badP byz p.al1 fr zs[j] = false) ∧ Hid (Below (B + 1) w0 wr)) (fun _ i _ => zs.length - (intOf i).toNat)
  case atStart => exact ⟨0, Nat.zero_le _, rfl, Lib.hid (by omega), Lib.hid (Below.refl _ _)⟩
  case round =>
    obtain ⟨k, hk, rfl, HG, HQ⟩ := hrel
    have hzq := HQ.out.size
    have HQW := Lib.hid (B0.out.trans (HQ.out.mono (by omega)))
    by_cases hlt : k < zs.length
    · obtain ⟨b, off, hoa, hbb, hrow⟩ := H3.out (by omega)
      subst hoa
      have hsub : subOf (obj wr b) (off + k * 72) 72 = some (factL zs[k].x).toArray := by have := hrow k hlt; rw [← obj_below HQW.out (by omega)] at this; exact this
      have hbr : b < wr.heap.size := by omega
      have NX : Hid (badP byz p.al1 fr zs[k] = false → ∀ j (h1 : j < zs.length), j < k + 1 → badP byz p.al1 fr zs[j] = false) := Lib.hid (fun h j h1 hlt' => by
          by_cases e : j = k
          · subst e; exact h
          · exact HG.out j h1 (by omega))
      have NO := Lib.hid (HN.out k hlt)
      have BD := Lib.hid (HBD.out zs[k])
      have HI := Lib.hid (HIN.out zs[k] (List.getElem_mem hlt)).1
      have hls := HLS.out zs[k] (List.getElem_mem hlt)
      generalize zs[k] = z at *
      clear hrow
      have bA : Below wr.heap.size wr (wr.alloc (.cells (factL z.x).toArray 54)) := (Below.refl _ _).alloc (Nat.le_refl _) _
      have f1 : obj (wr.alloc (.cells (factL z.x).toArray 54)) wr.heap.size = some (.cells (factL z.x).toArray 54 (0, 0)) := obj_alloc_at _ _ _ rfl
      have HQA := Lib.hid (HQ.out.trans (bA.mono (by omega)))
      cases e5 : z.x.kind == 5
      · have hne : ¬ z.x.kind = 5 := by simpa using e5
        have d5 : (z.x.kind != 5) = true := by simp [hne]
        have hc := Lib.hid (NX.out (by rw [BD.out, e5]; rfl))
        go_wp2
        go_roundw
        case rel => exact ⟨k + 1, by omega, by go_num, hc, HQA⟩
        case measure => simp [intOf]; omega
      · have heq : z.x.kind = 5 := by simpa using e5
        have d5 : (z.x.kind != 5) = false := by simp [heq]
        by_cases hm : z.x.move < fr
        · have d0 : decide (z.x.move < fr) = true := by simpa using hm
          have hc := Lib.hid (NX.out (by rw [BD.out, d0]; simp))
          clear hm
          go_wp2
          go_roundw
          case rel => exact ⟨k + 1, by omega, by go_num, hc, HQA⟩
          case measure => simp [intOf]; omega
        · have d0 : decide (z.x.move < fr) = false := by simpa using hm
          have BD2 : Hid (badP byz p.al1 fr z = decide (p.al1 ≤ inN byz z.sl)) := Lib.hid (by rw [BD.out, e5, d0]; simp)
          obtain ⟨p1, p2, p3⟩ := fact_parts (x := z.x) (W := wr.alloc (.cells (factL z.x).toArray 54)) (b := wr.heap.size) (o := 0) (by rw [f1, subOf_cells (by simp), subA_all (by simp)])
          obtain ⟨p31, p32, p33, p34⟩ := p3
          obtain ⟨sa, scap, hse, q1, q2, q3⟩ := HI.out
          unfold maxLen at q2
          unfold slV at hse p33
          simp only [Value.slice.injEq] at hse
          obtain ⟨hs1, hs2, hs3⟩ := hse
          rw [hs1, hs2, hs3] at p33
          have HQ3 := Lib.hid q3
          clear hm p1 p2 p31 p32 p34 BD q3
          go_wp2
          have hlsl : z.sl.length ≤ 1000 := hls
          have hzx : (wr.alloc (.cells (factL z.x).toArray 54)).heap.size = wr.heap.size + 1 := by simp
          generalize wr.alloc (.cells (factL z.x).toArray 54) = wf at *
          go_loopw [9, 30] (fun v9 v30 wr => ∃ (j : Nat), j ≤ z.sl.length ∧ v30 = .int .i64 j ∧ v9 = .int .i64 (inN byz (z.sl.take j)) ∧ Hid (Below (B + 1) w0 wr)) (fun _ i _ => z.sl.length - (intOf i).toNat)
          case atStart => exact ⟨0, Nat.zero_le _, rfl, rfl, HQA⟩
          case round =>
            obtain ⟨j, hj, rfl, rfl, HJ⟩ := hrel
            have hzj := HJ.out.size
            have HJW := Lib.hid (B0.out.trans (HJ.out.mono (by omega)))
            have oP := (obj_below HJ.out (by omega)).trans O0.out
            obtain ⟨pc1, pc2, pc3⟩ := plan_cells oP
            have hPl := lt_of_obj oP
            have hle := inN_le byz (z.sl.take j)
            by_cases hjt : j < z.sl.length
            · obtain ⟨b2, off2, hoa2, hbb2, hrow2⟩ := HQ3.out (by omega)
              have cx := int_cell hrow2 (obj_below HJW.out (by omega)) hjt
              have hbl2 : b2 < wr.heap.size := by omega
              have HS := Lib.hid (inN_snoc byz (z.sl.take j) z.sl[j])
              rw [← List.take_succ_eq_append_getElem hjt] at HS
              have HC := Lib.hid (show Calls Try.prog 49 #[.slice p.byz.a p.byz.len p.byz.cap, .int .i64 z.sl[j]] wr _ from contains_int wr (slV p.byz) byz z.sl[j] (HBY.out.below (by rw [hB]; exact HJW.out)))
              subst hoa2
              clear hrow2 oP
              generalize z.sl[j] = y at *
              by_cases hy : y ∈ byz
              · have dy : decide (y ∈ byz) = true := by simpa using hy
                rw [if_pos hy] at HS
                rw [dy] at HC
                have hwr : IntKind.i64.wrap (inN byz (z.sl.take j) + 1) = inN byz (z.sl.take j) + 1 := by
                  rw [List.length_take] at hle
                  simp [IntKind.wrap, IntKind.signed, IntKind.bits]; omega
                clear hy hle
                go_wp2_with fail
                refine HC.out.mono ?_
                rintro e w5 ⟨rfl, b5⟩
                have HJ5 := Lib.hid (HJ.out.trans (b5.mono (by omega)))
                clear b5 HC
                go_wp2
                go_roundw
                case rel => exact ⟨j + 1, by omega, by go_num, by rw [HS.out], HJ5⟩
                case measure => simp [intOf]; omega
              · have dy : decide (y ∈ byz) = false := by simpa using hy
                rw [if_neg hy, Int.add_zero] at HS
                rw [dy] at HC
                clear hy hle
                go_wp2_with fail
                refine HC.out.mono ?_
                rintro e w5 ⟨rfl, b5⟩
                have HJ5 := Lib.hid (HJ.out.trans (b5.mono (by omega)))
                clear b5 HC
                go_wp2
                go_roundw
                case rel => exact ⟨j + 1, by omega, by go_num, by rw [HS.out], HJ5⟩
                case measure => simp [intOf]; omega
            · have hke : z.sl.take j = z.sl := List.take_of_length_le (by omega)
              rw [hke] at hle ⊢
              clear oP
              by_cases hal : p.al1 ≤ inN byz z.sl
              · have da : decide (p.al1 ≤ inN byz z.sl) = true := by simpa using hal
                have HF := Lib.hid (NO.out (by rw [BD2.out]; exact da))
                clear hal
                go_wp2
                go_ret
                exact ⟨ret_bool HF.out, by rw [hB]; exact HJW.out⟩
              · have da : decide (p.al1 ≤ inN byz z.sl) = false := by simpa using hal
                have HF := Lib.hid (NX.out (by rw [BD2.out]; exact da))
                clear hal
                go_wp2
                go_roundw
                case rel => exact ⟨k + 1, by omega, by go_num, HF, HJ⟩
                case measure => simp [intOf]; omega
    · have HR := Lib.hid (HY.out (fun j hj _ => HG.out j hj (by omega)))
      go_wp2
      go_ret
      exact ⟨ret_bool HR.out, by rw [hB]; exact HQW.out⟩
end Go.Proofs.Ytmenfbfekfljbaa
