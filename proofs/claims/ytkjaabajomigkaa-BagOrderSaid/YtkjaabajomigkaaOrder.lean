import Derived.Test.YtkjaabajomigkaaOrd
import Derived.Test.YtkjaabajomigkaaOpenC
namespace Go.Proofs.Ytkjaabajomigkaa
open Go.RowKit

set_option maxRecDepth 100000 in
set_option maxHeartbeats 4000000 in
/-- BagOrder -/
theorem orderLaw_any (w : World) (vi vs : Value) (ids : List ID) (us : List Int) (c : Int) (h1 : SlIn w vi 32 idL ids) (h2 : SlIn w vs 1 byL us) (hu : ∀ u ∈ us, 0 ≤ u ∧ u ≤ 255) (hc0 : 0 ≤ c) (hc1 : c ≤ 255) :
    Calls Try.prog 6 #[vi, vs, .int .u8 c] w fun e w' => e = .returned (.bool true) ∧ Below w.heap.size w w' := by
  have HL := fun W => Lib.hid (live_any W)
  have H1 := Lib.hid h1
  have H2 := Lib.hid h2
  obtain ⟨oa, ca, rfl, a1, a2, a3⟩ := h1
  obtain ⟨ob, cb, rfl, b1, b2, b3⟩ := h2
  have HR := Lib.hid a3
  have HR2 := Lib.hid b3
  have HU := Lib.hid hu
  unfold maxLen at a2 b2
  clear a3 b3 hu
  by_cases hn : ids.length ≤ 60
  · by_cases hn2 : us.length ≤ 200
    · have d1 : decide ((60 : Int) < (ids.length : Int)) = false := by simp; omega
      have d2 : decide ((200 : Int) < (us.length : Int)) = false := by simp; omega
      go_enter Try.func6, Try.ntmps6
      go_wp2_with fail
      refine (HL _).out.mono ?_
      rintro e w1 ⟨rfl, b1'⟩
      have B1 := Lib.hid b1'
      have HC := Lib.hid (clone_names w1 _ ids (H1.out.below b1') (by omega))
      clear b1' HL
      go_wp2_with fail
      refine HC.out.mono ?_
      rintro e w2 ⟨v7, rfl, o7, b2'⟩
      have B2 := Lib.hid b2'
      have O7 := Lib.hid o7
      obtain ⟨o7a, c7a, e7, _, _, _⟩ := o7.slIn idL_length
      subst e7
      have hz2 := b2'.size
      clear b2' HC o7
      go_wp2
      go_loopw [37] (fun v37 wr => ∃ k : Nat, k ≤ us.length ∧ v37 = .int .i64 k ∧ Hid (∃ L : List ID, OwnC wr w1.heap.size 27 32 idL (.slice o7a ids.length c7a) L ∧ L.Perm ids) ∧ Hid (Below w1.heap.size w1 wr)) (fun i _ => us.length - (intOf i).toNat)
      case atStart => exact ⟨0, Nat.zero_le _, rfl, Lib.hid ⟨ids, O7.out, List.Perm.refl _⟩, B2⟩
      case round =>
        obtain ⟨k, hk, rfl, HLL, HQ⟩ := hrel
        have hzq := HQ.out.size
        have HQW := Lib.hid (B1.out.trans (HQ.out.mono B1.out.size))
        by_cases hlt : k < us.length
        · obtain ⟨bb, off, hob, hbb, hrow⟩ := HR2.out (by omega)
          subst hob
          have hs1 := hrow k hlt
          rw [← obj_below HQW.out hbb] at hs1
          have hbl : bb < wr.heap.size := by have := B1.out.size; omega
          have HUK := HU.out us[k] (List.getElem_mem hlt)
          generalize us[k] = u at *
          obtain ⟨hu1, hu2⟩ := HUK
          have hc1' : wr.cell? ⟨bb, off + k, none⟩ = some (.int .u8 u) := by have := subOf_cell hs1 (j := 0) (by decide); simpa [byL] using this
          clear hs1 hrow
          by_cases hl0 : 0 < ids.length
          · obtain ⟨L, hL, hp⟩ := HLL.out
            have hll := hp.length_eq
            obtain ⟨g, cur, rfl, hgB, hg, q1, q2, hcs, htk⟩ : ∃ g cur, o7a = some ⟨g, 0, none⟩ ∧ w1.heap.size ≤ g ∧ obj wr g = some (.cells cur 27 (0, 0)) ∧ L.length ≤ c7a ∧ c7a ≤ maxLen ∧ cur.size = c7a * 32 ∧ cur.toList.take (L.length * 32) = L.flatMap idL := by
              rcases hL.2 with ⟨e, h0⟩ | ⟨g, cap, cur, e, hb, hg, h1, h2, h3, h4⟩
              · omega
              · simp only [Value.slice.injEq] at e
                obtain ⟨rfl, _, rfl⟩ := e
                exact ⟨g, cur, rfl, hb, hg, h1, h2, h3, h4⟩
            unfold maxLen at q2
            have hl0' : (0 : Int) < (ids.length : Int) := by omega
            obtain ⟨cc, rfl⟩ : ∃ cc : Nat, u = (cc : Int) := ⟨u.toNat, by omega⟩
            have hm1 : ((k : Int)).tmod (ids.length : Int) = ((k % ids.length : Nat) : Int) := by rw [Int.tmod_eq_emod_of_nonneg (by omega)]; simp
            have hm2 : ((cc : Int)).tmod (ids.length : Int) = ((cc % ids.length : Nat) : Int) := by rw [Int.tmod_eq_emod_of_nonneg (by omega)]; simp
            have hi1 : k % ids.length < ids.length := Nat.mod_lt _ hl0
            have hi2 : cc % ids.length < ids.length := Nat.mod_lt _ hl0
            generalize k % ids.length = i1 at *
            generalize cc % ids.length = i2 at *
            have hP := Lib.hid hp
            clear hL hp
            go_wp2
            go_quiet (fail)
            have s1 := rowk_get (E := 27) idL_length htk hcs q1 (i := i1) (by omega)
            have s2 := rowk_get (E := 27) idL_length htk hcs q1 (i := i2) (by omega)
            have hgz := lt_of_obj hg
            have r1 := rowk_set idL_length htk hcs q1 (i := i1) (by omega) L[i2]
            have r2 := rowk_set (L := L.set i1 L[i2]) idL_length (by rw [List.length_set]; exact r1.2) r1.1 (by rw [List.length_set]; exact q1) (i := i2) (by rw [List.length_set]; omega) L[i1]
            have HPP : Hid (((L.set i1 L[i2]).set i2 L[i1]).Perm ids) := Lib.hid ((List.set_set_perm (by omega) (by omega)).trans hP.out)
            have hsz1 : i1 * 32 + 32 ≤ cur.size := by omega
            have hsz2 : i2 * 32 + 32 ≤ cur.size := by omega
            generalize hx : L[i1] = x at *
            generalize hy : L[i2] = y at *
            have p1 : putOf (some (.cells cur 27 (0, 0))) (i1 * 32) 32 (idL y).toArray = some (.cells (spliceA cur (i1 * 32) (idL y).toArray) 27 (0, 0)) := putOf_cells hsz1 (by simp) (idL_one _)
            have hcz : (spliceA cur (i1 * 32) (idL y).toArray).size = cur.size := by rw [r1.1, hcs]
            generalize spliceA cur (i1 * 32) (idL y).toArray = cur1 at *
            have p2 : putOf (some (.cells cur1 27 (0, 0))) (i2 * 32) 32 (idL x).toArray = some (.cells (spliceA cur1 (i2 * 32) (idL x).toArray) 27 (0, 0)) := putOf_cells (by omega) (by simp) (idL_one _)
            generalize spliceA cur1 (i2 * 32) (idL x).toArray = cur2 at *
            have R2 := Lib.hid r2
            generalize hL2 : (L.set i1 y).set i2 x = L2 at *
            have hL2l : L2.length = ids.length := HPP.out.length_eq
            rw [List.length_set] at R2
            clear htk r1 r2 hcs hcz hx hy hm1 hm2
            go_wp2
            go_region
            have OL : Hid (OwnC ((putObj wr g (.cells cur2 27)).drewN (nq + 1)) w1.heap.size 27 32 idL (.slice (some ⟨g, 0, none⟩) ids.length c7a) L2) := Lib.hid (by
              refine ⟨by rw [flatMap_len idL_length], .inr ⟨g, c7a, cur2, by rw [hL2l], hgB, obj_putObj_eq _ _ _ hgz, by omega, by unfold maxLen; exact q2, R2.out.1, ?_⟩⟩
              rw [hL2l, ← hll]
              exact R2.out.2)
            have BS : Hid (Below w1.heap.size w1 ((putObj wr g (.cells cur2 27)).drewN (nq + 1))) := Lib.hid (below_drewN (below_putObj HQ.out hgB _) _)
            go_wp2
            go_roundw
            case rel => exact ⟨k + 1, by omega, by go_num, Lib.hid ⟨L2, OL.out, HPP.out⟩, BS⟩
            case measure => simp [intOf]; omega
          · have d0 : decide ((0 : Int) < (ids.length : Int)) = false := decide_eq_false (by omega)
            go_wp2
            go_roundw
            case rel => exact ⟨k + 1, by omega, by go_num, HLL, HQ⟩
            case measure => simp [intOf]; omega
        · obtain ⟨L, hL, hp⟩ := HLL.out
          have HLP := Lib.hid (ofV_perm hp)
          have HLL2 : Hid (L.length ≤ 1048576) := Lib.hid (by have := hp.length_eq; omega)
          have HSL := Lib.hid (hL.slIn idL_length)
          have HOF := Lib.hid (of_any wr _ ids (H1.out.below HQW.out) (by omega))
          clear hL hp HLL HR2 HU
          go_wp2_with fail
          refine HOF.out.mono ?_
          rintro e w3 ⟨v12, rfl, o12, b3⟩
          have Q3 := Lib.hid (HQ.out.trans (b3.mono hzq))
          have X3 := Lib.hid (B1.out.trans (Q3.out.mono B1.out.size))
          have HSL3 := Lib.hid (HSL.out.below b3)
          have H12 := Lib.hid (o12.slIn vtL_length)
          have hzw3 := b3.size
          clear b3 o12 HOF HSL
          obtain ⟨cn, rfl⟩ : ∃ cn : Nat, c = (cn : Int) := ⟨c.toNat, by omega⟩
          have hm : ((cn : Int)).tmod ((ids.length : Int) + 1) = ((cn % (ids.length + 1) : Nat) : Int) := by rw [Int.tmod_eq_emod_of_nonneg (by omega)]; simp
          have hkk : cn % (ids.length + 1) ≤ ids.length := by have := Nat.mod_lt cn (show 0 < ids.length + 1 by omega); omega
          generalize cn % (ids.length + 1) = kc at *
          obtain ⟨hv, hhi, hhs⟩ := run_hi23 H1.out hkk
          have hlo := run_lo23 H1.out hkk
          have HHS := Lib.hid hhs
          have OF1 := Lib.hid (fun W (hW : Below w3.heap.size w3 W) => of_any W (.slice oa kc ca) (ids.take kc) (SlIn.take (H1.out.below (X3.out.trans (hW.mono X3.out.size))) hkk) (by simp; omega))
          have OF2 := Lib.hid (fun W (hW : Below w3.heap.size w3 W) => of_any W hv (ids.drop kc) (hhs W (H1.out.below (X3.out.trans (hW.mono X3.out.size)))) (by simp; omega))
          obtain ⟨hme, hmw⟩ := merge_of ids (by omega) kc
          have ME := Lib.hid (fun W (va vb : Value) => merge_any W va vb (ofV [] (ids.take kc)) (ofV [] (ids.drop kc)))
          rw [hme, hmw] at ME
          clear hhs hme hmw
          go_wp2
          go_region_held3 (fun W => Below w3.heap.size w3 W)
            (first | exact (Below.refl _ _).drew | assumption | exact Below.alloc (by assumption) (Below.size (by assumption)) _)
            (first
              | (go_at_call 17; (with_reducible refine (OF1.out _ (by assumption)).mono ?_); rintro _ wA ⟨vA, rfl, oA, hA⟩; have hA' : Below w3.heap.size w3 wA := Below.trans (by assumption) (hA.mono (Below.size (by assumption))); have sA := Lib.hid (oA.slIn vtL_length); clear hA oA)
              | (go_at_call 17; (with_reducible refine (OF2.out _ (by assumption)).mono ?_); rintro _ wB ⟨vB, rfl, oB, hB⟩; have hB' : Below w3.heap.size w3 wB := Below.trans (by assumption) (hB.mono (Below.size (by assumption))); have sA2 := Lib.hid (sA.out.below hB); have sB := Lib.hid (oB.slIn vtL_length); clear hB oB)
              | (go_at_call 30; (with_reducible refine (ME.out _ _ _ sA2.out sB.out).mono ?_); rintro _ wC ⟨vC, rfl, oC, hC⟩; have hC' : Below w3.heap.size w3 wC := Below.trans (by assumption) (hC.mono (Below.size (by assumption))); have sC := Lib.hid (oC.slIn vtL_length); clear hC oC))
          have XC := Lib.hid (X3.out.trans (hC'.mono X3.out.size))
          have H12C := Lib.hid (H12.out.below hC')
          have HSLC := Lib.hid (HSL3.out.below hC')
          have HAD := Lib.hid (fun k (h : k < ids.length) => add_of ids (by omega) h)
          have HTF := Lib.hid (tot_of ids (by omega))
          have SC := sC
          clear sA sA2 sB OF1 OF2 ME H12 HSL3 hhi hlo HHS hm HQ HQW
          go_wp2
          go_loopw [16, 91] (fun v16 v91 wr => ∃ k : Nat, k ≤ ids.length ∧ v91 = .int .i64 k ∧ Hid (OwnS wr wC.heap.size 33 33 vtL v16 (ofV [] (ids.take k))) ∧ Hid (Below wC.heap.size wC wr)) (fun _ i _ => ids.length - (intOf i).toNat)
          case atStart => exact ⟨0, Nat.zero_le _, rfl, Lib.hid (OwnS.nil _ _ _ _ _), Lib.hid (Below.refl _ _)⟩
          case round =>
            obtain ⟨k, hk, rfl, HO, HQ⟩ := hrel
            have hzq := HQ.out.size
            have HQW := Lib.hid (XC.out.trans (HQ.out.mono XC.out.size))
            by_cases hlt : k < ids.length
            · obtain ⟨b, off, hoa, hbb, hrow⟩ := HR.out (by omega)
              subst hoa
              have hs1 := hrow k hlt
              rw [← obj_below HQW.out hbb] at hs1
              have hbl : b < wr.heap.size := by have := XC.out.size; omega
              have hmulk : off + k * 32 + 32 ≤ off + k * 32 + 32 := Nat.le_refl _
              obtain ⟨t1, t2, t3⟩ := HAD.out k hlt
              have o2 : obj (wr.alloc (.cells (idL ids[k]).toArray 27)) wr.heap.size = some (.cells (idL ids[k]).toArray 27 (0, 0)) := obj_alloc_at _ _ _ rfl
              have HA := Lib.hid (add_any (wr.alloc (.cells (idL ids[k]).toArray 27)) u16 _ ids[k] 1 ((HO.out.alloc _).slIn vtL_length) t3)
              rw [t1, t2] at HA
              have HQ2 := Lib.hid (HQ.out.alloc hzq (.cells (idL ids[k]).toArray 27))
              have hzx : (wr.alloc (.cells (idL ids[k]).toArray 27)).heap.size = wr.heap.size + 1 := by simp
              clear hrow t1 t2 t3 HO
              generalize ids[k] = x at *
              have p2 : subOf (obj (wr.alloc (.cells (idL x).toArray 27)) wr.heap.size) 0 32 = some (idL x).toArray := by rw [o2, subOf_cells (by simp), subA_all (by simp)]
              clear o2
              go_wp2_with fail
              generalize wr.alloc (.cells (idL x).toArray 27) = wx at *
              refine HA.out.mono ?_
              rintro e w5 ⟨v5, rfl, o5, b5⟩
              have HO5 := Lib.hid (o5.rebase (b' := wC.heap.size) (by omega))
              have HQ5 := Lib.hid (HQ2.out.trans (b5.mono (by omega)))
              clear o5 b5 HA
              go_wp2
              go_roundw
              case rel => exact ⟨k + 1, by omega, by go_num, HO5, HQ5⟩
              case measure => simp [intOf]; omega
            · have hke : ids.take k = ids := List.take_of_length_le (by omega)
              rw [hke] at HO
              have HN := Lib.hid (HO.out.slIn vtL_length)
              have HOF := Lib.hid (of_any wr _ L (HSLC.out.below HQ.out) HLL2.out)
              rw [HLP.out] at HOF
              obtain ⟨hbe, hto⟩ := HTF.out
              have H12r := Lib.hid (H12C.out.below HQ.out)
              have SCr := Lib.hid (SC.out.below HQ.out)
              clear HR hke HO H12C HSLC SC HAD
              go_wp2_with fail
              refine HOF.out.mono ?_
              rintro e w6 ⟨v6, rfl, o6, b6⟩
              have HQ6 := Lib.hid (HQW.out.trans (b6.mono HQW.out.size))
              have HS1 := Lib.hid (same_any w6 v12 v6 _ _ (H12r.out.below b6) (o6.slIn vtL_length))
              rw [show decide (ofV [] ids = ofV [] ids) = true from decide_eq_true rfl] at HS1
              have H126 := Lib.hid (H12r.out.below b6)
              have SC6 := Lib.hid (SCr.out.below b6)
              have HN6 := Lib.hid (HN.out.below b6)
              clear o6 b6 HOF H12r SCr HN
              go_wp2_with fail
              refine HS1.out.mono ?_
              rintro e w7 ⟨rfl, b7⟩
              have HQ7 := Lib.hid (HQ6.out.trans (b7.mono HQ6.out.size))
              have H127 := Lib.hid (H126.out.below b7)
              have SC7 := Lib.hid (SC6.out.below b7)
              have HN7 := Lib.hid (HN6.out.below b7)
              have HS2 := Lib.hid (same_any w7 vC v12 _ _ SC7.out H127.out)
              rw [show decide (ofV [] ids = ofV [] ids) = true from decide_eq_true rfl] at HS2
              clear b7 HS1 H126 SC6 HN6
              go_wp2_with fail
              refine HS2.out.mono ?_
              rintro e w8 ⟨rfl, b8⟩
              have HQ8 := Lib.hid (HQ7.out.trans (b8.mono HQ7.out.size))
              have H128 := Lib.hid (H127.out.below b8)
              have HN8 := Lib.hid (HN7.out.below b8)
              have HS3 := Lib.hid (same_any w8 u16 v12 _ _ HN8.out H128.out)
              rw [show decide (ofV [] ids = ofV [] ids) = true from decide_eq_true rfl] at HS3
              clear b8 HS2 H127 SC7 HN7
              go_wp2_with fail
              refine HS3.out.mono ?_
              rintro e w9 ⟨rfl, b9⟩
              have HQ9 := Lib.hid (HQ8.out.trans (b9.mono HQ8.out.size))
              have H129 := Lib.hid (H128.out.below b9)
              have HCK := Lib.hid (check_any w9 v12 _ H129.out)
              rw [hbe] at HCK
              clear b9 HS3 H128 HN8
              go_wp2_with fail
              refine HCK.out.mono ?_
              rintro e w10 ⟨rfl, b10⟩
              have HQ10 := Lib.hid (HQ9.out.trans (b10.mono HQ9.out.size))
              have HTT := Lib.hid (total_any w10 v12 _ (H129.out.below b10))
              rw [hto] at HTT
              clear b10 HCK H129
              go_wp2_with fail
              refine HTT.out.mono ?_
              rintro e w11 ⟨rfl, b11⟩
              have HQ11 := Lib.hid (HQ10.out.trans (b11.mono HQ10.out.size))
              clear b11 HTT
              go_wp2
              go_ret
              exact ⟨rfl, HQ11.out⟩
    · have d1 : decide ((60 : Int) < (ids.length : Int)) = false := by simp; omega
      have d2 : decide ((200 : Int) < (us.length : Int)) = true := by simp; omega
      go_enter Try.func6, Try.ntmps6
      go_wp2_with fail
      refine (HL _).out.mono ?_
      rintro e w1 ⟨rfl, b1'⟩
      have B1 := Lib.hid b1'
      clear b1'
      go_wp2_with fail
      refine (HL _).out.mono ?_
      rintro e w5 ⟨rfl, b5⟩
      have B5 := Lib.hid (B1.out.trans (b5.mono B1.out.size))
      clear b5
      go_wp2
      go_ret
      exact ⟨rfl, B5.out⟩
  · have d1 : decide ((60 : Int) < (ids.length : Int)) = true := by simp; omega
    go_enter Try.func6, Try.ntmps6
    go_wp2_with fail
    refine (HL _).out.mono ?_
    rintro e w1 ⟨rfl, b1'⟩
    have B1 := Lib.hid b1'
    clear b1'
    go_wp2_with fail
    refine (HL _).out.mono ?_
    rintro e w5 ⟨rfl, b5⟩
    have B5 := Lib.hid (B1.out.trans (b5.mono B1.out.size))
    clear b5
    go_wp2
    go_ret
    exact ⟨rfl, B5.out⟩
end Go.Proofs.Ytkjaabajomigkaa
