import Derived.Test.YtmenfbfekfljbaaTold
import Derived.Test.YtmenfbfekfljbaaOrder
namespace Go.Proofs.Ytmenfbfekfljbaa
open Go.RowKit

theorem parM_isSome (xs : List FactD) (a : ID) : (parM xs a).isSome = decide (a ∈ blkIds xs) := by
  rw [Bool.eq_iff_iff, decide_eq_true_iff, mem_blkIds]
  unfold parM
  rw [Option.isSome_map, List.find?_isSome]
  simp
/-- has any of the pairs so far clashed -/
def clRow (xs : List FactD) (i k : Nat) : Bool := (List.range k).any fun k' => clashR xs (xs[i]!) (xs[k']!)
def clAll (xs : List FactD) (i : Nat) : Bool := (List.range i).any fun i' => clRow xs i' i'
theorem clRow_succ {xs : List FactD} {i k : Nat} (hi : i < xs.length) (hk : k < xs.length) : clRow xs i (k + 1) = (clRow xs i k || clashR xs xs[i] xs[k]) := by
  unfold clRow
  rw [List.range_succ, List.any_append, getElem!_pos xs i hi]
  simp only [List.any_cons, List.any_nil, Bool.or_false, getElem!_pos xs k hk]
theorem clAll_succ (xs : List FactD) (i : Nat) : clAll xs (i + 1) = (clAll xs i || clRow xs i i) := by
  unfold clAll
  rw [List.range_succ, List.any_append]
  simp
theorem agreeR_cl (xs : List FactD) : agreeR xs = !clAll xs xs.length := by
  unfold agreeR clAll clRow
  simp only [List.not_any_eq_all_not]
theorem clashR_eq (xs : List FactD) (x y : FactD) : clashR xs x y = (x.kind == 8 && y.kind == 8 && decide (x.id ∈ blkIds xs) && decide (y.id ∈ blkIds xs) && !underM xs x.id y.id && !underM xs y.id x.id) := by
  unfold clashR conflictR
  rw [parM_isSome, parM_isSome]
  cases x.kind == 8 <;> cases y.kind == 8 <;> simp [Bool.and_assoc]

set_option maxRecDepth 100000 in
set_option maxHeartbeats 4000000 in
theorem one_any (w : World) (v : Value) (xs : List FactD) (h : SlIn w v 72 factL xs) (hw1 : ∀ x ∈ xs, x.slots.len ≤ maxLen ∧ x.votes.len ≤ maxLen) :
    Calls Try.prog 6 #[v] w fun e w' => e = .returned (.bool true) ∧ Below w.heap.size w w' := by
  have HF := Lib.hid fun W (hW : Below w.heap.size w W) => few_zero W v xs (h.below hW) hw1
  have HL := Lib.hid fun (hh : fewB xs PlanD.zero [] = true) => few_len hh
  have HS := Lib.hid h
  obtain ⟨oa, cap, rfl⟩ := h.len
  clear h hw1
  generalize fewB xs PlanD.zero [] = fw at *
  go_enter Try.func6, Try.ntmps6
  go_wp2_with fail
  refine (begun_any _).mono ?_
  rintro e w1 ⟨rfl, h1⟩
  go_wp2_with fail
  refine (HF.out _ h1).mono ?_
  rintro e w2 ⟨rfl, h2⟩
  replace h2 := h1.trans (h2.mono h1.size)
  clear h1
  cases fw
  · go_wp2_with fail
    refine (begun_any _).mono ?_
    rintro e w3 ⟨rfl, h3⟩
    replace h3 := h2.trans (h3.mono h2.size)
    go_wp2
    go_ret
    exact ⟨rfl, h3⟩
  · have hl : xs.length ≤ 1000 := by have := HL.out (by first | rfl | trivial); omega
    clear HF HL
    go_wp2_with fail
    refine (blocks_any _ _ xs (HS.out.below h2) hl).mono ?_
    rintro e w3 ⟨ib, ub, m, vb, rfl, hB, h3⟩
    have B3 := h2.trans (h3.mono h2.size)
    clear h2 h3
    have hbl : (blkPairs xs).length ≤ 1000 := by simp only [blkPairs, List.length_map]; exact Nat.le_trans (blkIds_length xs) hl
    go_wp2_with fail
    refine (told_any w3 w3 ib ub m vb xs 1048576 hB (Below.refl _ _) hbl).mono ?_
    rintro e w4 ⟨v4, rfl, o4, h4⟩
    have B4 := B3.trans (h4.mono B3.size)
    rw [show (blkPairs xs).take (1048576 : Int).toNat = blkPairs xs from List.take_of_length_le (Nat.le_trans hbl (by decide))] at o4
    have s4 := o4.slIn pairL_length
    clear B3 h4 hB o4
    have hlp : (blkPairs xs).length = (blkIds xs).length := by simp [blkPairs]
    have HPK := Lib.hid (show ∀ k (h : k < (blkPairs xs).length) (g : k < (blkIds xs).length), ((blkPairs xs)[k]'h).1 = (blkIds xs)[k]'g from fun k h g => by simp [blkPairs])
    have SS4 := Lib.hid s4
    obtain ⟨o4, cap4, rfl, p1, p2, p3⟩ := s4
    unfold maxLen at p2
    have H4 := Lib.hid p3
    clear p3
    have HLP := Lib.hid hlp
    clear hlp
    have hz4 := B4.size
    generalize blkPairs xs = ps at *
    go_wp2_with fail
    go_loopw [3, 24] (fun v3 v24 wr => ∃ k : Nat, k ≤ ps.length ∧ v24 = .int .i64 k ∧ Hid (OwnS wr w4.heap.size 45 32 idL v3 ((blkIds xs).take k)) ∧ Below w4.heap.size w4 wr) (fun _ i _ => ps.length - (intOf i).toNat)
    case atStart => exact ⟨0, Nat.zero_le _, rfl, Lib.hid (OwnS.nil _ _ _ _ _), Below.refl _ _⟩
    case round =>
      obtain ⟨k, hk, rfl, HO, hb⟩ := hrel
      have hz := hb.size
      by_cases hlt : k < ps.length
      · obtain ⟨bb, off, hoa, hbb, hrow⟩ := H4.out (by omega)
        subst hoa
        have hsub := hrow k hlt
        rw [← obj_below hb hbb] at hsub
        have hbr : bb < wr.heap.size := by omega
        have HM1 := Lib.hid (show (blkIds xs).take (k + 1) = (blkIds xs).take k ++ [(ps[k]).1] from by rw [take_succ_get _ k (by rw [← HLP.out]; exact hlt), HPK.out k hlt (by rw [← HLP.out]; exact hlt)])
        have HLW := Lib.hid (show ((blkIds xs).take k).length ≤ k from List.length_take_le _ _)
        generalize ps[k] = x at *
        obtain ⟨xa, xb⟩ := x
        simp only at HM1
        clear hrow HPK
        generalize (blkIds xs).take k = ids at *
        have b3 := hb.alloc hz (.cells (pairL (xa, xb)).toArray 59)
        have f3 : obj (wr.alloc (.cells (pairL (xa, xb)).toArray 59)) wr.heap.size = some (.cells (pairL (xa, xb)).toArray 59 (0, 0)) := obj_alloc_at _ _ _ rfl
        have hp3 : subA (pairL (xa, xb)).toArray 0 32 = (idL xa).toArray := pairL_fst _
        have OW5 := Lib.hid (HO.out.alloc (.cells (pairL (xa, xb)).toArray 59))
        have hsv : ∃ oa cp, u3 = .slice oa ids.length cp := by
          obtain ⟨oa, cp, e, _⟩ := HO.out.slIn idL_length
          exact ⟨oa, cp, e⟩
        obtain ⟨oa7, cp7, rfl⟩ := hsv
        go_wp2_with (at_builtin; refine push45 rfl _ _ rfl w4.heap.size _ ids xa rfl (OW5.out.alloc _) (wr.heap.size + 1) rfl (obj_alloc_at _ _ _ (by simp)) (by have := HLW.out; omega) (by simp; omega) ?_; intro v' w7 hown7 hb7 hk7; obtain ⟨g7, cap7, rfl⟩ := hown7.snoc'; have OW7 := Lib.hid hown7; clear hown7)
        go_roundw
        case rel => exact ⟨k + 1, by omega, by go_num, Lib.hid (by rw [HM1.out]; exact OW7.out), (b3.alloc b3.size _).trans hb7⟩
        case measure => simp [intOf]; omega
      · have hk' : k = ps.length := by omega
        subst hk'
        rw [HLP.out, List.take_length] at HO
        have HOS := Lib.hid (HO.out.slIn idL_length)
        clear hk hlt HPK SS4 H4 HO HLP p1 p2 hbl
        have HB5 := Lib.hid (B4.trans (hb.mono hz4))
        have hz5 := HB5.out.size
        clear hb
        have HCE := Lib.hid fun x y => clashR_eq xs x y
        generalize blkIds xs = ids at *
        obtain ⟨w5, rfl⟩ : ∃ w5 : World, w5 = wr := ⟨_, rfl⟩
        go_wp2_with fail
        go_loopw [6, 36] (fun v6 v36 wr => ∃ i : Nat, i ≤ xs.length ∧ v36 = .int .i64 i ∧ v6 = .bool (clAll xs i) ∧ Below w5.heap.size w5 wr) (fun _ i _ => xs.length - (intOf i).toNat)
        case atStart => exact ⟨0, Nat.zero_le _, rfl, rfl, Below.refl _ _⟩
        case round =>
          obtain ⟨i, hi, rfl, rfl, hb⟩ := hrel
          have hzz := hb.size
          by_cases hlt : i < xs.length
          · obtain ⟨oa', cap', e', q1', q2', q3'⟩ := HS.out
            simp only [Value.slice.injEq] at e'
            obtain ⟨rfl, _, rfl⟩ := e'
            obtain ⟨bb, off, hoa, hbb, hrow⟩ := q3' (by omega)
            subst hoa
            unfold maxLen at q2'
            have HROW := Lib.hid hrow
            have hsub := hrow i hlt
            have hbw := HB5.out.trans (hb.mono hz5)
            rw [← obj_below hbw hbb] at hsub
            have hbr : bb < wr.heap.size := by omega
            have HM := Lib.hid (clAll_succ xs i)
            have HRS := Lib.hid fun k (hk : k < i) => clRow_succ (k := k) hlt (by omega)
            have HR0 := Lib.hid (show clRow xs i 0 = false from rfl)
            clear hrow q3'
            generalize hx : xs[i] = x at *
            have b3 := hb.alloc hzz (.cells (factL x).toArray 54)
            have f3 : obj (wr.alloc (.cells (factL x).toArray 54)) wr.heap.size = some (.cells (factL x).toArray 54 (0, 0)) := obj_alloc_at _ _ _ rfl
            clear hx hbw
            generalize hA : clAll xs i = cA at *
            clear hA
            go_wp2_with fail
            generalize wr.alloc (.cells (factL x).toArray 54) = w6 at *
            generalize wr.heap.size = b8 at *
            have zf3 := lt_of_obj f3
            have F3 := Lib.hid f3
            have B6 := Lib.hid b3
            have hz6 := b3.size
            clear f3 b3 hb hsub hzz hbr
            go_loopw [6, 45] (fun v6 v45 wr => ∃ k : Nat, k ≤ i ∧ v45 = .int .i64 k ∧ v6 = .bool (cA || clRow xs i k) ∧ Below w6.heap.size w6 wr) (fun _ k _ => i - (intOf k).toNat)
            case atStart => exact ⟨0, Nat.zero_le _, rfl, by rw [HR0.out]; simp, Below.refl _ _⟩
            case round =>
              obtain ⟨k, hk, rfl, rfl, hb⟩ := hrel
              have hz7 := hb.size
              by_cases hkt : k < i
              · have NX := Lib.hid (HRS.out k hkt)
                have hsub := HROW.out k (by omega)
                have bw := HB5.out.trans (B6.out.mono hz5)
                have bw7 := bw.trans (hb.mono bw.size)
                have b57 := B6.out.trans (hb.mono B6.out.size)
                rw [← obj_below bw7 hbb] at hsub
                have hbr : bb < wr.heap.size := Nat.lt_of_lt_of_le hbb bw7.size
                have HC := Lib.hid (HCE.out x (xs[k]'(by omega)))
                generalize xs[k]'(by omega) = y at *
                generalize clashR xs x y = c at *
                generalize clRow xs i k = cR at *
                have f8 := (obj_below hb zf3).trans F3.out
                have zf8 := lt_of_obj f8
                have ck8 : wr.cell? ⟨b8, 1, none⟩ = some (.int .i64 x.kind) := (cell_at f8 1).trans (by simp [factL])
                have C27 := Lib.hid fun W (hW : Below w5.heap.size w5 W) a => contains_any W u3 ids a (HOS.out.below hW)
                have C17 := Lib.hid fun W (hW : Below w.heap.size w W) a b => judge_under_any W _ xs a b (HS.out.below hW) hl
                have g9 : obj (wr.alloc (.cells (factL y).toArray 54)) b8 = some (.cells (factL x).toArray 54 (0, 0)) := (obj_alloc_past _ _ _ zf8).trans f8
                have k9 : obj (wr.alloc (.cells (factL y).toArray 54)) wr.heap.size = some (.cells (factL y).toArray 54 (0, 0)) := obj_alloc_at _ _ _ rfl
                have b9 := hb.alloc hz7 (.cells (factL y).toArray 54)
                have bw9 := bw7.alloc bw7.size (.cells (factL y).toArray 54)
                have b59 := b57.alloc b57.size (.cells (factL y).toArray 54)
                have zg9 := lt_of_obj g9
                have zk9 := lt_of_obj k9
                cases hk1 : x.kind == 8
                · have hc : c = false := by rw [HC.out, hk1]; simp
                  subst hc
                  go_wp2
                  go_roundw
                  case rel => exact ⟨k + 1, by omega, by go_num, by rw [NX.out]; simp, b9⟩
                  case measure => simp [intOf]; omega
                · cases hk2 : y.kind == 8
                  · have hc : c = false := by rw [HC.out, hk2]; simp
                    subst hc
                    go_wp2
                    go_roundw
                    case rel => exact ⟨k + 1, by omega, by go_num, by rw [NX.out]; simp, b9⟩
                    case measure => simp [intOf]; omega
                  · have hc := HC.out
                    rw [hk1, hk2, Bool.true_and, Bool.true_and] at hc
                    have HC' := Lib.hid hc
                    clear HC hc
                    have D := Lib.hid (C27.out _ b59 x.id)
                    have D2 := Lib.hid fun W (hW : Below w5.heap.size w5 W) => C27.out _ hW y.id
                    have D3 := Lib.hid fun W (hW : Below w.heap.size w W) => C17.out _ hW x.id y.id
                    have D4 := Lib.hid fun W (hW : Below w.heap.size w W) => C17.out _ hW y.id x.id
                    generalize decide (x.id ∈ ids) = m1 at *
                    generalize decide (y.id ∈ ids) = m2 at *
                    generalize underM xs x.id y.id = u1 at *
                    generalize underM xs y.id x.id = u2 at *
                    clear C27 C17
                    go_wp2_with fail
                    generalize wr.alloc (.cells (factL y).toArray 54) = w9 at *
                    generalize wr.heap.size = b10 at *
                    refine D.out.mono ?_
                    rintro e w10 ⟨rfl, h10⟩
                    have b10' := b9.trans (h10.mono b9.size)
                    have bw10 := bw9.trans (h10.mono bw9.size)
                    have b510 := b59.trans (h10.mono b59.size)
                    have g10 := (obj_below h10 zg9).trans g9
                    have k10 := (obj_below h10 zk9).trans k9
                    have zg10 := lt_of_obj g10
                    have zk10 := lt_of_obj k10
                    clear D h10 g9 k9 zg9 zk9 b9 bw9 b59
                    cases m1
                    · have hc : c = false := by rw [HC'.out]; simp
                      subst hc
                      go_wp2
                      go_roundw
                      case rel => exact ⟨k + 1, by omega, by go_num, by rw [NX.out]; simp, b10'⟩
                      case measure => simp [intOf]; omega
                    · go_wp2_with fail
                      refine (D2.out _ b510).mono ?_
                      rintro e w11 ⟨rfl, h11⟩
                      have b11 := b10'.trans (h11.mono b10'.size)
                      have bw11 := bw10.trans (h11.mono bw10.size)
                      have g11 := (obj_below h11 zg10).trans g10
                      have k11 := (obj_below h11 zk10).trans k10
                      have zg11 := lt_of_obj g11
                      have zk11 := lt_of_obj k11
                      clear D2 h11 g10 k10 zg10 zk10 b10' bw10 b510
                      cases m2
                      · have hc : c = false := by rw [HC'.out]; simp
                        subst hc
                        go_wp2
                        go_roundw
                        case rel => exact ⟨k + 1, by omega, by go_num, by rw [NX.out]; simp, b11⟩
                        case measure => simp [intOf]; omega
                      · go_wp2_with fail
                        refine (D3.out _ bw11).mono ?_
                        rintro e w12 ⟨rfl, h12⟩
                        have b12 := b11.trans (h12.mono b11.size)
                        have bw12 := bw11.trans (h12.mono bw11.size)
                        have g12 := (obj_below h12 zg11).trans g11
                        have k12 := (obj_below h12 zk11).trans k11
                        have zg12 := lt_of_obj g12
                        have zk12 := lt_of_obj k12
                        clear D3 h12 g11 k11 zg11 zk11 b11 bw11
                        cases u1
                        · go_wp2_with fail
                          refine (D4.out _ bw12).mono ?_
                          rintro e w13 ⟨rfl, h13⟩
                          have b13 := b12.trans (h13.mono b12.size)
                          clear D4 h13 g12 k12 zg12 zk12 b12 bw12
                          cases u2
                          · have hc : c = true := by rw [HC'.out]; rfl
                            subst hc
                            go_wp2
                            go_roundw
                            case rel => exact ⟨k + 1, by omega, by go_num, by rw [NX.out]; simp, b13⟩
                            case measure => simp [intOf]; omega
                          · have hc : c = false := by rw [HC'.out]; rfl
                            subst hc
                            go_wp2
                            go_roundw
                            case rel => exact ⟨k + 1, by omega, by go_num, by rw [NX.out]; simp, b13⟩
                            case measure => simp [intOf]; omega
                        · have hc : c = false := by rw [HC'.out]; simp
                          subst hc
                          go_wp2
                          go_roundw
                          case rel => exact ⟨k + 1, by omega, by go_num, by rw [NX.out]; simp, b12⟩
                          case measure => simp [intOf]; omega
              · have hki : k = i := by omega
                subst hki
                go_wp2
                go_roundw
                case rel => exact ⟨k + 1, by omega, by go_num, by rw [HM.out], B6.out.trans (hb.mono B6.out.size)⟩
                case measure => simp [intOf]; omega
          · have hil : i = xs.length := by omega
            subst hil
            have bw := HB5.out.trans (hb.mono hz5)
            have HAG := Lib.hid (agree_any _ _ xs (HS.out.below bw) hl)
            rw [agreeR_cl] at HAG
            generalize clAll xs xs.length = r at *
            clear HCE hlt hi
            go_wp2_with fail
            refine HAG.out.mono ?_
            rintro e w6 ⟨rfl, h6⟩
            go_wp2
            go_ret
            exact ⟨ret_bool (by simp), bw.trans (h6.mono bw.size)⟩
end Go.Proofs.Ytmenfbfekfljbaa
