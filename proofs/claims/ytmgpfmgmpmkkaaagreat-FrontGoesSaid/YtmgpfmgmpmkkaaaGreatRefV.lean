import Derived.Test.YtmgpfmgmpmkkaaaGreatMayE
import Derived.Test.YtmgpfmgmpmkkaaaGreatOwn
import Derived.Laws.RangeString
import Derived.Laws.RangeAny
import Derived.LoopTactic
import Derived.BigQuiet
import Derived.StillTailTactics
namespace Go.Proofs.YtmgpfmgmpmkkaaaGreat
open Go.RowKit

set_option maxHeartbeats 400000 in
theorem letterB (c : Int) (w : World) : Calls Tryz.prog 110 #[.int .i32 c] w fun e w' => e = .returned (.bool (isLetter c)) ∧ w = w' := by
  go_enter Tryz.func110, Tryz.ntmps110
  go_wp2
  all_goals (go_ret; refine ⟨ret_bool ?_, rfl⟩; unfold isLetter; rw [Bool.eq_iff_iff]; simp_all <;> omega)
set_option maxHeartbeats 400000 in
theorem runes_any (s : ByteArray) (hs : s.size ≤ 4611686018427387904) (w : World) : Calls Tryz.prog 109 #[.string s] w fun e w' => e = .returned (.int .i64 (runesOf s).length) ∧ Below w.heap.size w w' := by
  have hL := rns_len s s.size 0
  go_enter Tryz.func109, Tryz.ntmps109
  go_wp2
  go_loopw [3] (fun v w' => ∃ pos b k : Nat, w' = w.iter s pos ∧ v = .int .i64 k ∧ s.size ≤ pos + b ∧ k + (rns s b pos).length = (runesOf s).length) (fun _ w' => s.size - w'.iterPos w.heap.size)
  case atStart => exact ⟨0, s.size, 0, rfl, rfl, by omega, by simp [runesOf]⟩
  case round =>
    obtain ⟨pos, b, k, rfl, rfl, hb, hc⟩ := hrel
    have HC := Lib.hid hc
    have HL := Lib.hid hL
    clear hc hL
    by_cases hp : pos < s.size
    · have hnx : ∀ ty, (Instr.next (.pointer (some ⟨w.heap.size, 0, none⟩)) true ty).run Tryz.prog (w.iter s pos) = _ := fun ty => run_next_any w s pos ty hp
      go_wp2
      have hwd := width_pos s pos hp
      obtain ⟨b', e1, e2⟩ := rns_one s b pos hp hb
      have hc := HC.out
      have hl := HL.out
      rw [e1] at hc
      simp only [List.length_cons] at hc
      change (runesOf s).length ≤ _ at hl
      go_roundw
      case rel =>
        refine ⟨_, b', k + 1, rfl, ?_, e2, by omega⟩
        have hk4 : k < 4611686018427387904 := by omega
        clear hc hl
        congr 1
        unfold wrap64
        omega
      case measure => simp; omega
    · have hnx : ∀ ty, (Instr.next (.pointer (some ⟨w.heap.size, 0, none⟩)) true ty).run Tryz.prog (w.iter s pos) = _ := fun ty => run_next_end w s pos ty hp
      have hk : k = (runesOf s).length := by have := HC.out; rw [rns_end s b pos hp] at this; simpa using this
      subst hk
      go_wp2
      go_ret
      exact ⟨rfl, below_iter w s pos⟩
set_option maxHeartbeats 400000 in
theorem nameB (s : ByteArray) (hs : s.size ≤ 4611686018427387904) (w : World) : Calls Tryz.prog 74 #[.string s] w fun e w' => e = .returned (.int .i64 (nameE s)) ∧ Below w.heap.size w w' := by
  have HRU := Lib.hid (runes_any s hs w)
  by_cases hn : 1 ≤ (runesOf s).length ∧ (runesOf s).length ≤ 16
  · have d1 : decide (((runesOf s).length : Int) < 1) = false := by simp; omega
    have d2 : decide ((16 : Int) < ((runesOf s).length : Int)) = false := by simp; omega
    go_enter Tryz.func74, Tryz.ntmps74
    go_wp2_with fail
    refine HRU.out.mono ?_
    rintro e w1 ⟨rfl, b1⟩
    have B1 := Lib.hid b1
    clear b1
    go_wp2
    go_loopw [] (fun w' => ∃ pos b : Nat, w' = w1.iter s pos ∧ s.size ≤ pos + b ∧ (rns s b pos).all isLetter = (runesOf s).all isLetter) (fun w' => s.size - w'.iterPos w1.heap.size)
    case atStart => exact ⟨0, s.size, rfl, by omega, by simp [runesOf]⟩
    case round =>
      obtain ⟨pos, b, rfl, hb, ha⟩ := hrel
      have HA := Lib.hid ha
      clear ha
      by_cases hp : pos < s.size
      · have hnx : ∀ ty, (Instr.next (.pointer (some ⟨w1.heap.size, 0, none⟩)) true ty).run Tryz.prog (w1.iter s pos) = _ := fun ty => run_next_any w1 s pos ty hp
        have hwd := width_pos s pos hp
        obtain ⟨b', e1, e2⟩ := rns_one s b pos hp hb
        have ha := HA.out
        rw [e1] at ha
        simp only [List.all_cons] at ha
        generalize hR : (Utf8.decode s pos).1 = R at *
        generalize hW : (Utf8.decode s pos).2 = K at *
        have HA2 := Lib.hid ha
        clear ha e1 HA
        have HLT := Lib.hid (letterB (R : Int) (w1.iter s (pos + K)))
        by_cases hl : isLetter (R : Int) = true
        · rw [hl] at HLT
          have hl2 := Lib.hid hl
          clear hl
          go_wp2_with fail
          refine HLT.out.mono ?_
          rintro e w2 ⟨rfl, rfl⟩
          go_wp2
          go_roundw
          case rel =>
            have ha := HA2.out
            rw [hl2.out, Bool.true_and] at ha
            exact ⟨pos + K, b', rfl, e2, ha⟩
          case measure => simp; omega
        · simp only [Bool.not_eq_true] at hl
          rw [hl] at HLT
          have hn : nameE s = 50 := by
            have := HA2.out
            rw [hl, Bool.false_and] at this
            unfold nameE
            rw [if_neg]
            rintro ⟨_, _, h⟩
            rw [h] at this
            cases this
          clear hl
          go_wp2_with fail
          refine HLT.out.mono ?_
          rintro e w2 ⟨rfl, rfl⟩
          go_wp2
          go_ret
          exact ⟨by first | rfl | (rw [hn]; rfl), B1.out.trans ((below_iter w1 s _).mono B1.out.size)⟩
      · have hnx : ∀ ty, (Instr.next (.pointer (some ⟨w1.heap.size, 0, none⟩)) true ty).run Tryz.prog (w1.iter s pos) = _ := fun ty => run_next_end w1 s pos ty hp
        have ha := HA.out
        rw [rns_end s b pos hp] at ha
        simp only [List.all_nil] at ha
        have hn : nameE s = 0 := by unfold nameE; rw [if_pos ⟨by omega, by omega, ha.symm⟩]
        clear ha
        go_wp2
        go_ret
        exact ⟨by first | rfl | (rw [hn]; rfl), B1.out.trans ((below_iter w1 s _).mono B1.out.size)⟩
  · have hn2 : nameE s = 50 := by unfold nameE; rw [if_neg]; omega
    by_cases h1 : ((runesOf s).length : Int) < 1
    · clear hn
      go_enter Tryz.func74, Tryz.ntmps74
      go_wp2_with fail
      refine HRU.out.mono ?_
      rintro e w1 ⟨rfl, b1⟩
      go_wp2
      go_ret
      exact ⟨by first | rfl | (rw [hn2]; rfl), b1⟩
    · have h2 : (16 : Int) < ((runesOf s).length : Int) := by omega
      clear hn
      go_enter Tryz.func74, Tryz.ntmps74
      go_wp2_with fail
      refine HRU.out.mono ?_
      rintro e w1 ⟨rfl, b1⟩
      go_wp2
      go_ret
      exact ⟨by first | rfl | (rw [hn2]; rfl), b1⟩
set_option maxRecDepth 100000 in
set_option maxHeartbeats 400000 in
theorem findB (w : World) (v : Value) (l : List Vd) (nm : ByteArray) (h : SlIn w v 2 vdL l) : Calls Tryz.prog 75 #[v, .string nm] w fun e w' => e = .returned (.int .i64 (findI l nm)) ∧ w = w' := by
  obtain ⟨oa, cap, rfl, g1, g2, g3⟩ := h
  unfold maxLen at g2
  have H3 := Lib.hid g3
  clear g3
  go_enter Tryz.func75, Tryz.ntmps75
  go_wp2
  go_loopw [5] (fun v5 wr => ∃ k : Nat, k ≤ l.length ∧ v5 = .int .i64 k ∧ w = wr ∧ Hid (findF nm (l.drop k) k = findI l nm)) (fun i _ => l.length - (intOf i).toNat)
  case atStart => exact ⟨0, Nat.zero_le _, rfl, rfl, Lib.hid rfl⟩
  case round =>
    obtain ⟨k, hk, rfl, rfl, HF⟩ := hrel
    by_cases hlt : k < l.length
    · obtain ⟨b, off, hoa, hbb, hrow⟩ := H3.out (by omega)
      subst hoa
      have hs1 := hrow k hlt
      have hF := HF.out
      rw [List.drop_eq_getElem_cons hlt] at hF
      generalize l[k] = x at *
      obtain ⟨xn, xw⟩ := x
      have c0 : w.cell? ⟨b, off + k * 2, none⟩ = some (.string xn) := by have := subOf_cell hs1 (j := 0) (by decide); simpa using this
      clear hs1 hrow
      rw [findF_cons] at hF
      by_cases he : (xn.toList == nm.toList) = true
      · rw [if_pos he] at hF
        have HG := Lib.hid hF
        clear hF
        go_wp2
        go_ret
        exact ⟨ret_int HG.out, rfl⟩
      · rw [if_neg he] at hF
        simp only [Bool.not_eq_true] at he
        have HG := Lib.hid hF
        clear hF HF
        go_wp2
        go_roundw
        case rel => exact ⟨k + 1, by omega, by go_num, by first | rfl | trivial, HG⟩
        case measure => simp [intOf]; omega
    · have hF := HF.out
      rw [List.drop_eq_nil_of_le (by omega)] at hF
      have HG := Lib.hid hF
      clear hF HF
      go_wp2
      go_ret
      exact ⟨ret_int HG.out, rfl⟩
set_option maxRecDepth 100000 in
set_option maxHeartbeats 1000000 in
/-- flurryref05.Check -/
theorem checkB (w : World) (v : Value) (l : List Vd) (h : SlIn w v 2 vdL l) (hN : ∀ x ∈ l, x.name.size ≤ 300) : Calls Tryz.prog 50 #[v] w fun e w' => e = .returned (.int .i64 (chk l)) ∧ Below w.heap.size w w' := by
  have HS := Lib.hid h
  have HNN := Lib.hid hN
  obtain ⟨oa, cap, rfl, g1, g2, g3⟩ := h
  unfold maxLen at g2
  have H3 := Lib.hid g3
  clear g3 hN
  by_cases hl : l.length < 1 ∨ 32 < l.length
  · have hc : chk l = 3 := by unfold chk; rw [if_pos hl]
    rw [hc]
    have hl' : (l.length : Int) < 1 ∨ (32 : Int) < (l.length : Int) := by omega
    clear hl hc H3 HS
    rcases hl' with hl' | hl'
    · go_enter Tryz.func50, Tryz.ntmps50
      go_wp2
      go_ret
      exact ⟨rfl, Below.refl _ _⟩
    · have hl2 : ¬ (l.length : Int) < 1 := by omega
      go_enter Tryz.func50, Tryz.ntmps50
      go_wp2
      go_ret
      exact ⟨rfl, Below.refl _ _⟩
  · have hl1 : ¬ (l.length : Int) < 1 := by omega
    have hl2 : ¬ (32 : Int) < (l.length : Int) := by omega
    have hc : chk l = if namesF l l 0 = true then (if wtsF 4611686018427387903 l = true then 0 else 51) else 50 := by unfold chk; rw [if_neg hl]
    have HC := Lib.hid hc
    clear hc hl
    go_enter Tryz.func50, Tryz.ntmps50
    go_wp2
    go_loopw [3] (fun v18 wr => ∃ k : Nat, k ≤ l.length ∧ v18 = .int .i64 k ∧ Hid (Below w.heap.size w wr) ∧ Hid (namesF l (l.drop k) k = namesF l l 0)) (fun i _ => l.length - (intOf i).toNat)
    case atStart => exact ⟨0, Nat.zero_le _, rfl, Lib.hid (Below.refl _ _), Lib.hid rfl⟩
    case round =>
      obtain ⟨k, hk, rfl, HB, HF⟩ := hrel
      by_cases hlt : k < l.length
      · obtain ⟨b, off, hoa, hbb, hrow⟩ := H3.out (by omega)
        subst hoa
        have hs1 := hrow k hlt
        rw [← obj_below HB.out hbb] at hs1
        have hbl : b < wr.heap.size := Nat.lt_of_lt_of_le hbb HB.out.size
        have hF := HF.out
        have hsz := HNN.out l[k] (List.getElem_mem hlt)
        rw [List.drop_eq_getElem_cons hlt] at hF
        generalize l[k] = x at *
        obtain ⟨xn, xw⟩ := x
        simp only [vdL] at hs1
        clear hrow
        rw [namesF_cons] at hF
        have c0 : wr.cell? ⟨b, off + k * 2, none⟩ = some (.string xn) := by have := subOf_cell hs1 (j := 0) (by decide); simpa using this
        have HN1 := Lib.hid (nameB xn (by simp only at hsz; omega) wr)
        rcases nameE_cases xn with hn | hn
        · rw [hn] at HN1
          clear hs1
          go_wp2_with fail
          refine HN1.out.mono ?_
          rintro e wb ⟨rfl, bb⟩
          have cb : wb.cell? ⟨b, off + k * 2, none⟩ = some (.string xn) := (World.cell?_of_block (w := wr) (a := ⟨b, off + k * 2, none⟩) (obj_below bb hbl)).trans c0
          have HB2 := Lib.hid (HB.out.trans (bb.mono HB.out.size))
          have HFI := Lib.hid (findB wb _ l xn (HS.out.below HB2.out))
          clear bb HN1
          by_cases hf : findI l xn = k
          · rw [if_pos ⟨hn, hf⟩] at hF
            rw [hf] at HFI
            have HG := Lib.hid hF
            clear hF HF hn hf
            go_wp2_with fail
            refine HFI.out.mono ?_
            rintro e wc ⟨rfl, rfl⟩
            go_wp2
            go_roundw
            case rel => exact ⟨k + 1, by omega, by go_num, HB2, HG⟩
            case measure => simp [intOf]; omega
          · rw [if_neg (fun h => hf h.2)] at hF
            have hc := Lib.hid (show chk l = 50 by rw [HC.out, if_neg (by rw [← hF]; simp)])
            have hf2 : (findI l xn == (k : Int)) = false := by simpa using hf
            generalize findI l xn = fi at *
            clear hF HF hn hf
            go_wp2_with fail
            refine HFI.out.mono ?_
            rintro e wc ⟨rfl, rfl⟩
            go_wp2
            go_ret
            exact ⟨ret_int hc.out.symm, HB2.out⟩
        · rw [hn] at HN1
          rw [if_neg (fun h => by rw [hn] at h; cases h.1)] at hF
          have hc := Lib.hid (show chk l = 50 by rw [HC.out, if_neg (by rw [← hF]; simp)])
          clear hF HF hn
          go_wp2_with fail
          refine HN1.out.mono ?_
          rintro e wb ⟨rfl, bb⟩
          have HB2 := Lib.hid (HB.out.trans (bb.mono HB.out.size))
          clear bb HN1
          go_wp2
          go_ret
          exact ⟨ret_int hc.out.symm, HB2.out⟩
      · have hF := HF.out
        rw [List.drop_eq_nil_of_le (by omega)] at hF
        have hc : chk l = if wtsF 4611686018427387903 l = true then 0 else 51 := by rw [HC.out, if_pos (by rw [← hF]; rfl)]
        have HC2 := Lib.hid hc
        have HB1 := Lib.hid HB.out
        clear hF HF hc HC HB
        go_wp2
        generalize wr = w1 at *
        go_loopw [4, 5] (fun v5 v38 wr => ∃ (k : Nat) (left : Int), k ≤ l.length ∧ v38 = .int .i64 k ∧ v5 = .int .i64 left ∧ 0 ≤ left ∧ left ≤ 4611686018427387903 ∧ w1 = wr ∧ Hid (wtsF left (l.drop k) = wtsF 4611686018427387903 l)) (fun _ i _ => l.length - (intOf i).toNat)
        case atStart => exact ⟨0, 4611686018427387903, Nat.zero_le _, rfl, rfl, by decide, Int.le_refl _, rfl, Lib.hid rfl⟩
        case round =>
          obtain ⟨k, left, hk, rfl, rfl, hl0, hlm, rfl, HF⟩ := hrel
          by_cases hlt : k < l.length
          · obtain ⟨b, off, hoa, hbb, hrow⟩ := H3.out (by omega)
            subst hoa
            have hs1 := hrow k hlt
            rw [← obj_below HB1.out hbb] at hs1
            have hF := HF.out
            rw [List.drop_eq_getElem_cons hlt] at hF
            generalize l[k] = x at *
            obtain ⟨xn, xw⟩ := x
            simp only [vdL] at hs1
            clear hrow
            rw [wtsF_cons] at hF
            have c1 : w1.cell? ⟨b, off + k * 2 + 1, none⟩ = some (.int .i64 xw) := by have := subOf_cell hs1 (j := 1) (by decide); simpa using this
            clear hs1
            by_cases hb1 : xw < 1
            · rw [if_pos (.inl hb1)] at hF
              have hc := Lib.hid (show chk l = 51 by rw [HC2.out, if_neg (by rw [← hF]; simp)])
              clear hF HF
              go_wp2
              go_ret
              exact ⟨ret_int hc.out.symm, HB1.out⟩
            · by_cases hb2 : left < xw
              · rw [if_pos (.inr hb2)] at hF
                have hc := Lib.hid (show chk l = 51 by rw [HC2.out, if_neg (by rw [← hF]; simp)])
                clear hF HF
                go_wp2
                go_ret
                exact ⟨ret_int hc.out.symm, HB1.out⟩
              · rw [if_neg (fun h => h.elim hb1 hb2)] at hF
                have HG := Lib.hid hF
                clear hF HF
                go_wp2
                go_roundw
                case rel => exact ⟨k + 1, left - xw, by omega, by go_num, by go_num, by omega, by omega, by first | rfl | trivial, HG⟩
                case measure => simp [intOf]; omega
          · have hF := HF.out
            rw [List.drop_eq_nil_of_le (by omega)] at hF
            have hc := Lib.hid (show chk l = 0 by rw [HC2.out, if_pos (by rw [← hF]; rfl)])
            clear hF HF
            go_wp2
            go_ret
            exact ⟨ret_int hc.out.symm, HB1.out⟩

set_option maxRecDepth 100000 in
set_option maxHeartbeats 1000000 in
/-- flurryref07.Less -/
theorem lessR_any (w : World) (a b : ID) : Calls Tryz.prog 69 #[.agg (idL a).toArray, .agg (idL b).toArray] w fun e w' => e = .returned (.bool (ltI a b)) ∧ Below w.heap.size w w' := by
  have o1 : obj ((w.alloc (.cells (idL a).toArray 32)).alloc (.cells (idL b).toArray 32)) w.heap.size = some (.cells (idL a).toArray 32 (0, 0)) := (obj_alloc_past _ _ _ (by simp)).trans (obj_alloc_at _ _ _ rfl)
  have o2 : obj ((w.alloc (.cells (idL a).toArray 32)).alloc (.cells (idL b).toArray 32)) (w.heap.size + 1) = some (.cells (idL b).toArray 32 (0, 0)) := obj_alloc_at _ _ _ (by simp)
  have hb : Below w.heap.size w ((w.alloc (.cells (idL a).toArray 32)).alloc (.cells (idL b).toArray 32)) := ((Below.refl _ w).alloc (Nat.le_refl _) _).alloc (by simp) _
  go_enter Tryz.func69, Tryz.ntmps69
  go_wp2
  generalize (w.alloc (.cells (idL a).toArray 32)).alloc (.cells (idL b).toArray 32) = w2 at *
  have O1 := Lib.hid o1
  have O2 := Lib.hid o2
  have B2 := Lib.hid hb
  clear o1 o2 hb
  go_loopw [5] (fun v5 wr => ∃ k : Nat, k ≤ 32 ∧ v5 = .int .i64 k ∧ Hid (ltL (a.l.drop k) (b.l.drop k) = ltI a b) ∧ Hid (∃ n, wr = w2.drewN n)) (fun i _ => 32 - (intOf i).toNat)
  case atStart => exact ⟨0, Nat.zero_le _, rfl, Lib.hid rfl, Lib.hid ⟨0, rfl⟩⟩
  case round =>
    obtain ⟨k, hk, rfl, HF, HW⟩ := hrel
    obtain ⟨n, hn⟩ := HW.out
    subst hn
    have hF := HF.out
    by_cases hlt : k < 32
    · have hka : k < a.l.length := by rw [a.h]; exact hlt
      have hkb : k < b.l.length := by rw [b.h]; exact hlt
      rw [List.drop_eq_getElem_cons hka, List.drop_eq_getElem_cons hkb] at hF
      have c1 : w2.cell? ⟨w.heap.size, k, none⟩ = some (.int .u8 (a.l[k].toNat : Int)) := by rw [cell_at O1.out, List.getElem?_toArray, idL_get a hlt]
      have c2 : w2.cell? ⟨w.heap.size + 1, k, none⟩ = some (.int .u8 (b.l[k].toNat : Int)) := by rw [cell_at O2.out, List.getElem?_toArray, idL_get b hlt]
      have hk32 : (k : Int) < 32 := by omega
      generalize a.l[k] = x at *
      generalize b.l[k] = y at *
      by_cases hxy : x = y
      · subst hxy
        have hc : ltL (x :: a.l.drop (k + 1)) (x :: b.l.drop (k + 1)) = ltL (a.l.drop (k + 1)) (b.l.drop (k + 1)) := if_pos rfl
        rw [hc] at hF
        have HG := Lib.hid hF
        clear hF HF hc hka hkb
        go_wp2
        go_quiet (fail)
        go_wp2
        go_roundw
        case rel => exact ⟨k + 1, by omega, by go_num, HG, Lib.hid ⟨_, rfl⟩⟩
        case measure => simp [intOf]; omega
      · have hc : ltL (x :: a.l.drop (k + 1)) (y :: b.l.drop (k + 1)) = decide (x < y) := if_neg hxy
        rw [hc] at hF
        have hne : ((x.toNat : Int) == (y.toNat : Int)) = false := by
          simp only [beq_eq_false_iff_ne, ne_eq]
          exact fun h => hxy (u8_toNat_inj h)
        have hlt' : decide ((x.toNat : Int) < (y.toNat : Int)) = decide (x < y) := by
          rw [Bool.eq_iff_iff]
          simp only [decide_eq_true_eq]
          rw [UInt8.lt_iff_toNat_lt]
          omega
        have HG := Lib.hid (hlt'.trans hF)
        clear hF HF hc hka hkb hlt'
        go_wp2
        go_quiet (fail)
        go_wp2
        go_quiet (fail)
        go_wp2
        go_ret
        exact ⟨ret_bool (by have := HG.out; simpa using this), below_drewN (below_drewN (below_drewN B2.out _) _) _⟩
    · have hk' : k = 32 := by omega
      subst hk'
      have h1 : a.l.drop 32 = [] := List.drop_eq_nil_of_le (by rw [a.h]; exact Nat.le_refl _)
      rw [h1] at hF
      have HG := Lib.hid (show false = ltI a b by rw [← hF]; rfl)
      clear hF HF
      go_wp2
      go_ret
      exact ⟨ret_bool HG.out, below_drewN B2.out _⟩
end Go.Proofs.YtmgpfmgmpmkkaaaGreat
