import Derived.Test.YtagpclgappcnbaaBeName
import Derived.Test.YtagpclgappcnbaaWide
namespace Go.Proofs.Ytagpclgappcnbaa.Be
open Go.RowKit

/-! ### validators: a name and a weight -/
structure Vd where
  name : ByteArray
  wt : Int
@[reducible] def vdL (a : Vd) : List Value := [.string a.name, .int .i64 a.wt]
@[reducible] def vdV (a : Vd) : Value := .agg #[.string a.name, .int .i64 a.wt]
theorem vdL_length (a : Vd) : (vdL a).length = 2 := rfl
theorem vdL_one (a : Vd) : allOne (vdL a).toArray = true := rfl
@[go_sem ↓] theorem hide_load65 (a : Addr) : loadVar 54 a = loadAgg 54 a := rfl
@[go_sem ↓] theorem hide_store65 (a : Addr) (v : Value) : storeVar 54 a v = storeAgg 54 a v := rfl
@[go_sem] theorem run_load65 (b off : Nat) (W : World) : (loadAgg 54 ⟨b, off, none⟩).run Try.prog W = loadRes Try.prog 54 ⟨b, off, none⟩ W (subOf (obj W b) off 2) := run_loadAgg Try.isAgg54 Try.sizeOf54 b off W
@[go_sem] theorem run_store65 (b off : Nat) (cs : Array Value) (W : World) : (storeAgg 54 ⟨b, off, none⟩ (.agg cs)).run Try.prog W = storeRes Try.prog 54 ⟨b, off, none⟩ (.agg cs) W (putOf (obj W b) off 2 cs) := run_storeAgg Try.sizeOf54 b off cs W
theorem b65 {B : Nat} {w : World} (W : World) (h : Below B w W) (hB : B ≤ W.heap.size) (o : Obj) : Below B w (W.alloc o) := h.alloc hB o

def findF (nm : ByteArray) : List Vd → Nat → Int
  | [], _ => -1
  | x :: r, i => if (x.name.toList == nm.toList) = true then i else findF nm r (i + 1)
def findI (l : List Vd) (nm : ByteArray) : Int := findF nm l 0
def namesF (l : List Vd) : List Vd → Nat → Bool
  | [], _ => true
  | x :: r, i => if nameE x.name = 0 ∧ findI l x.name = i then namesF l r (i + 1) else false
def wtsF : Int → List Vd → Bool
  | _, [] => true
  | left, x :: r => if x.wt < 1 ∨ left < x.wt then false else wtsF (left - x.wt) r
theorem findF_cons (nm : ByteArray) (x : Vd) (r : List Vd) (i : Nat) : findF nm (x :: r) i = if (x.name.toList == nm.toList) = true then (i : Int) else findF nm r (i + 1) := rfl
theorem namesF_cons (l : List Vd) (x : Vd) (r : List Vd) (i : Nat) : namesF l (x :: r) i = if nameE x.name = 0 ∧ findI l x.name = i then namesF l r (i + 1) else false := rfl
theorem wtsF_cons (left : Int) (x : Vd) (r : List Vd) : wtsF left (x :: r) = if x.wt < 1 ∨ left < x.wt then false else wtsF (left - x.wt) r := rfl
def chk (l : List Vd) : Int := if l.length < 1 ∨ 32 < l.length then 3 else if namesF l l 0 = true then (if wtsF 4611686018427387903 l = true then 0 else 51) else 50
theorem nameE_cases (s : ByteArray) : nameE s = 0 ∨ nameE s = 50 := by unfold nameE; split <;> simp
theorem chk_32 {l : List Vd} (h : chk l = 0) : 1 ≤ l.length ∧ l.length ≤ 32 ∧ namesF l l 0 = true ∧ wtsF 4611686018427387903 l = true := by
  unfold chk at h
  split at h
  · cases h
  · split at h
    · split at h
      · exact ⟨by omega, by omega, by assumption, by assumption⟩
      · cases h
    · cases h
theorem findF_bd (nm : ByteArray) : ∀ (r : List Vd) (i : Nat), -1 ≤ findF nm r i ∧ findF nm r i < ((i + r.length : Nat) : Int) + 1 := by
  intro r
  induction r with
  | nil => intro i; simp [findF]; omega
  | cons x r ih =>
    intro i
    unfold findF
    split
    · simp; omega
    · have := ih (i + 1); simp at this ⊢; omega

set_option maxRecDepth 100000 in
set_option maxHeartbeats 400000 in
theorem findB (w : World) (v : Value) (l : List Vd) (nm : ByteArray) (h : SlIn w v 2 vdL l) : Calls Try.prog 81 #[v, .string nm] w fun e w' => e = .returned (.int .i64 (findI l nm)) ∧ w = w' := by
  obtain ⟨oa, cap, rfl, g1, g2, g3⟩ := h
  unfold maxLen at g2
  have H3 := Lib.hid g3
  clear g3
  go_enter Try.func81, Try.ntmps81
  go_wp2
  go_loopw [5] (fun v5 wr => ∃ k : Nat, k ≤ l.length ∧ v5 = .int .i64 k ∧ w = wr ∧ Hid (findF nm (l.drop k) k = findI l nm)) (fun i _ => l.length - (intOf i).toNat)
  case atStart => exact ⟨0, Nat.zero_le _, rfl, rfl, Lib.hid rfl⟩
  case round =>
    obtain ⟨k, hk, rfl, rfl, HF⟩ := hrel
    by_cases hlt : k < l.length
    · obtain ⟨b, off, hoa, hbb, hrow⟩ := H3.out (by omega)
      subst hoa
      have hs1 := hrow k hlt
      have hF := HF.out
      rw [List.drop_eq_getElem_cons hlt] at hF
      generalize l[k] = x at *
      obtain ⟨xn, xw⟩ := x
      have c0 : w.cell? ⟨b, off + k * 2, none⟩ = some (.string xn) := by have := subOf_cell hs1 (j := 0) (by decide); simpa using this
      clear hs1 hrow
      rw [findF_cons] at hF
      by_cases he : (xn.toList == nm.toList) = true
      · rw [if_pos he] at hF
        have HG := Lib.hid hF
        clear hF
        go_wp2
        go_ret
        exact ⟨ret_int HG.out, rfl⟩
      · rw [if_neg he] at hF
        simp only [Bool.not_eq_true] at he
        have HG := Lib.hid hF
        clear hF HF
        go_wp2
        go_roundw
        case rel => exact ⟨k + 1, by omega, by go_num, by first | rfl | trivial, HG⟩
        case measure => simp [intOf]; omega
    · have hF := HF.out
      rw [List.drop_eq_nil_of_le (by omega)] at hF
      have HG := Lib.hid hF
      clear hF HF
      go_wp2
      go_ret
      exact ⟨ret_int HG.out, rfl⟩
set_option maxRecDepth 100000 in
set_option maxHeartbeats 400000 in
theorem findA (w : World) (v : Value) (l : List Vd) (nm : ByteArray) (h : SlIn w v 2 vdL l) : Calls Try.prog 59 #[v, .string nm] w fun e w' => e = .returned (.int .i64 (findI l nm)) ∧ Below w.heap.size w w' := by
  obtain ⟨oa, cap, rfl, g1, g2, g3⟩ := h
  unfold maxLen at g2
  have H3 := Lib.hid g3
  clear g3
  go_enter Try.func59, Try.ntmps59
  go_wp2
  go_loopw [9] (fun v9 wr => ∃ k : Nat, k ≤ l.length ∧ v9 = .int .i64 k ∧ Hid (Below w.heap.size w wr) ∧ Hid (findF nm (l.drop k) k = findI l nm)) (fun i _ => l.length - (intOf i).toNat)
  case atStart => exact ⟨0, Nat.zero_le _, rfl, Lib.hid (Below.refl _ _), Lib.hid rfl⟩
  case round =>
    obtain ⟨k, hk, rfl, HB, HF⟩ := hrel
    by_cases hlt : k < l.length
    · obtain ⟨b, off, hoa, hbb, hrow⟩ := H3.out (by omega)
      subst hoa
      have hs1 := hrow k hlt
      rw [← obj_below HB.out hbb] at hs1
      have hbl : b < wr.heap.size := Nat.lt_of_lt_of_le hbb HB.out.size
      have hF := HF.out
      rw [List.drop_eq_getElem_cons hlt] at hF
      generalize l[k] = x at *
      obtain ⟨xn, xw⟩ := x
      simp only [vdL] at hs1
      clear hrow
      rw [findF_cons] at hF
      have HBA := Lib.hid (HB.out.alloc HB.out.size (.cells #[.string xn, .int .i64 xw] 54))
      by_cases he : (xn.toList == nm.toList) = true
      · rw [if_pos he] at hF
        have HG := Lib.hid hF
        clear hF HF
        go_wp2
        go_ret
        exact ⟨ret_int HG.out, HBA.out⟩
      · rw [if_neg he] at hF
        simp only [Bool.not_eq_true] at he
        have HG := Lib.hid hF
        clear hF HF
        go_wp2
        go_roundw
        case rel => exact ⟨k + 1, by omega, by go_num, HBA, HG⟩
        case measure => simp [intOf]; omega
    · have hF := HF.out
      rw [List.drop_eq_nil_of_le (by omega)] at hF
      have HG := Lib.hid hF
      clear hF HF
      go_wp2
      go_ret
      exact ⟨ret_int HG.out, HB.out⟩
set_option maxRecDepth 100000 in
set_option maxHeartbeats 1000000 in
/-- vdr.Check -/
theorem checkA (w : World) (v : Value) (l : List Vd) (h : SlIn w v 2 vdL l) : Calls Try.prog 29 #[v] w fun e w' => e = .returned (.int .i64 (chk l)) ∧ Below w.heap.size w w' := by
  have HS := Lib.hid h
  obtain ⟨oa, cap, rfl, g1, g2, g3⟩ := h
  unfold maxLen at g2
  have H3 := Lib.hid g3
  clear g3
  by_cases hl : l.length < 1 ∨ 32 < l.length
  · have hc : chk l = 3 := by unfold chk; rw [if_pos hl]
    rw [hc]
    have hl' : (l.length : Int) < 1 ∨ (32 : Int) < (l.length : Int) := by omega
    clear hl hc H3 HS
    rcases hl' with hl' | hl'
    · go_enter Try.func29, Try.ntmps29
      go_wp2
      go_ret
      exact ⟨rfl, Below.refl _ _⟩
    · have hl2 : ¬ (l.length : Int) < 1 := by omega
      go_enter Try.func29, Try.ntmps29
      go_wp2
      go_ret
      exact ⟨rfl, Below.refl _ _⟩
  · have hl1 : ¬ (l.length : Int) < 1 := by omega
    have hl2 : ¬ (32 : Int) < (l.length : Int) := by omega
    have hc : chk l = if namesF l l 0 = true then (if wtsF 4611686018427387903 l = true then 0 else 51) else 50 := by unfold chk; rw [if_neg hl]
    have HC := Lib.hid hc
    clear hc hl
    go_enter Try.func29, Try.ntmps29
    go_wp2
    go_loopw [18] (fun v18 wr => ∃ k : Nat, k ≤ l.length ∧ v18 = .int .i64 k ∧ Hid (Below w.heap.size w wr) ∧ Hid (namesF l (l.drop k) k = namesF l l 0)) (fun i _ => l.length - (intOf i).toNat)
    case atStart => exact ⟨0, Nat.zero_le _, rfl, Lib.hid (Below.refl _ _), Lib.hid rfl⟩
    case round =>
      obtain ⟨k, hk, rfl, HB, HF⟩ := hrel
      by_cases hlt : k < l.length
      · obtain ⟨b, off, hoa, hbb, hrow⟩ := H3.out (by omega)
        subst hoa
        have hs1 := hrow k hlt
        rw [← obj_below HB.out hbb] at hs1
        have hbl : b < wr.heap.size := Nat.lt_of_lt_of_le hbb HB.out.size
        have hF := HF.out
        rw [List.drop_eq_getElem_cons hlt] at hF
        generalize l[k] = x at *
        obtain ⟨xn, xw⟩ := x
        simp only [vdL] at hs1
        clear hrow
        rw [namesF_cons] at hF
        have HBA := Lib.hid (HB.out.alloc HB.out.size (.cells #[.string xn, .int .i64 xw] 54))
        have oz : obj (wr.alloc (.cells #[.string xn, .int .i64 xw] 54)) wr.heap.size = some (.cells #[.string xn, .int .i64 xw] 54 (0, 0)) := obj_alloc_at _ _ _ rfl
        have HN1 := Lib.hid (nameA xn (wr.alloc (.cells #[.string xn, .int .i64 xw] 54)))
        rcases nameE_cases xn with hn | hn
        · rw [hn] at HN1
          go_wp2_with fail
          generalize wr.alloc (.cells #[.string xn, .int .i64 xw] 54) = wa at *
          generalize wr.heap.size = x4 at *
          refine HN1.out.mono ?_
          rintro e wb ⟨rfl, bb⟩
          have ob := (obj_below bb (lt_of_obj oz)).trans oz
          have cb : wb.cell? ⟨x4, 0, none⟩ = some (.string xn) := cell_at ob 0
          have HB2 := Lib.hid (HBA.out.trans (bb.mono HBA.out.size))
          have HFI := Lib.hid (findA wb _ l xn (HS.out.below HB2.out))
          clear bb oz HN1
          by_cases hf : findI l xn = k
          · rw [if_pos ⟨hn, hf⟩] at hF
            rw [hf] at HFI
            have HG := Lib.hid hF
            clear hF HF hn hf
            go_wp2_with fail
            refine HFI.out.mono ?_
            rintro e wc ⟨rfl, bc⟩
            have HB3 := Lib.hid (HB2.out.trans (bc.mono HB2.out.size))
            clear bc
            go_wp2
            go_roundw
            case rel => exact ⟨k + 1, by omega, by go_num, HB3, HG⟩
            case measure => simp [intOf]; omega
          · rw [if_neg (fun h => hf h.2)] at hF
            have hc := Lib.hid (show chk l = 50 by rw [HC.out, if_neg (by rw [← hF]; simp)])
            have hf2 : (findI l xn == (k : Int)) = false := by simpa using hf
            generalize findI l xn = fi at *
            clear hF HF hn hf
            go_wp2_with fail
            refine HFI.out.mono ?_
            rintro e wc ⟨rfl, bc⟩
            have HB3 := Lib.hid (HB2.out.trans (bc.mono HB2.out.size))
            clear bc
            go_wp2
            go_ret
            exact ⟨ret_int hc.out.symm, HB3.out⟩
        · rw [hn] at HN1
          rw [if_neg (fun h => by rw [hn] at h; cases h.1)] at hF
          have hc := Lib.hid (show chk l = 50 by rw [HC.out, if_neg (by rw [← hF]; simp)])
          clear hF HF hn
          go_wp2_with fail
          refine HN1.out.mono ?_
          rintro e wb ⟨rfl, bb⟩
          have HB2 := Lib.hid (HBA.out.trans (bb.mono HBA.out.size))
          clear bb oz HN1
          go_wp2
          go_ret
          exact ⟨ret_int hc.out.symm, HB2.out⟩
      · have hF := HF.out
        rw [List.drop_eq_nil_of_le (by omega)] at hF
        have hc : chk l = if wtsF 4611686018427387903 l = true then 0 else 51 := by rw [HC.out, if_pos (by rw [← hF]; rfl)]
        have HC2 := Lib.hid hc
        have HB1 := Lib.hid HB.out
        clear hF HF hc HC HB
        have hmx : (4611686018427387903 : Int) ≤ 4611686018427387903 := Int.le_refl _
        go_wp2
        generalize wr = w1 at *
        go_loopw [5, 38] (fun v5 v38 wr => ∃ (k : Nat) (left : Int), k ≤ l.length ∧ v38 = .int .i64 k ∧ v5 = .int .i64 left ∧ 0 ≤ left ∧ left ≤ 4611686018427387903 ∧ Hid (Below w.heap.size w wr) ∧ Hid (wtsF left (l.drop k) = wtsF 4611686018427387903 l)) (fun _ i _ => l.length - (intOf i).toNat)
        case atStart => exact ⟨0, 4611686018427387903, Nat.zero_le _, rfl, rfl, by decide, Int.le_refl _, HB1, Lib.hid rfl⟩
        case round =>
          obtain ⟨k, left, hk, rfl, rfl, hl0, hlm, HB, HF⟩ := hrel
          by_cases hlt : k < l.length
          · obtain ⟨b, off, hoa, hbb, hrow⟩ := H3.out (by omega)
            subst hoa
            have hs1 := hrow k hlt
            rw [← obj_below HB.out hbb] at hs1
            have hbl : b < wr.heap.size := Nat.lt_of_lt_of_le hbb HB.out.size
            have hF := HF.out
            rw [List.drop_eq_getElem_cons hlt] at hF
            generalize l[k] = x at *
            obtain ⟨xn, xw⟩ := x
            simp only [vdL] at hs1
            clear hrow
            rw [wtsF_cons] at hF
            have HBA := Lib.hid (HB.out.alloc HB.out.size (.cells #[.string xn, .int .i64 xw] 54))
            by_cases hb1 : xw < 1
            · rw [if_pos (.inl hb1)] at hF
              have hc := Lib.hid (show chk l = 51 by rw [HC2.out, if_neg (by rw [← hF]; simp)])
              clear hF HF
              go_wp2
              go_ret
              exact ⟨ret_int hc.out.symm, HBA.out⟩
            · by_cases hb2 : left < xw
              · rw [if_pos (.inr hb2)] at hF
                have hc := Lib.hid (show chk l = 51 by rw [HC2.out, if_neg (by rw [← hF]; simp)])
                clear hF HF
                go_wp2
                go_ret
                exact ⟨ret_int hc.out.symm, HBA.out⟩
              · rw [if_neg (fun h => h.elim hb1 hb2)] at hF
                have HG := Lib.hid hF
                clear hF HF
                go_wp2
                go_roundw
                case rel => exact ⟨k + 1, left - xw, by omega, by go_num, by go_num, by omega, by omega, HBA, HG⟩
                case measure => simp [intOf]; omega
          · have hF := HF.out
            rw [List.drop_eq_nil_of_le (by omega)] at hF
            have hc := Lib.hid (show chk l = 0 by rw [HC2.out, if_pos (by rw [← hF]; rfl)])
            clear hF HF
            go_wp2
            go_ret
            exact ⟨ret_int hc.out.symm, HB.out⟩
end Go.Proofs.Ytagpclgappcnbaa.Be
