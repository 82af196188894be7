import Derived.Test.YtagpclgappcnbaaBeVd
namespace Go.Proofs.Ytagpclgappcnbaa.Be
open Go.RowKit

set_option maxRecDepth 100000 in
set_option maxHeartbeats 1000000 in
/-- flurryref05.Check -/
theorem checkB (w : World) (v : Value) (l : List Vd) (h : SlIn w v 2 vdL l) (hN : ∀ x ∈ l, x.name.size ≤ 300) : Calls Try.prog 48 #[v] w fun e w' => e = .returned (.int .i64 (chk l)) ∧ Below w.heap.size w w' := by
  have HS := Lib.hid h
  have HNN := Lib.hid hN
  obtain ⟨oa, cap, rfl, g1, g2, g3⟩ := h
  unfold maxLen at g2
  have H3 := Lib.hid g3
  clear g3 hN
  by_cases hl : l.length < 1 ∨ 32 < l.length
  · have hc : chk l = 3 := by unfold chk; rw [if_pos hl]
    rw [hc]
    have hl' : (l.length : Int) < 1 ∨ (32 : Int) < (l.length : Int) := by omega
    clear hl hc H3 HS
    rcases hl' with hl' | hl'
    · go_enter Try.func48, Try.ntmps48
      go_wp2
      go_ret
      exact ⟨rfl, Below.refl _ _⟩
    · have hl2 : ¬ (l.length : Int) < 1 := by omega
      go_enter Try.func48, Try.ntmps48
      go_wp2
      go_ret
      exact ⟨rfl, Below.refl _ _⟩
  · have hl1 : ¬ (l.length : Int) < 1 := by omega
    have hl2 : ¬ (32 : Int) < (l.length : Int) := by omega
    have hc : chk l = if namesF l l 0 = true then (if wtsF 4611686018427387903 l = true then 0 else 51) else 50 := by unfold chk; rw [if_neg hl]
    have HC := Lib.hid hc
    clear hc hl
    go_enter Try.func48, Try.ntmps48
    go_wp2
    go_loopw [3] (fun v18 wr => ∃ k : Nat, k ≤ l.length ∧ v18 = .int .i64 k ∧ Hid (Below w.heap.size w wr) ∧ Hid (namesF l (l.drop k) k = namesF l l 0)) (fun i _ => l.length - (intOf i).toNat)
    case atStart => exact ⟨0, Nat.zero_le _, rfl, Lib.hid (Below.refl _ _), Lib.hid rfl⟩
    case round =>
      obtain ⟨k, hk, rfl, HB, HF⟩ := hrel
      by_cases hlt : k < l.length
      · obtain ⟨b, off, hoa, hbb, hrow⟩ := H3.out (by omega)
        subst hoa
        have hs1 := hrow k hlt
        rw [← obj_below HB.out hbb] at hs1
        have hbl : b < wr.heap.size := Nat.lt_of_lt_of_le hbb HB.out.size
        have hF := HF.out
        have hsz := HNN.out l[k] (List.getElem_mem hlt)
        rw [List.drop_eq_getElem_cons hlt] at hF
        generalize l[k] = x at *
        obtain ⟨xn, xw⟩ := x
        simp only [vdL] at hs1
        clear hrow
        rw [namesF_cons] at hF
        have c0 : wr.cell? ⟨b, off + k * 2, none⟩ = some (.string xn) := by have := subOf_cell hs1 (j := 0) (by decide); simpa using this
        have HN1 := Lib.hid (nameB xn (by simp only at hsz; omega) wr)
        rcases nameE_cases xn with hn | hn
        · rw [hn] at HN1
          clear hs1
          go_wp2_with fail
          refine HN1.out.mono ?_
          rintro e wb ⟨rfl, bb⟩
          have cb : wb.cell? ⟨b, off + k * 2, none⟩ = some (.string xn) := (World.cell?_of_block (w := wr) (a := ⟨b, off + k * 2, none⟩) (obj_below bb hbl)).trans c0
          have HB2 := Lib.hid (HB.out.trans (bb.mono HB.out.size))
          have HFI := Lib.hid (findB wb _ l xn (HS.out.below HB2.out))
          clear bb HN1
          by_cases hf : findI l xn = k
          · rw [if_pos ⟨hn, hf⟩] at hF
            rw [hf] at HFI
            have HG := Lib.hid hF
            clear hF HF hn hf
            go_wp2_with fail
            refine HFI.out.mono ?_
            rintro e wc ⟨rfl, rfl⟩
            go_wp2
            go_roundw
            case rel => exact ⟨k + 1, by omega, by go_num, HB2, HG⟩
            case measure => simp [intOf]; omega
          · rw [if_neg (fun h => hf h.2)] at hF
            have hc := Lib.hid (show chk l = 50 by rw [HC.out, if_neg (by rw [← hF]; simp)])
            have hf2 : (findI l xn == (k : Int)) = false := by simpa using hf
            generalize findI l xn = fi at *
            clear hF HF hn hf
            go_wp2_with fail
            refine HFI.out.mono ?_
            rintro e wc ⟨rfl, rfl⟩
            go_wp2
            go_ret
            exact ⟨ret_int hc.out.symm, HB2.out⟩
        · rw [hn] at HN1
          rw [if_neg (fun h => by rw [hn] at h; cases h.1)] at hF
          have hc := Lib.hid (show chk l = 50 by rw [HC.out, if_neg (by rw [← hF]; simp)])
          clear hF HF hn
          go_wp2_with fail
          refine HN1.out.mono ?_
          rintro e wb ⟨rfl, bb⟩
          have HB2 := Lib.hid (HB.out.trans (bb.mono HB.out.size))
          clear bb HN1
          go_wp2
          go_ret
          exact ⟨ret_int hc.out.symm, HB2.out⟩
      · have hF := HF.out
        rw [List.drop_eq_nil_of_le (by omega)] at hF
        have hc : chk l = if wtsF 4611686018427387903 l = true then 0 else 51 := by rw [HC.out, if_pos (by rw [← hF]; rfl)]
        have HC2 := Lib.hid hc
        have HB1 := Lib.hid HB.out
        clear hF HF hc HC HB
        go_wp2
        generalize wr = w1 at *
        go_loopw [4, 5] (fun v5 v38 wr => ∃ (k : Nat) (left : Int), k ≤ l.length ∧ v38 = .int .i64 k ∧ v5 = .int .i64 left ∧ 0 ≤ left ∧ left ≤ 4611686018427387903 ∧ w1 = wr ∧ Hid (wtsF left (l.drop k) = wtsF 4611686018427387903 l)) (fun _ i _ => l.length - (intOf i).toNat)
        case atStart => exact ⟨0, 4611686018427387903, Nat.zero_le _, rfl, rfl, by decide, Int.le_refl _, rfl, Lib.hid rfl⟩
        case round =>
          obtain ⟨k, left, hk, rfl, rfl, hl0, hlm, rfl, HF⟩ := hrel
          by_cases hlt : k < l.length
          · obtain ⟨b, off, hoa, hbb, hrow⟩ := H3.out (by omega)
            subst hoa
            have hs1 := hrow k hlt
            rw [← obj_below HB1.out hbb] at hs1
            have hF := HF.out
            rw [List.drop_eq_getElem_cons hlt] at hF
            generalize l[k] = x at *
            obtain ⟨xn, xw⟩ := x
            simp only [vdL] at hs1
            clear hrow
            rw [wtsF_cons] at hF
            have c1 : w1.cell? ⟨b, off + k * 2 + 1, none⟩ = some (.int .i64 xw) := by have := subOf_cell hs1 (j := 1) (by decide); simpa using this
            clear hs1
            by_cases hb1 : xw < 1
            · rw [if_pos (.inl hb1)] at hF
              have hc := Lib.hid (show chk l = 51 by rw [HC2.out, if_neg (by rw [← hF]; simp)])
              clear hF HF
              go_wp2
              go_ret
              exact ⟨ret_int hc.out.symm, HB1.out⟩
            · by_cases hb2 : left < xw
              · rw [if_pos (.inr hb2)] at hF
                have hc := Lib.hid (show chk l = 51 by rw [HC2.out, if_neg (by rw [← hF]; simp)])
                clear hF HF
                go_wp2
                go_ret
                exact ⟨ret_int hc.out.symm, HB1.out⟩
              · rw [if_neg (fun h => h.elim hb1 hb2)] at hF
                have HG := Lib.hid hF
                clear hF HF
                go_wp2
                go_roundw
                case rel => exact ⟨k + 1, left - xw, by omega, by go_num, by go_num, by omega, by omega, by first | rfl | trivial, HG⟩
                case measure => simp [intOf]; omega
          · have hF := HF.out
            rw [List.drop_eq_nil_of_le (by omega)] at hF
            have hc := Lib.hid (show chk l = 0 by rw [HC2.out, if_pos (by rw [← hF]; rfl)])
            clear hF HF
            go_wp2
            go_ret
            exact ⟨ret_int hc.out.symm, HB1.out⟩

/-! ### totals -/
def sumW : List Vd → Int
  | [] => 0
  | x :: r => x.wt + sumW r
theorem wtsF_sum : ∀ (l : List Vd) (left : Int), wtsF left l = true → 0 ≤ left → 0 ≤ sumW l ∧ sumW l ≤ left ∧ ∀ x ∈ l, 1 ≤ x.wt := by
  intro l
  induction l with
  | nil => intro left _ h; exact ⟨Int.le_refl _, h, fun x hx => by cases hx⟩
  | cons x r ih =>
    intro left h h0
    rw [wtsF_cons] at h
    split at h
    · cases h
    · rename_i hn
      obtain ⟨a, b, c⟩ := ih _ h (by omega)
      refine ⟨by simp only [sumW]; omega, by simp only [sumW]; omega, fun y hy => ?_⟩
      rcases List.mem_cons.1 hy with rfl | hy
      · omega
      · exact c y hy
def tot (l : List Vd) : Int := if chk l = 0 then sumW l else 0
theorem chk_cases (l : List Vd) : chk l = 0 ∨ (chk l == 0) = false := by
  by_cases h : chk l = 0
  · exact .inl h
  · exact .inr (by simpa using h)
theorem sumW_drop (l : List Vd) (k : Nat) (h : ∀ x ∈ l, 1 ≤ x.wt) : 0 ≤ sumW (l.drop k) := by
  have : ∀ r : List Vd, (∀ x ∈ r, 1 ≤ x.wt) → 0 ≤ sumW r := by
    intro r
    induction r with
    | nil => intro _; exact Int.le_refl _
    | cons x r ih => intro hh; have := ih (fun y hy => hh y (List.mem_cons_of_mem _ hy)); have := hh x (List.mem_cons_self ..); simp only [sumW]; omega
  exact this _ fun x hx => h x (List.mem_of_mem_drop hx)
set_option maxRecDepth 100000 in
set_option maxHeartbeats 1000000 in
/-- vdr.Total -/
theorem totalA (w : World) (v : Value) (l : List Vd) (h : SlIn w v 2 vdL l) : Calls Try.prog 76 #[v] w fun e w' => e = .returned (.int .i64 (tot l)) ∧ Below w.heap.size w w' := by
  have HK := Lib.hid (checkA w v l h)
  obtain ⟨oa, cap, rfl, g1, g2, g3⟩ := h
  unfold maxLen at g2
  have H3 := Lib.hid g3
  clear g3
  rcases chk_cases l with hc | hc
  · rw [hc] at HK
    obtain ⟨_, _, _, hw⟩ := chk_32 hc
    obtain ⟨s0, s1, s2⟩ := wtsF_sum _ _ hw (by decide)
    have HT := Lib.hid (show tot l = sumW l from if_pos hc)
    have HD := Lib.hid (fun k => sumW_drop l k s2)
    have hS : 0 ≤ sumW l ∧ sumW l ≤ 4611686018427387903 := ⟨s0, s1⟩
    have HM := Lib.hid s2
    clear hc hw s2 s0 s1
    go_enter Try.func76, Try.ntmps76
    go_wp2_with fail
    refine HK.out.mono ?_
    rintro e w1 ⟨rfl, b1⟩
    have B1 := Lib.hid b1
    clear b1
    go_wp2
    go_loopw [3, 11] (fun v3 v9 wr => ∃ (k : Nat) (n : Int), k ≤ l.length ∧ v9 = .int .i64 k ∧ v3 = .int .i64 n ∧ 0 ≤ n ∧ n ≤ 4611686018427387903 ∧ Hid (Below w.heap.size w wr) ∧ Hid (n + sumW (l.drop k) = sumW l)) (fun _ i _ => l.length - (intOf i).toNat)
    case atStart => exact ⟨0, 0, Nat.zero_le _, rfl, rfl, by decide, by decide, B1, Lib.hid (by simp)⟩
    case round =>
      obtain ⟨k, n, hk, rfl, rfl, hn0, hn1, HB, HF⟩ := hrel
      by_cases hlt : k < l.length
      · obtain ⟨b, off, hoa, hbb, hrow⟩ := H3.out (by omega)
        subst hoa
        have hs1 := hrow k hlt
        rw [← obj_below HB.out hbb] at hs1
        have hbl : b < wr.heap.size := Nat.lt_of_lt_of_le hbb HB.out.size
        have hF := HF.out
        have hd := HD.out (k + 1)
        have hm := HM.out l[k] (List.getElem_mem hlt)
        rw [List.drop_eq_getElem_cons hlt] at hF
        generalize l[k] = x at *
        obtain ⟨xn, xw⟩ := x
        simp only [vdL] at hs1
        simp only [sumW] at hF hm
        have HG : Hid (n + xw + sumW (l.drop (k + 1)) = sumW l) := Lib.hid (by omega)
        have hx1 : n + xw ≤ 4611686018427387903 := by omega
        have HBA := Lib.hid (HB.out.alloc HB.out.size (.cells #[.string xn, .int .i64 xw] 54))
        clear hrow hF HF hd
        go_wp2
        go_roundw
        case rel => exact ⟨k + 1, n + xw, by omega, by go_num, by go_num, by omega, hx1, HBA, HG⟩
        case measure => simp [intOf]; omega
      · have hF := HF.out
        rw [List.drop_eq_nil_of_le (by omega)] at hF
        simp only [sumW, Int.add_zero] at hF
        have HG := Lib.hid (hF.trans HT.out.symm)
        clear hF HF
        go_wp2
        go_ret
        exact ⟨ret_int HG.out, HB.out⟩
  · have HT := Lib.hid (show tot l = 0 from if_neg (by simpa using hc))
    generalize chk l = c at *
    go_enter Try.func76, Try.ntmps76
    go_wp2_with fail
    refine HK.out.mono ?_
    rintro e w1 ⟨rfl, b1⟩
    go_wp2
    go_ret
    exact ⟨ret_int HT.out.symm, b1⟩
end Go.Proofs.Ytagpclgappcnbaa.Be
