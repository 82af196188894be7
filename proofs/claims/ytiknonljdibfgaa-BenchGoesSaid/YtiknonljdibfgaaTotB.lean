import Derived.Test.YtiknonljdibfgaaLeastB
namespace Go.Proofs.Ytiknonljdibfgaa
open Go.RowKit

set_option maxRecDepth 100000 in
set_option maxHeartbeats 1000000 in
/-- flurryref05.Total -/
theorem totalB (w : World) (v : Value) (l : List Vd) (h : SlIn w v 2 vdL l) (hN : ∀ x ∈ l, x.name.size ≤ 300) : Calls Try.prog 18 #[v] w fun e w' => e = .returned (.int .i64 (tot l)) ∧ Below w.heap.size w w' := by
  have HK := Lib.hid (fun W (hb : Below w.heap.size w W) => checkB W v l (h.below hb) hN)
  obtain ⟨oa, cap, rfl, g1, g2, g3⟩ := h
  unfold maxLen at g2
  have H3 := Lib.hid g3
  clear g3 hN
  rcases chk_cases l with hc | hc
  · rw [hc] at HK
    obtain ⟨_, _, _, hw⟩ := chk_32 hc
    obtain ⟨s0, s1, s2⟩ := wtsF_sum _ _ hw (by decide)
    have HT := Lib.hid (show tot l = sumW l from if_pos hc)
    have HD := Lib.hid (fun k => sumW_drop l k s2)
    have hS : 0 ≤ sumW l ∧ sumW l ≤ 4611686018427387903 := ⟨s0, s1⟩
    have HM := Lib.hid s2
    clear hc hw s2 s0 s1
    go_enter Try.func18, Try.ntmps18
    go_wp2
    go_loopw [3, 4] (fun v3 v4 wr => ∃ (k : Nat) (n : Int), k ≤ l.length ∧ v4 = .int .i64 k ∧ v3 = .int .i64 n ∧ 0 ≤ n ∧ n ≤ 4611686018427387903 ∧ Hid (Below w.heap.size w wr) ∧ Hid (n + sumW (l.drop k) = sumW l)) (fun _ i _ => l.length - (intOf i).toNat)
    case atStart => exact ⟨0, 0, Nat.zero_le _, rfl, rfl, by decide, by decide, Lib.hid (Below.refl _ _), Lib.hid (by simp)⟩
    case round =>
      obtain ⟨k, n, hk, rfl, rfl, hn0, hn1, HB, HF⟩ := hrel
      by_cases hlt : k < l.length
      · obtain ⟨b, off, hoa, hbb, hrow⟩ := H3.out (by omega)
        subst hoa
        have hs1 := hrow k hlt
        have hF := HF.out
        have hd := HD.out (k + 1)
        have hm := HM.out l[k] (List.getElem_mem hlt)
        rw [List.drop_eq_getElem_cons hlt] at hF
        have HC := Lib.hid (HK.out wr HB.out)
        generalize l[k] = x at *
        obtain ⟨xn, xw⟩ := x
        simp only [vdL] at hs1
        simp only [sumW] at hF hm
        have HG : Hid (n + xw + sumW (l.drop (k + 1)) = sumW l) := Lib.hid (by omega)
        have hx1 : n + xw ≤ 4611686018427387903 := by omega
        clear hrow hF HF hd
        go_wp2_with fail
        refine HC.out.mono ?_
        rintro e w1 ⟨rfl, b1⟩
        have HB1 := Lib.hid (HB.out.trans (b1.mono HB.out.size))
        rw [← obj_below HB1.out hbb] at hs1
        have c1 : w1.cell? ⟨b, off + k * 2 + 1, none⟩ = some (.int .i64 xw) := by have := subOf_cell hs1 (j := 1) (by decide); simpa using this
        clear b1 HC hs1
        go_wp2
        go_roundw
        case rel => exact ⟨k + 1, n + xw, by omega, by go_num, by go_num, by omega, hx1, HB1, HG⟩
        case measure => simp [intOf]; omega
      · have hF := HF.out
        rw [List.drop_eq_nil_of_le (by omega)] at hF
        simp only [sumW, Int.add_zero] at hF
        have HG := Lib.hid (hF.trans HT.out.symm)
        clear hF HF
        go_wp2
        go_ret
        exact ⟨ret_int HG.out, HB.out⟩
  · have HT := Lib.hid (show tot l = 0 from if_neg (by simpa using hc))
    have hc2 : ¬ chk l = 0 := by simpa using hc
    generalize chk l = c at *
    have HK2 := Lib.hid (HK.out w (Below.refl _ _))
    by_cases h0 : 0 < l.length
    · have h0' : (0 : Int) < l.length := by omega
      go_enter Try.func18, Try.ntmps18
      go_wp2
      go_loopw [3, 4] (fun v3 v4 wr => v3 = .int .i64 0 ∧ v4 = .int .i64 0 ∧ w = wr) (fun _ _ _ => 0)
      case atStart => exact ⟨rfl, rfl, rfl⟩
      case round =>
        obtain ⟨rfl, rfl, rfl⟩ := hrel
        go_wp2_with fail
        refine HK2.out.mono ?_
        rintro e w1 ⟨rfl, b1⟩
        go_wp2
        go_ret
        exact ⟨ret_int HT.out.symm, b1⟩
    · have h0' : ¬ (0 : Int) < l.length := by omega
      go_enter Try.func18, Try.ntmps18
      go_wp2
      go_loopw [3, 4] (fun v3 v4 wr => v3 = .int .i64 0 ∧ v4 = .int .i64 0 ∧ w = wr) (fun _ _ _ => 0)
      case atStart => exact ⟨rfl, rfl, rfl⟩
      case round =>
        obtain ⟨rfl, rfl, rfl⟩ := hrel
        go_wp2
        go_ret
        exact ⟨ret_int HT.out.symm, Below.refl _ _⟩
end Go.Proofs.Ytiknonljdibfgaa
