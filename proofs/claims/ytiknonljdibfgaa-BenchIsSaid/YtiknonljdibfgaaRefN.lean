import Derived.Test.YtiknonljdibfgaaStkR
import Derived.Test.YtiknonljdibfgaaNext
namespace Go.Proofs.Ytiknonljdibfgaa
open Go.RowKit

set_option maxRecDepth 100000 in
set_option maxHeartbeats 1000000 in
/-- flurryref15.Next -/
theorem nextR_any (w : World) (v2 : Value) (s : List St) (now : Int) (h2 : SlIn w v2 3 stL s) :
    Calls Try.prog 28 #[v2, .int .i64 now] w fun e w' => e = .returned (.int .i64 (nxF s (blL s now))) ∧ Below w.heap.size w w' := by
  have HI := Lib.hid (fun k => isR_any w v2 s (k : Int) now h2)
  obtain ⟨oa2, cap2, rfl, k1, k2, k3⟩ := h2
  unfold maxLen at k2
  have H3 := Lib.hid k3
  clear k3
  go_enter Try.func28, Try.ntmps28
  go_wp2
  go_loopw [5, 6] (fun v5 v6 wr => ∃ (k : Nat) (n : Int), k ≤ s.length ∧ v6 = .int .i64 k ∧ v5 = .int .i64 n ∧ Hid (w = wr) ∧ Hid ((blF now (s.drop k) k).foldl (nxS s) n = nxF s (blL s now))) (fun _ i _ => s.length - (intOf i).toNat)
  case atStart => exact ⟨0, 0, Nat.zero_le _, rfl, rfl, Lib.hid rfl, Lib.hid rfl⟩
  case round =>
    obtain ⟨k, n, hk, rfl, rfl, HE, HF⟩ := hrel
    have he := HE.out
    subst he
    by_cases hlt : k < s.length
    · obtain ⟨b, off, hoa, hbb, hrow⟩ := H3.out (by omega)
      subst hoa
      have hs1 := hrow k hlt
      have hF := HF.out
      rw [List.drop_eq_getElem_cons hlt, blF_cons] at hF
      have HIk := Lib.hid (HI.out k)
      rw [isB_at s k hlt] at HIk
      have hu : untA s (k : Int) = s[k].u := by unfold untA; simp [List.getD, hlt]
      generalize s[k] = x at *
      obtain ⟨xf, xs, xu⟩ := x
      simp only at hu
      have c1 : w.cell? ⟨b, off + k * 3 + 2, none⟩ = some (.int .i64 xu) := by have := subOf_cell hs1 (j := 2) (by decide); simpa using this
      clear hrow HF hs1
      by_cases hc : 0 ≤ now ∧ now < xu
      · rw [if_pos hc, List.foldl_cons] at hF
        rw [decide_eq_true hc] at HIk
        unfold nxS at hF
        rw [hu] at hF
        have HF0 := Lib.hid hF
        clear hF hc hu
        by_cases h0 : n = 0
        · subst h0
          have hG := HF0.out
          rw [if_pos (.inl rfl)] at hG
          have HG := Lib.hid hG
          clear hG HF0
          go_wp2_with fail
          refine HIk.out.mono ?_
          rintro e w1 ⟨rfl, rfl⟩
          go_wp2
          go_roundw
          case rel => exact ⟨k + 1, xu, by omega, by go_num, rfl, Lib.hid (by first | rfl | trivial), HG⟩
          case measure => simp [intOf]; omega
        · have e0 : (n == 0) = false := by simpa using h0
          by_cases hl : xu < n
          · have hG := HF0.out
            rw [if_pos (.inr hl)] at hG
            have HG := Lib.hid hG
            clear hG HF0
            go_wp2_with fail
            refine HIk.out.mono ?_
            rintro e w1 ⟨rfl, rfl⟩
            go_wp2
            go_roundw
            case rel => exact ⟨k + 1, xu, by omega, by go_num, rfl, Lib.hid (by first | rfl | trivial), HG⟩
            case measure => simp [intOf]; omega
          · have hG := HF0.out
            rw [if_neg (by omega)] at hG
            have HG := Lib.hid hG
            clear hG HF0
            go_wp2_with fail
            refine HIk.out.mono ?_
            rintro e w1 ⟨rfl, rfl⟩
            go_wp2
            go_roundw
            case rel => exact ⟨k + 1, n, by omega, by go_num, rfl, Lib.hid (by first | rfl | trivial), HG⟩
            case measure => simp [intOf]; omega
      · rw [if_neg hc] at hF
        rw [decide_eq_false hc] at HIk
        have HG := Lib.hid hF
        clear hF hc hu
        go_wp2_with fail
        refine HIk.out.mono ?_
        rintro e w1 ⟨rfl, rfl⟩
        go_wp2
        go_roundw
        case rel => exact ⟨k + 1, n, by omega, by go_num, rfl, Lib.hid (by first | rfl | trivial), HG⟩
        case measure => simp [intOf]; omega
    · have hF := HF.out
      rw [List.drop_eq_nil_of_le (by omega)] at hF
      simp only [blF, List.foldl_nil] at hF
      have HG := Lib.hid hF
      clear hF HF
      go_wp2
      go_ret
      exact ⟨ret_int HG.out, Below.refl _ _⟩
set_option maxRecDepth 100000 in
set_option maxHeartbeats 1000000 in
/-- flurryref15.All -/
theorem allR_any (w : World) (v : Value) (s : List St) (now : Int) (h : SlIn w v 3 stL s) (hlen : s.length ≤ 4096) : Calls Try.prog 20 #[v, .int .i64 now] w (RetOwn w 3 1 iL (blL s now)) := by
  have hrow := hide_row45
  have HS := Lib.hid h
  obtain ⟨oa, cap, rfl, g1, g2, g3⟩ := h
  unfold maxLen at g2
  clear g3
  go_enter Try.func20, Try.ntmps20
  go_wp2
  go_loopw [5, 6] (fun v5 v6 wr => ∃ (k : Nat) (D : List Int), k ≤ s.length ∧ v6 = .int .i64 k ∧ D.length ≤ k ∧ Hid (Below w.heap.size w wr) ∧ Hid (OwnS wr w.heap.size 3 1 iL v5 D) ∧ Hid (D ++ blF now (s.drop k) k = blL s now)) (fun _ i _ => s.length - (intOf i).toNat)
  case atStart => exact ⟨0, [], Nat.zero_le _, rfl, Nat.le_refl _, Lib.hid (Below.refl _ _), Lib.hid (OwnS.nil _ _ _ _ _), Lib.hid rfl⟩
  case round =>
    obtain ⟨k, D, hk, rfl, hD, HB, HO, HF⟩ := hrel
    by_cases hlt : k < s.length
    · have HQ := Lib.hid (isR_any wr _ s (k : Int) now (HS.out.below HB.out))
      have hF := HF.out
      rw [List.drop_eq_getElem_cons hlt, blF_cons] at hF
      rw [isB_at s k hlt] at HQ
      generalize s[k] = x at *
      by_cases hc : 0 ≤ now ∧ now < x.u
      · rw [if_pos hc] at hF
        rw [decide_eq_true hc] at HQ
        have HG := Lib.hid hF
        clear hF HF hc
        go_wp2_with fail
        refine HQ.out.mono ?_
        rintro e w2 ⟨rfl, rfl⟩
        go_wp2_with (at_builtin; refine push45 rfl _ _ rfl w.heap.size _ D (k : Int) rfl (HO.out.alloc _) wr.heap.size rfl (obj_alloc_at _ _ _ rfl) (by omega) (by have := HB.out.size; simp; omega) ?_; intro v' W3 q1 q2 q3; have R3 := Lib.hid q1; have Q2 := Lib.hid ((HB.out.alloc HB.out.size (.cells #[.int .i64 (k : Int)] 3)).trans q2); clear q1 q2 q3)
        go_roundw
        case rel => exact ⟨k + 1, D ++ [(k : Int)], by omega, by go_num, by simp; omega, Q2, R3, Lib.hid (by rw [List.append_assoc]; exact HG.out)⟩
        case measure => simp [intOf]; omega
      · rw [if_neg hc] at hF
        rw [decide_eq_false hc] at HQ
        have HG := Lib.hid hF
        clear hF HF hc
        go_wp2_with fail
        refine HQ.out.mono ?_
        rintro e w2 ⟨rfl, rfl⟩
        go_wp2
        go_roundw
        case rel => exact ⟨k + 1, D, by omega, by go_num, by omega, HB, HO, HG⟩
        case measure => simp [intOf]; omega
    · have hF := HF.out
      rw [List.drop_eq_nil_of_le (by omega)] at hF
      have HG : Hid (D = blL s now) := Lib.hid (by rw [← hF]; simp [blF])
      clear hF HF
      go_wp2
      go_ret
      exact ⟨_, rfl, HG.out ▸ HO.out, HB.out⟩
end Go.Proofs.Ytiknonljdibfgaa
