import Derived.Test.YtagpclgappcnbaaBeNames
namespace Go.Proofs.Ytagpclgappcnbaa.Be
open Go.RowKit

theorem wrapS (k : Nat) (h : k < 9223372036854775807) : IntKind.i64.wrap ((k : Int) + 1) = ((k + 1 : Nat) : Int) := by
  simp [IntKind.wrap, IntKind.signed, IntKind.bits]; omega
set_option maxHeartbeats 400000 in
theorem runes_any (s : ByteArray) (hs : s.size ≤ 4611686018427387904) (w : World) : Calls Try.prog 93 #[.string s] w fun e w' => e = .returned (.int .i64 (runesOf s).length) ∧ Below w.heap.size w w' := by
  have hL := rns_len s s.size 0
  go_enter Try.func93, Try.ntmps93
  go_wp2
  go_loopw [3] (fun v w' => ∃ pos b k : Nat, w' = w.iter s pos ∧ v = .int .i64 k ∧ s.size ≤ pos + b ∧ k + (rns s b pos).length = (runesOf s).length) (fun _ w' => s.size - w'.iterPos w.heap.size)
  case atStart => exact ⟨0, s.size, 0, rfl, rfl, by omega, by simp [runesOf]⟩
  case round =>
    obtain ⟨pos, b, k, rfl, rfl, hb, hc⟩ := hrel
    have HC := Lib.hid hc
    have HL := Lib.hid hL
    clear hc hL
    by_cases hp : pos < s.size
    · have hnx : ∀ ty, (Instr.next (.pointer (some ⟨w.heap.size, 0, none⟩)) true ty).run Try.prog (w.iter s pos) = _ := fun ty => run_next_any w s pos ty hp
      go_wp2
      have hwd := width_pos s pos hp
      obtain ⟨b', e1, e2⟩ := rns_one s b pos hp hb
      have hc := HC.out
      have hl := HL.out
      rw [e1] at hc
      simp only [List.length_cons] at hc
      change (runesOf s).length ≤ _ at hl
      go_roundw
      case rel =>
        refine ⟨_, b', k + 1, rfl, ?_, e2, by omega⟩
        have hk4 : k < 4611686018427387904 := by omega
        clear hc hl
        congr 1
        unfold wrap64
        omega
      case measure => simp; omega
    · have hnx : ∀ ty, (Instr.next (.pointer (some ⟨w.heap.size, 0, none⟩)) true ty).run Try.prog (w.iter s pos) = _ := fun ty => run_next_end w s pos ty hp
      have hk : k = (runesOf s).length := by have := HC.out; rw [rns_end s b pos hp] at this; simpa using this
      subst hk
      go_wp2
      go_ret
      exact ⟨rfl, below_iter w s pos⟩
set_option maxHeartbeats 400000 in
theorem nameA (s : ByteArray) (w : World) : Calls Try.prog 58 #[.string s] w fun e w' => e = .returned (.int .i64 (nameE s)) ∧ Below w.heap.size w w' := by
  go_enter Try.func58, Try.ntmps58
  go_wp2
  go_loopw [3] (fun v w' => ∃ pos b k : Nat, w' = w.iter s pos ∧ v = .int .i64 k ∧ s.size ≤ pos + b ∧ k ≤ 16 ∧ k + (rns s b pos).length = (runesOf s).length ∧ (rns s b pos).all isLetter = (runesOf s).all isLetter) (fun _ w' => s.size - w'.iterPos w.heap.size)
  case atStart => exact ⟨0, s.size, 0, rfl, rfl, by omega, by omega, by simp [runesOf], by simp [runesOf]⟩
  case round =>
    obtain ⟨pos, b, k, rfl, rfl, hb, hk, hc, ha⟩ := hrel
    have HC := Lib.hid hc
    have HA := Lib.hid ha
    clear hc ha
    by_cases hp : pos < s.size
    · have hnx : ∀ ty, (Instr.next (.pointer (some ⟨w.heap.size, 0, none⟩)) true ty).run Try.prog (w.iter s pos) = _ := fun ty => run_next_any w s pos ty hp
      have hwd := width_pos s pos hp
      obtain ⟨b', e1, e2⟩ := rns_one s b pos hp hb
      have hc := HC.out
      have ha := HA.out
      rw [e1] at hc ha
      simp only [List.length_cons] at hc
      simp only [List.all_cons] at ha
      generalize hR : (Utf8.decode s pos).1 = R at *
      generalize hW : (Utf8.decode s pos).2 = K at *
      have HC2 := Lib.hid hc
      have HA2 := Lib.hid ha
      clear hc ha e1 HC HA
      have hwk : IntKind.i64.wrap ((k : Int) + 1) = ((k + 1 : Nat) : Int) := wrapS k (by omega)
      by_cases h16 : 16 < k + 1
      · have hn : nameE s = 50 := by have := HC2.out; unfold nameE; rw [if_neg]; omega
        go_wp2
        go_ret
        exact ⟨by first | rfl | (rw [hn]; rfl), below_iter w s _⟩
      · have HLT := Lib.hid (letterA (R : Int) (w.iter s (pos + K)))
        by_cases hl : isLetter (R : Int) = true
        · rw [hl] at HLT
          have hl2 := Lib.hid hl
          clear hl
          go_wp2_with fail
          refine HLT.out.mono ?_
          rintro e w2 ⟨rfl, rfl⟩
          go_wp2
          go_roundw
          case rel =>
            have ha := HA2.out
            rw [hl2.out, Bool.true_and] at ha
            exact ⟨pos + K, b', k + 1, rfl, by simp, e2, by omega, by have := HC2.out; omega, ha⟩
          case measure => simp; omega
        · simp only [Bool.not_eq_true] at hl
          rw [hl] at HLT
          have hn : nameE s = 50 := by
            have := HA2.out
            rw [hl, Bool.false_and] at this
            unfold nameE
            rw [if_neg]
            rintro ⟨_, _, h⟩
            rw [h] at this
            cases this
          clear hl
          go_wp2_with fail
          refine HLT.out.mono ?_
          rintro e w2 ⟨rfl, rfl⟩
          go_wp2
          go_ret
          exact ⟨by first | rfl | (rw [hn]; rfl), below_iter w s _⟩
    · have hnx : ∀ ty, (Instr.next (.pointer (some ⟨w.heap.size, 0, none⟩)) true ty).run Try.prog (w.iter s pos) = _ := fun ty => run_next_end w s pos ty hp
      have hc := HC.out
      have ha := HA.out
      rw [rns_end s b pos hp] at hc ha
      simp only [List.length_nil, Nat.add_zero] at hc
      simp only [List.all_nil] at ha
      by_cases h0 : k = 0
      · subst h0
        have hn : nameE s = 50 := by unfold nameE; rw [if_neg]; omega
        clear hc ha
        go_wp2
        go_ret
        exact ⟨by first | rfl | (rw [hn]; rfl), below_iter w s _⟩
      · have hn : nameE s = 0 := by unfold nameE; rw [if_pos ⟨by omega, by omega, ha.symm⟩]
        have hk0 : ¬ (k : Int) = 0 := by omega
        clear hc ha
        go_wp2
        go_ret
        exact ⟨by first | rfl | (rw [hn]; rfl), below_iter w s _⟩
set_option maxHeartbeats 400000 in
theorem nameB (s : ByteArray) (hs : s.size ≤ 4611686018427387904) (w : World) : Calls Try.prog 80 #[.string s] w fun e w' => e = .returned (.int .i64 (nameE s)) ∧ Below w.heap.size w w' := by
  have HRU := Lib.hid (runes_any s hs w)
  by_cases hn : 1 ≤ (runesOf s).length ∧ (runesOf s).length ≤ 16
  · have d1 : decide (((runesOf s).length : Int) < 1) = false := by simp; omega
    have d2 : decide ((16 : Int) < ((runesOf s).length : Int)) = false := by simp; omega
    go_enter Try.func80, Try.ntmps80
    go_wp2_with fail
    refine HRU.out.mono ?_
    rintro e w1 ⟨rfl, b1⟩
    have B1 := Lib.hid b1
    clear b1
    go_wp2
    go_loopw [] (fun w' => ∃ pos b : Nat, w' = w1.iter s pos ∧ s.size ≤ pos + b ∧ (rns s b pos).all isLetter = (runesOf s).all isLetter) (fun w' => s.size - w'.iterPos w1.heap.size)
    case atStart => exact ⟨0, s.size, rfl, by omega, by simp [runesOf]⟩
    case round =>
      obtain ⟨pos, b, rfl, hb, ha⟩ := hrel
      have HA := Lib.hid ha
      clear ha
      by_cases hp : pos < s.size
      · have hnx : ∀ ty, (Instr.next (.pointer (some ⟨w1.heap.size, 0, none⟩)) true ty).run Try.prog (w1.iter s pos) = _ := fun ty => run_next_any w1 s pos ty hp
        have hwd := width_pos s pos hp
        obtain ⟨b', e1, e2⟩ := rns_one s b pos hp hb
        have ha := HA.out
        rw [e1] at ha
        simp only [List.all_cons] at ha
        generalize hR : (Utf8.decode s pos).1 = R at *
        generalize hW : (Utf8.decode s pos).2 = K at *
        have HA2 := Lib.hid ha
        clear ha e1 HA
        have HLT := Lib.hid (letterB (R : Int) (w1.iter s (pos + K)))
        by_cases hl : isLetter (R : Int) = true
        · rw [hl] at HLT
          have hl2 := Lib.hid hl
          clear hl
          go_wp2_with fail
          refine HLT.out.mono ?_
          rintro e w2 ⟨rfl, rfl⟩
          go_wp2
          go_roundw
          case rel =>
            have ha := HA2.out
            rw [hl2.out, Bool.true_and] at ha
            exact ⟨pos + K, b', rfl, e2, ha⟩
          case measure => simp; omega
        · simp only [Bool.not_eq_true] at hl
          rw [hl] at HLT
          have hn : nameE s = 50 := by
            have := HA2.out
            rw [hl, Bool.false_and] at this
            unfold nameE
            rw [if_neg]
            rintro ⟨_, _, h⟩
            rw [h] at this
            cases this
          clear hl
          go_wp2_with fail
          refine HLT.out.mono ?_
          rintro e w2 ⟨rfl, rfl⟩
          go_wp2
          go_ret
          exact ⟨by first | rfl | (rw [hn]; rfl), B1.out.trans ((below_iter w1 s _).mono B1.out.size)⟩
      · have hnx : ∀ ty, (Instr.next (.pointer (some ⟨w1.heap.size, 0, none⟩)) true ty).run Try.prog (w1.iter s pos) = _ := fun ty => run_next_end w1 s pos ty hp
        have ha := HA.out
        rw [rns_end s b pos hp] at ha
        simp only [List.all_nil] at ha
        have hn : nameE s = 0 := by unfold nameE; rw [if_pos ⟨by omega, by omega, ha.symm⟩]
        clear ha
        go_wp2
        go_ret
        exact ⟨by first | rfl | (rw [hn]; rfl), B1.out.trans ((below_iter w1 s _).mono B1.out.size)⟩
  · have hn2 : nameE s = 50 := by unfold nameE; rw [if_neg]; omega
    by_cases h1 : ((runesOf s).length : Int) < 1
    · clear hn
      go_enter Try.func80, Try.ntmps80
      go_wp2_with fail
      refine HRU.out.mono ?_
      rintro e w1 ⟨rfl, b1⟩
      go_wp2
      go_ret
      exact ⟨by first | rfl | (rw [hn2]; rfl), b1⟩
    · have h2 : (16 : Int) < ((runesOf s).length : Int) := by omega
      clear hn
      go_enter Try.func80, Try.ntmps80
      go_wp2_with fail
      refine HRU.out.mono ?_
      rintro e w1 ⟨rfl, b1⟩
      go_wp2
      go_ret
      exact ⟨by first | rfl | (rw [hn2]; rfl), b1⟩
end Go.Proofs.Ytagpclgappcnbaa.Be
