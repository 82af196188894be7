import Derived.Test.YtggpmepiggnnnaaBegun
namespace Go.Proofs.Ytggpmepiggnnnaa
open Go.RowKit

theorem hasK_insL (a : Al) (W : List Al) (k : Int) : hasK (insL a W) k = (a.2 == k || hasK W k) := by
  rw [hasK_perm (insL_perm a W)]
  simp [hasK]
set_option maxRecDepth 100000 in
set_option maxHeartbeats 4000000 in
theorem full_any (w : World) (a t k : Int) (ha : 0 ≤ a ∧ a ≤ 255) : Calls Try.prog 3 #[.int .u8 a, .int .i64 t, .int .i64 k] w fun e w' => e = .returned (.bool true) ∧ Below w.heap.size w w' := by
  have HN := Lib.hid (new_hp w)
  obtain ⟨ha1, ha2⟩ := ha
  go_enter Try.func3, Try.ntmps3
  go_wp2_with fail
  refine HN.out.mono ?_
  rintro e w1 ⟨rfl, h1, b1⟩
  have HB := Lib.hid (begun_any w1)
  have HH : Hid (∃ F : Nat → Prop, Hp w1 F (w.heap.size + 1) [] ∧ ∀ n, F n → w.heap.size ≤ n) := Lib.hid ⟨_, h1, fun n hn => by rcases hn with rfl | rfl <;> omega⟩
  have B1 := Lib.hid b1
  clear h1 b1
  go_wp2_with fail
  refine HB.out.mono ?_
  rintro e w2 ⟨rfl, b2⟩
  have HH2 : Hid (∃ F : Nat → Prop, Hp w2 F (w.heap.size + 1) [] ∧ ∀ n, F n → w.heap.size ≤ n) := Lib.hid (by obtain ⟨F, h, g⟩ := HH.out; exact ⟨F, h.below b2, g⟩)
  have B2 := Lib.hid (B1.out.trans (b2.mono B1.out.size))
  clear b2
  go_wp2
  obtain ⟨n, hn, hn1, hn2⟩ : ∃ n : Nat, 4096 - a % 4 = (n : Int) ∧ 4093 ≤ n ∧ n ≤ 4096 := ⟨(4096 - a % 4).toNat, by omega, by omega, by omega⟩
  rw [hn]
  have HF0 : Hid (∃ (F : Nat → Prop) (X : List Al), Hp w2 F (w.heap.size + 1) X ∧ (∀ n, F n → w.heap.size ≤ n) ∧ X.length = 0 ∧ ∀ k, hasK X k = decide (0 ≤ k ∧ k < ((0 : Nat) : Int))) := Lib.hid (by
    obtain ⟨F, h, g⟩ := HH2.out
    exact ⟨F, [], h, g, rfl, fun k => by simp [hasK]⟩)
  clear hn
  go_loopw [23] (fun v23 wr => ∃ i : Nat, i ≤ n ∧ v23 = .int .i64 i ∧ Hid (∃ (F : Nat → Prop) (X : List Al), Hp wr F (w.heap.size + 1) X ∧ (∀ n, F n → w.heap.size ≤ n) ∧ X.length = i ∧ ∀ k, hasK X k = decide (0 ≤ k ∧ k < (i : Int))) ∧ Hid (Below w.heap.size w wr)) (fun i _ => n - (intOf i).toNat)
  case atStart => exact ⟨0, Nat.zero_le _, rfl, HF0, B2⟩
  case round =>
    obtain ⟨i, hi, rfl, HI, HB⟩ := hrel
    obtain ⟨F, X, hX, hF, hXl, hXk⟩ := HI.out
    have HF := Lib.hid hF
    have HXL := Lib.hid hXl
    have HXK := Lib.hid hXk
    have HX := Lib.hid hX
    clear hX hF hXl hXk
    by_cases hlt : i < n
    · have hmod : ((i : Int) * 7).tmod (n : Int) = ((i * 7 % n : Nat) : Int) := by rw [Int.tmod_eq_emod_of_nonneg (by omega)]; simp
      have hm2 : i * 7 % n < n := Nat.mod_lt _ (by omega)
      generalize i * 7 % n = q at *
      have HPE : Hid (pushE X (q : Int) (i : Int) = 0) := Lib.hid (by
        unfold pushE
        rw [if_neg, if_neg, if_neg]
        · rw [HXL.out]; omega
        · rw [HXK.out]; simp
        · unfold mayB; simp; omega)
      have HC := Lib.hid (push_hp wr F (w.heap.size + 1) X (q : Int) (i : Int) HX.out)
      rw [HPE.out] at HC
      generalize i * 7 % n = q at *
      go_wp2_with fail
      refine HC.out.mono ?_
      rintro e w5 ⟨rfl, ⟨F5, h5, g5⟩, k5⟩
      have HB5 : Hid (Below w.heap.size w w5) := Lib.hid (HB.out.trans (k5.below HF.out HB.out.size))
      have HI5 : Hid (∃ (F : Nat → Prop) (X : List Al), Hp w5 F (w.heap.size + 1) X ∧ (∀ n, F n → w.heap.size ≤ n) ∧ X.length = i + 1 ∧ ∀ k, hasK X k = decide (0 ≤ k ∧ k < ((i + 1 : Nat) : Int))) := Lib.hid (by
        unfold pushW at h5
        rw [if_pos HPE.out] at h5
        refine ⟨F5, _, h5, fun n hn => ?_, by rw [insL_length, HXL.out], fun k => ?_⟩
        · rcases g5 n hn with h | h
          · exact HF.out n h
          · have := HB.out.size; omega
        · rw [hasK_insL, HXK.out, Bool.eq_iff_iff, Bool.or_eq_true, decide_eq_true_eq, decide_eq_true_eq, beq_iff_eq]
          show (i : Int) = k ∨ _ ↔ _
          omega)
      clear h5 g5 k5
      go_wp2
      go_roundw
      case rel => exact ⟨i + 1, by omega, by go_num, HI5, HB5⟩
      case measure => simp [intOf]; omega
    · have hin : i = n := by omega
      subst hin
      have HC := Lib.hid (push_hp wr F (w.heap.size + 1) X t k HX.out)
      have HPE : Hid (pushE X t k = if mayB t = false then 1 else if (decide (0 ≤ k ∧ k < (i : Int))) = true then 7 else if 4096 ≤ i then 6 else 0) := Lib.hid (by unfold pushE; rw [HXK.out, HXL.out])
      have HLW : Hid ((pushW X t k).length = if pushE X t k = 0 then i + 1 else i) := Lib.hid (by
        unfold pushW
        split
        · rw [insL_length, HXL.out]
        · exact HXL.out)
      generalize hE : pushE X t k = E at *
      have key : ∀ w6, (∃ F', Hp w6 F' (w.heap.size + 1) (pushW X t k)) → Below w.heap.size w w6 → Hid (Calls Try.prog 12 #[.pointer (some ⟨w.heap.size + 1, 0, none⟩)] w6 fun e w' => e = .returned (.int .i64 ((if E = 0 then i + 1 else i : Nat) : Int)) ∧ w6 = w') := fun w6 h _ => Lib.hid (by
        obtain ⟨F', h⟩ := h
        have := len_hp w6 F' (w.heap.size + 1) _ h
        rw [HLW.out] at this
        exact this)
      go_wp2_with fail
      refine HC.out.mono ?_
      rintro e w5 ⟨rfl, ⟨F5, h5, g5⟩, k5⟩
      have HB5 : Hid (Below w.heap.size w w5) := Lib.hid (HB.out.trans (k5.below HF.out HB.out.size))
      have HL := key w5 ⟨F5, h5⟩ HB5.out
      clear h5 g5 k5 key HC hE HLW HXK HXL
      by_cases ht : mayB t = true
      · have HT : 0 ≤ t ∧ t ≤ 4611686018427387903 := by unfold mayB at ht; simpa using ht
        obtain ⟨ht1, ht2⟩ := HT
        by_cases hk : 0 ≤ k ∧ k < (i : Int)
        · have hE : E = 7 := by rw [HPE.out, if_neg (by rw [ht]; simp), if_pos (by simpa using hk)]
          subst hE
          obtain ⟨hk1, hk2⟩ := hk
          rw [if_neg (by decide)] at HL
          clear HPE ht
          go_wp2_with fail
          refine HL.out.mono ?_
          rintro e w6 ⟨rfl, rfl⟩
          go_wp2
          go_ret
          exact ⟨rfl, HB5.out⟩
        · by_cases hi4 : i = 4096
          · have hE : E = 6 := by rw [HPE.out, if_neg (by rw [ht]; simp), if_neg (by simpa using hk), if_pos (by omega)]
            subst hE
            rw [if_neg (by decide)] at HL
            have hi5 : ((i : Int) == 4096) = true := by simp; omega
            clear HPE ht
            by_cases hk0 : k < 0
            · clear hk hi4
              go_wp2_with fail
              refine HL.out.mono ?_
              rintro e w6 ⟨rfl, rfl⟩
              go_wp2
              go_ret
              exact ⟨rfl, HB5.out⟩
            · have hk1 : 0 ≤ k := by omega
              have hk2 : ¬ k < (i : Int) := by omega
              clear hk hk0 hi4
              go_wp2_with fail
              refine HL.out.mono ?_
              rintro e w6 ⟨rfl, rfl⟩
              go_wp2
              go_ret
              exact ⟨rfl, HB5.out⟩
          · have hE : E = 0 := by rw [HPE.out, if_neg (by rw [ht]; simp), if_neg (by simpa using hk), if_neg (by omega)]
            subst hE
            rw [if_pos rfl] at HL
            have hi5 : ((i : Int) == 4096) = false := by simp; omega
            clear HPE ht
            by_cases hk0 : k < 0
            · clear hk hi4
              go_wp2_with fail
              refine HL.out.mono ?_
              rintro e w6 ⟨rfl, rfl⟩
              go_wp2
              go_ret
              exact ⟨rfl, HB5.out⟩
            · have hk1 : 0 ≤ k := by omega
              have hk2 : ¬ k < (i : Int) := by omega
              clear hk hk0 hi4
              go_wp2_with fail
              refine HL.out.mono ?_
              rintro e w6 ⟨rfl, rfl⟩
              go_wp2
              go_ret
              exact ⟨rfl, HB5.out⟩
      · have hmf : mayB t = false := by simpa using ht
        have hE : E = 1 := by rw [HPE.out, if_pos hmf]
        subst hE
        rw [if_neg (by decide)] at HL
        have HT : t < 0 ∨ 4611686018427387903 < t := by unfold mayB at hmf; simp at hmf; omega
        clear HPE ht hmf
        rcases HT with ht | ht
        · go_wp2_with fail
          refine HL.out.mono ?_
          rintro e w6 ⟨rfl, rfl⟩
          go_wp2
          go_ret
          exact ⟨rfl, HB5.out⟩
        · have ht' : ¬ t < 0 := by omega
          go_wp2_with fail
          refine HL.out.mono ?_
          rintro e w6 ⟨rfl, rfl⟩
          go_wp2
          go_ret
          exact ⟨rfl, HB5.out⟩
end Go.Proofs.Ytggpmepiggnnnaa
