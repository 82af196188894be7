import Derived.Test.YtmenfbfekfljbaaPair
namespace Go.Proofs.Ytmenfbfekfljbaa
open Go.RowKit

theorem isAgg45' (w : World) : (isAgg 45).run Try.prog w = .ok true w := by kernel_rfl
theorem pair_part (p : ID × ID) : (pairL p).toArray.extract (0 * 32) (0 * 32 + 32) = (idL p.1).toArray ∧ (pairL p).toArray.extract (1 * 32) (1 * 32 + 32) = (idL p.2).toArray := by
  refine ⟨?_, ?_⟩
  · rw [List.extract_toArray]; congr 1
    simp only [Nat.zero_mul, Nat.zero_add, List.extract_eq_take_drop, List.drop_zero, Nat.sub_zero, pairL]
    exact List.take_left' (idL_length _)
  · rw [List.extract_toArray]; congr 1
    simp only [Nat.one_mul, List.extract_eq_take_drop, pairL]
    rw [List.drop_left' (idL_length _), List.take_of_length_le (by simp)]
theorem pair_drop (p : ID × ID) : ((pairL p).drop 32).take 32 = idL p.2 := by
  rw [pairL, List.drop_left' (idL_length _), List.take_of_length_le (by simp)]
theorem run_eqItems_pair (d : Nat) (a b : ID × ID) (w : World) : (Op.eqItems (d + 2) 45 32 (pairL a).toArray (pairL b).toArray [0, 1]).run Try.prog w = .ok (decide (a = b)) w := by
  have hs : ∀ w, (sizeOf 45).run Try.prog w = .ok 32 w := fun w => by simp [Try.sizeOf45]
  obtain ⟨a1, a2⟩ := a
  obtain ⟨b1, b2⟩ := b
  simp only [Op.eqItems, part, isAgg45', Result.andThen_ok, if_true, Sem.run_bind, Sem.run_pure, hs, (pair_part _).1, (pair_part _).2, pair_drop, run_eql45]
  by_cases h1 : a1 = b1
  · by_cases h2 : a2 = b2
    · simp [h1, h2, Sem.run_bind, part, isAgg45', hs, (pair_part _).2, pair_drop, run_eql45]
    · simp [h1, h2, Sem.run_bind, part, isAgg45', hs, (pair_part _).2, pair_drop, run_eql45]
  · simp [h1]
@[go_sem] theorem run_eql59 (d : Nat) (a b : ID × ID) (w : World) : (Op.equalIn (d + 3) 59 (.agg (pairL a).toArray) (.agg (pairL b).toArray)).run Try.prog w = .ok (decide (a = b)) w := by
  obtain ⟨ie, hi, _⟩ := info_parts info45
  rw [run_equalIn_array w (d + 2) _ _ Try.underlying59 hi, show Try.prog.cellsOf 45 = 32 from by kernel_rfl]
  exact run_eqItems_pair d a b w
set_option maxRecDepth 100000 in
set_option maxHeartbeats 1000000 in
theorem equal_pairs (w : World) (v1 v2 : Value) (xs ys : List (ID × ID)) (h : SlIn w v1 64 pairL xs) (h' : SlIn w v2 64 pairL ys) :
    Calls Try.prog 22 #[v1, v2] w fun e w' => e = .returned (.bool (decide (xs = ys))) ∧ Below w.heap.size w w' := by
  obtain ⟨oa, cap, rfl, h1, h2, h3⟩ := h
  obtain ⟨ob, cap', rfl, h1', h2', h3'⟩ := h'
  unfold maxLen at h2 h2'
  have H3 := Lib.hid h3
  have H3' := Lib.hid h3'
  clear h3 h3'
  by_cases hll : xs.length = ys.length
  · have hb0 : ((xs.length : Int) != (ys.length : Int)) = false := by simp [hll]
    have HLL := Lib.hid hll
    clear hll
    go_enter Try.func22, Try.ntmps22
    go_wp2
    go_loopw [5, 13] (fun _ v13 wr => ∃ k : Nat, k ≤ xs.length ∧ v13 = .int .i64 k ∧ Hid (∀ j (h1 : j < xs.length) (h2 : j < ys.length), j < k → xs[j] = ys[j]) ∧ Below w.heap.size w wr) (fun _ i _ => xs.length - (intOf i).toNat)
    case atStart => exact ⟨0, Nat.zero_le _, rfl, Lib.hid (by omega), Below.refl _ _⟩
    case round =>
      obtain ⟨k, hk, rfl, HK, hb⟩ := hrel
      by_cases hlt : k < xs.length
      · have hlt' : k < ys.length := by have := HLL.out; omega
        obtain ⟨b, off, hoa, hbb, hrow⟩ := H3.out (by omega)
        obtain ⟨b', off', hoa', hbb', hrow'⟩ := H3'.out (by omega)
        subst hoa
        subst hoa'
        have hs1 := hrow k hlt
        have hs2 := hrow' k hlt'
        rw [← obj_below hb hbb] at hs1
        rw [← obj_below hb hbb'] at hs2
        have hbl : b < wr.heap.size := Nat.lt_of_lt_of_le hbb hb.size
        have hbl' : b' < wr.heap.size := Nat.lt_of_lt_of_le hbb' hb.size
        have NX : Hid (xs[k] = ys[k] → ∀ j (h1 : j < xs.length) (h2 : j < ys.length), j < k + 1 → xs[j] = ys[j]) := Lib.hid (fun h j h1 h2 hlt' => by
            by_cases e : j = k
            · subst e; exact h
            · exact HK.out j h1 h2 (by omega))
        have NO : Hid (xs[k] ≠ ys[k] → xs ≠ ys) := Lib.hid (fun h e => h (by subst e; rfl))
        generalize xs[k] = x at *
        generalize ys[k] = y at *
        clear hrow hrow'
        by_cases hxy : x = y
        · have hd : decide (x = y) = true := by simpa using hxy
          have HN := Lib.hid (NX.out hxy)
          clear hxy
          go_wp2
          go_quiet (fail)
          go_wp2
          go_roundw
          case rel => exact ⟨k + 1, by omega, by go_num, HN, below_drewN hb _⟩
          case measure => simp [intOf]; omega
        · have hd : decide (x = y) = false := by simpa using hxy
          have HN := Lib.hid (NO.out hxy)
          clear hxy
          go_wp2
          go_quiet (fail)
          go_wp2
          go_ret
          exact ⟨ret_bool (by simpa using HN.out), below_drewN hb _⟩
      · have hk' : k = xs.length := by omega
        subst hk'
        go_wp2
        go_ret
        exact ⟨ret_bool (by simpa using List.ext_getElem HLL.out (fun j h1 h2 => HK.out j h1 h2 h1)), hb⟩
  · have hb0 : ((xs.length : Int) != (ys.length : Int)) = true := by simp; omega
    have HN : Hid (xs ≠ ys) := Lib.hid (fun e => hll (by rw [e]))
    clear hll
    go_enter Try.func22, Try.ntmps22
    go_wp2
    go_ret
    exact ⟨ret_bool (by simpa using HN.out), Below.refl _ _⟩

end Go.Proofs.Ytmenfbfekfljbaa
