import Derived.Test.YtmenfbfekfljbaaIter
import Derived.Test.YtmenfbfekfljbaaBlocks
namespace Go.Proofs.Ytmenfbfekfljbaa
open Go.RowKit Go.Shelf
attribute [local go_sem] Oper.semAt_some

def pairV (p : ID × ID) : Array Value := #[.agg (idL p.1).toArray, .agg (idL p.2).toArray]
theorem look82one {m : Nat} {es : Array MapEntry} {clk : Nat} {L : List (ID × ID)} (hr : RepK idV idV es.toList L) (a : ID) : ∀ W : World, obj W m = some (.map es clk) →
    (Instr.lookup 82 (.map (some m)) (.agg (idL a).toArray) false).run Try.prog W = .ok (.agg (idL ((kGet a L).getD ID.zero)).toArray) W := by
  intro W hW
  have := run_lookup1_k (w := W) (m := m) keyOK45 Try.underlying82 zero45 ⟨es, clk, hW, hr⟩ a
  unfold idV at this
  rw [this]
  cases kGet a L <;> rfl

set_option maxRecDepth 100000 in
set_option maxHeartbeats 2000000 in
theorem blocks_in (n : Nat) (hn : 1 ≤ n) (l ib ub m n0 : Nat) (v : Value) (xs : List FactD) (J Jx : List (ID × ID) → World → Prop)
    (hY : ∀ pre x W, J pre W → pre.length < (blkPairs xs).length → YieldAt Fence.wide (n - 1) Try.prog l (pairV x) W fun e W' =>
      (e = .returned (.bool true) ∧ J (pre ++ [x]) W' ∧ Below n0 W W') ∨ (e = .returned (.bool false) ∧ Jx (pre ++ [x]) W'))
    (w0 W : World) (hn0 : n0 = w0.heap.size) (hB : BlkAt w0 ib ub m v xs) (hW : Below w0.heap.size w0 W) (hJ : AbidesFrom W.heap.size J) (h0 : J [] W) :
    CallsIn Fence.wide n Try.prog 47 #[.func (.yield l) #[] #[], .pointer (some ⟨ib, 0, none⟩), .pointer (some ⟨ub, 0, none⟩)] W fun e W' => (∃ v, e = .returned v) ∧
      ((∃ ys, ys = blkPairs xs ∧ J ys W') ∨ (∃ pre, pre <+: blkPairs xs ∧ Jx pre W')) := by
  refine callsIn_of_wp Try.func47 rfl trivial ?_ rfl
  simp only [Try.ntmps47, List.size_toArray, List.length_cons, List.length_nil, Nat.reduceAdd, Nat.reduceSub, Array.replicate_succ, Array.replicate_zero, List.push_toArray, List.append_toArray, List.nil_append, List.cons_append]
  have hBW := hB.below hW
  have c0 : W.cell? ⟨ib, 0, none⟩ = some v := cell_at hBW.ids 0
  obtain ⟨oa, cap, rfl, q1, q2, q3⟩ := hBW.sl
  unfold maxLen at q2
  gi_wp2
  have H3 := Lib.hid q3
  have HB := Lib.hid hB
  have HJ := Lib.hid hJ
  have HY := Lib.hid hY
  have hlp : (blkPairs xs).length = (blkIds xs).length := by simp [blkPairs]
  have HLP := Lib.hid hlp
  clear q3 hB hBW hJ hY c0 hlp
  gi_loopw [5, 8] (fun _ v8 wr => ∃ k : Nat, k ≤ (blkIds xs).length ∧ v8 = .int .i64 k ∧ Hid (J ((blkPairs xs).take k) wr) ∧ Below n0 w0 wr ∧ W.heap.size ≤ wr.heap.size) (fun _ i _ => (blkIds xs).length - (intOf i).toNat)
  case atStart => exact ⟨0, Nat.zero_le _, rfl, Lib.hid h0, hn0 ▸ hW, Nat.le_refl _⟩
  case round =>
    obtain ⟨k, hk, rfl, HJk, hb, hzz⟩ := hrel
    have hz := hb.size
    have hbB := HB.out.below (hn0 ▸ hb)
    by_cases hlt : k < (blkIds xs).length
    · obtain ⟨oa', cap', e', q1', q2', q3'⟩ := hbB.sl
      simp only [Value.slice.injEq] at e'
      obtain ⟨rfl, _, rfl⟩ := e'
      obtain ⟨b, off, hoa, hbb, hrow⟩ := q3' (by omega)
      subst hoa
      have hsub := hrow k hlt
      have c2 : wr.cell? ⟨ub, 0, none⟩ = some (.map (some m)) := cell_at hbB.rel.box 0
      have hub := lt_of_obj hbB.rel.box
      obtain ⟨es, clk, ho, hr⟩ := hbB.rel.map
      have hm := lt_of_obj ho
      have hl := look82one (m := m) (clk := clk) hr ((blkIds xs)[k])
      rw [up_par] at hl
      have hpk : (blkPairs xs)[k]'(by rw [HLP.out]; exact hlt) = ((blkIds xs)[k], (parM xs (blkIds xs)[k]).getD ID.zero) := by simp [blkPairs]
      have HTK : Hid ((blkPairs xs).take (k + 1) = (blkPairs xs).take k ++ [((blkIds xs)[k], (parM xs (blkIds xs)[k]).getD ID.zero)]) := Lib.hid (by rw [take_succ_get _ k (by rw [HLP.out]; exact hlt), hpk])
      generalize (blkIds xs)[k] = x at *
      generalize (parM xs x).getD ID.zero = px at *
      have hJa : J ((blkPairs xs).take k) (wr.alloc (.cells (idL x).toArray 45)) := HJ.out _ _ _ none HJk.out (World.grownBy_alloc _ _ _) (fun r e => by cases e)
      have hJd : J ((blkPairs xs).take k) (wr.alloc (.cells (idL x).toArray 45)).drew := HJ.out _ _ _ none hJa ⟨rfl, rfl, rfl, Nat.le_refl _, fun _ _ _ => rfl⟩ (fun r e => by cases e)
      obtain ⟨fn, tmps, assign, body, hy, hR⟩ := HY.out _ (x, px) _ hJd (by rw [List.length_take, HLP.out]; omega)
      simp only [pairV] at hy
      clear hrow hJa hJd hpk
      have hR' := hR.mono (R' := fun e W' => ∃ t : Bool, e = .returned (.bool t) ∧ Hid ((t = true ∧ J ((blkPairs xs).take k ++ [(x, px)]) W' ∧ Below n0 (wr.alloc (.cells (idL x).toArray 45)).drew W') ∨ (t = false ∧ Jx ((blkPairs xs).take k ++ [(x, px)]) W')))
        (fun e W' h => by
          rcases h with ⟨h1, h2, h3⟩ | ⟨h1, h2⟩
          · exact ⟨true, h1, Lib.hid (.inl ⟨rfl, h2, h3⟩)⟩
          · exact ⟨false, h1, Lib.hid (.inr ⟨rfl, h2⟩)⟩)
      have HRR := Lib.hid hR'
      clear hR'
      clear hR
      gi_wp2
      have mixed : Try.prog.follows .mixedOrders = true := by kernel_rfl
      gi_region_with_o (refine HRR.out.mono ?_; rintro e W3 ⟨t, rfl, hW3⟩)
      all_goals
        rcases hW3.out with ⟨rfl, hJ3, hk3⟩ | ⟨rfl, hJx3⟩
        · have hz3 := hk3.size
          have HJ3 := Lib.hid hJ3
          have HK3 := Lib.hid hk3
          clear hJ3 hk3 hW3 HRR hy
          gi_wp2
          go_roundw
          case rel => exact ⟨k + 1, by omega, by go_num, by rw [HTK.out]; exact HJ3, ((hb.alloc (by omega) _).drew).trans HK3.out, by simp at hz3; omega⟩
          case measure => simp [intOf]; omega
        · have HJ3 := Lib.hid hJx3
          clear hJx3 hW3 HRR hy
          gi_wp2
          refine bodyPost_ret (results_none rfl _ _ _) rfl ?_
          exact ⟨⟨_, rfl⟩, .inr ⟨_, by rw [← HTK.out]; exact List.take_prefix _ _, HJ3.out⟩⟩
    · have hk' : k = (blkIds xs).length := by omega
      have hjk := HJk.out
      rw [hk', ← HLP.out, List.take_length] at hjk
      have HJ4 := Lib.hid hjk
      clear hjk
      gi_wp2
      go_end0
      exact ⟨⟨_, rfl⟩, .inl ⟨_, rfl, HJ4.out⟩⟩
/-- what 'Blocks' hands back goes through these, in this order -/
theorem blocks_stops (n : Nat) (hn : 1 ≤ n) {w0 : World} {ib ub m : Nat} {v : Value} {xs : List FactD} (hB : BlkAt w0 ib ub m v xs) :
    SeqStopsK Fence.wide n Try.prog 47 #[.pointer (some ⟨ib, 0, none⟩), .pointer (some ⟨ub, 0, none⟩)] pairV (Below w0.heap.size) (fun ys => ys = blkPairs xs) (fun pre => pre <+: blkPairs xs) (blkPairs xs).length w0 :=
  fun l J Jx W hW hJ _ hY h0 => blocks_in n hn l ib ub m w0.heap.size v xs J Jx hY w0 W rfl hB hW hJ h0
end Go.Proofs.Ytmenfbfekfljbaa
