import Derived.Test.YtggpmepiggnnnaaLeast
namespace Go.Proofs.Ytggpmepiggnnnaa
open Go.RowKit

theorem wrap_small {x : Int} (h0 : 0 ≤ x) (h1 : x ≤ 1000000) : IntKind.i64.wrap x = x := by
  simp [IntKind.wrap, IntKind.signed, IntKind.bits]; omega
theorem run_row3 (a b c : Int) (w : World) : (Instr.buildSlice 106 3 #[(0, .int .i64 a), (1, .int .i64 b), (2, .int .i64 c)]).run Try.prog w = .ok (.slice (some ⟨w.heap.size, 0, none⟩) 3 3) (w.alloc (.cells #[.int .i64 a, .int .i64 b, .int .i64 c] 3)) := by kernel_rfl
set_option maxRecDepth 100000 in
set_option maxHeartbeats 1000000 in
theorem sink_any (w : World) (F : Nat → Prop) (hb m : Nat) (sv : Value) (L : List Al) (M : List (Int × Int)) (i : Nat) (h : RawAt w F hb m sv L M) (hs : Spec L M) (hi : i < L.length) (hlen : L.length ≤ 100000) :
    Calls Try.prog 57 #[.pointer (some ⟨hb, 0, none⟩), .int .i64 i] w fun e w' => (∃ v, e = .returned v) ∧
      (∃ M', RawAt w' F hb m sv (sink L i) M' ∧ Spec (sink L i) M') ∧ Keeps F w w' := by
  have HR := Lib.hid h
  have HS := Lib.hid hs
  clear h hs
  go_enter Try.func57, Try.ntmps57
  go_wp2
  go_loopw [1] (fun v1 wr => ∃ (j n : Nat) (L' : List Al) (M' : List (Int × Int)), Hid (L'.length ≤ n + j) ∧ Hid (j < L'.length) ∧ Hid (L'.length = L.length) ∧ v1 = .int .i64 j ∧ Hid (sinkF n L' j = sink L i) ∧ Hid (RawAt wr F hb m sv L' M') ∧ Hid (Spec L' M') ∧ Keeps F w wr) (fun v _ => L.length - (intOf v).toNat)
  case atStart => exact ⟨i, L.length + 1, L, M, Lib.hid (by omega), Lib.hid hi, Lib.hid rfl, rfl, Lib.hid rfl, HR, HS, Keeps.refl _ _⟩
  case round =>
    obtain ⟨j, n, L', M', HN, HJ, HLL, rfl, HE, HR', HS', hk⟩ := hrel
    obtain ⟨n, rfl⟩ : ∃ n', n = n' + 1 := ⟨n - 1, by have := HN.out; have := HJ.out; omega⟩
    have hbz := HR'.out.lt.1
    have c0 : wr.cell? ⟨hb, 0, none⟩ = some sv := cell_at HR'.out.box 0
    have hjs : (j : Int) ≤ 100000 := by have := HJ.out; have := HLL.out; omega
    have w1 : IntKind.i64.wrap (2 * (j : Int)) = 2 * (j : Int) := wrap_small (by omega) (by omega)
    have w2 : IntKind.i64.wrap (2 * (j : Int) + 1) = 2 * (j : Int) + 1 := wrap_small (by omega) (by omega)
    have w3 : IntKind.i64.wrap (2 * (j : Int) + 2) = 2 * (j : Int) + 2 := wrap_small (by omega) (by omega)
    have hr3 := run_row3
    have b1 : Below wr.heap.size wr (wr.alloc (.cells #[.int .i64 j, .int .i64 (2 * j + 1 : Nat), .int .i64 (2 * j + 2 : Nat)] 3)) := (Below.refl _ wr).alloc (Nat.le_refl _) _
    have R1 := Lib.hid (HR'.out.below b1)
    have HLT := Lib.hid (least_any _ sv L' wr.heap.size j R1.out.row HJ.out (by have := HLL.out; omega) (obj_alloc_at _ _ _ rfl))
    push_cast at HLT
    go_wp2_with fail
    refine HLT.out.mono ?_
    rintro e w2' ⟨rfl, h2⟩
    have b2 := b1.trans (h2.mono b1.size)
    have R2 := Lib.hid (HR'.out.below b2)
    have hk2 := hk.trans (Keeps.of_below b2)
    have he := HE.out
    unfold sinkF at he
    have HG := Lib.hid (leastF_ge L' j)
    have HLL2 := Lib.hid (leastF_lt HJ.out)
    have HSW := Lib.hid (fun hq => swap_any w2' F hb m sv L' M' j (leastF L' j) R2.out HJ.out hq)
    have HSP := Lib.hid (fun hq => HS'.out.swap (k := leastF L' j) HJ.out hq)
    generalize leastF L' j = q at *
    have HE' := Lib.hid he
    clear he HE b1 h2 HLT w1 w2 w3 hr3 c0 hjs hbz
    by_cases hq : q = j
    · subst hq
      have hee := Lib.hid (show L' = sink L i from by have := HE'.out; rwa [if_pos rfl] at this)
      go_wp2
      refine bodyPost_ret (results_none rfl _ _ _) rfl ?_
      exact ⟨⟨_, rfl⟩, ⟨M', by rw [← hee.out]; exact R2.out, by rw [← hee.out]; exact HS'.out⟩, hk2⟩
    · have hqi : ¬ (q : Int) = (j : Int) := by omega
      have hee := Lib.hid (show sinkF n (swapL L' j q) q = sink L i from by have := HE'.out; rwa [if_neg hq] at this)
      have HQ := Lib.hid (show j < q from by have := HG.out; omega)
      clear hq
      go_wp2_with fail
      refine (HSW.out HLL2.out).mono ?_
      rintro e w3 ⟨⟨v3, rfl⟩, r3, k3⟩
      have R3 := Lib.hid r3
      have K3 := hk2.trans k3
      clear r3 k3
      go_wp2
      go_roundw
      case rel => exact ⟨q, n, swapL L' j q, _, Lib.hid (by have := HN.out; have := HQ.out; simp; omega), Lib.hid (by simpa using HLL2.out), Lib.hid (by simpa using HLL.out), rfl, hee, R3, Lib.hid (HSP.out HLL2.out), K3⟩
      case measure => have := HQ.out; have := HLL2.out; have := HLL.out; simp [intOf]; omega
end Go.Proofs.Ytggpmepiggnnnaa
