import Derived.Test.YtggpmepiggnnnaaSpec
namespace Go.Proofs.Ytggpmepiggnnnaa
open Go.RowKit

theorem pred_wrap {j : Nat} (h : 0 < j) (h2 : j ≤ 1000000) : IntKind.i64.wrap ((j : Int) - 1) = (j : Int) - 1 := by
  simp [IntKind.wrap, IntKind.signed, IntKind.bits]; omega
theorem half_pred {j : Nat} (h : 0 < j) : ((j : Int) - 1).tdiv 2 = (((j - 1) / 2 : Nat) : Int) := by
  rw [Int.tdiv_eq_ediv_of_nonneg (by omega)]; omega
set_option maxRecDepth 100000 in
set_option maxHeartbeats 1000000 in
theorem rise_any (w : World) (F : Nat → Prop) (hb m : Nat) (sv : Value) (L : List Al) (M : List (Int × Int)) (i : Nat) (h : RawAt w F hb m sv L M) (hs : Spec L M) (hi : i < L.length) (hlen : L.length ≤ 100000) :
    Calls Try.prog 34 #[.pointer (some ⟨hb, 0, none⟩), .int .i64 i] w fun e w' => (∃ v, e = .returned v) ∧
      (∃ M', RawAt w' F hb m sv (rise L i) M' ∧ Spec (rise L i) M') ∧ Keeps F w w' := by
  have HR := Lib.hid h
  have HS := Lib.hid hs
  obtain ⟨oa, cap, rfl, q1, q2, q3⟩ := row_sub h.row
  obtain ⟨g, cur, rfl, _⟩ := q3 (by omega)
  unfold maxLen at q2
  clear h hs q3
  go_enter Try.func34, Try.ntmps34
  go_wp2
  go_loopw [1] (fun v1 wr => ∃ (j n : Nat) (L' : List Al) (M' : List (Int × Int)), j < n ∧ j < L'.length ∧ L'.length = L.length ∧ v1 = .int .i64 j ∧ Hid (riseF n L' j = rise L i) ∧ Hid (RawAt wr F hb m (.slice (some ⟨g, 0, none⟩) L.length cap) L' M') ∧ Hid (Spec L' M') ∧ Keeps F w wr) (fun v _ => (intOf v).toNat)
  case atStart => exact ⟨i, i + 1, L, M, by omega, hi, rfl, rfl, Lib.hid rfl, HR, HS, Keeps.refl _ _⟩
  case round =>
    obtain ⟨j, n, L', M', hn, hj, hll, rfl, HE, HR', HS', hk⟩ := hrel
    obtain ⟨n, rfl⟩ : ∃ n', n = n' + 1 := ⟨n - 1, by omega⟩
    by_cases h0 : j = 0
    · subst h0
      have he := HE.out
      unfold riseF at he
      rw [if_pos rfl] at he
      have HE' := Lib.hid he
      clear he
      go_wp2
      go_end0
      exact ⟨⟨_, rfl⟩, ⟨M', by rw [← HE'.out]; exact HR'.out, by rw [← HE'.out]; exact HS'.out⟩, hk⟩
    · have hu : (j - 1) / 2 < L'.length := by omega
      obtain ⟨_, _, e', p1, p2, p3⟩ := row_sub HR'.out.row
      simp only [Value.slice.injEq] at e'
      obtain ⟨rfl, _, rfl⟩ := e'
      obtain ⟨_, cur', e2, _, _, hg, hcs, htk⟩ := p3 (by omega)
      simp only [Option.some.injEq, Addr.mk.injEq, and_true] at e2
      subst e2
      have s1 := row_get htk hcs p1 hj
      have s2 := row_get htk hcs p1 hu
      rw [← hg] at s1 s2
      have hgz := lt_of_obj hg
      have hbz := lt_of_obj HR'.out.box
      have c0 : wr.cell? ⟨hb, 0, none⟩ = some (.slice (some ⟨g, 0, none⟩) L.length cap) := cell_at HR'.out.box 0
      have hjp : (0 : Int) < j := by omega
      have hw1 := pred_wrap (j := j) (by omega) (by omega)
      have hq := half_pred (j := j) (by omega)
      have he := HE.out
      unfold riseF at he
      rw [if_neg h0] at he
      have HSW := Lib.hid (fun W (hr : RawAt W F hb m (.slice (some ⟨g, 0, none⟩) L.length cap) L' M') => swap_any W F hb m _ L' M' j ((j - 1) / 2) hr hj hu)
      have HSP := Lib.hid (HS'.out.swap hj hu)
      rw [at'_eq hj, at'_eq hu] at he
      have huj : (j - 1) / 2 < j := by omega
      generalize (j - 1) / 2 = u at *
      generalize L'[j] = x at *
      generalize L'[u] = y at *
      have HL := Lib.hid fun v : Later wr => Calls.later (x := v) (less_any v.w x y)
      have HE' := Lib.hid he
      generalize alLt x y = c at *
      obtain ⟨x1, x2⟩ := x
      obtain ⟨y1, y2⟩ := y
      clear p3 htk hcs he HE hg
      have hjL : j < L.length := by omega
      have huL : u < L.length := by omega
      have HN := Lib.hid hn
      have HU := Lib.hid (And.intro huj (And.intro hll hu))
      clear hj hu p1 q1 hi
      go_wp2
      clear hw1 hq hjp huj hll hn h0
      refine wp_region_later wr (Below.refl _ _) (by kernel_rfl) (by kernel_rfl) ?_
      repeat (go_big_quiet_step ((go_at_call 52; with_reducible exact HL.out _)))
      refine wpQuiet_nil ?_
      rintro w2 ⟨v, rfl⟩
      have b2 := v.h
      have hk2 := hk.trans (Keeps.of_below b2)
      have R2 := Lib.hid (HR'.out.below b2)
      generalize v.w = w2 at *
      cases c
      · have hee := Lib.hid (show L' = rise L i from HE'.out)
        go_wp2
        refine bodyPost_ret (results_none rfl _ _ _) rfl ?_
        exact ⟨⟨_, rfl⟩, ⟨M', by rw [← hee.out]; exact R2.out, by rw [← hee.out]; exact HS'.out⟩, hk2⟩
      · have hee := Lib.hid (show riseF n (swapL L' j u) u = rise L i from HE'.out)
        go_wp2_with fail
        refine (HSW.out w2 R2.out).mono ?_
        rintro e w3 ⟨⟨v3, rfl⟩, r3, k3⟩
        have R3 := Lib.hid r3
        have K3 := hk2.trans k3
        clear r3 k3
        go_wp2
        go_roundw
        case rel => exact ⟨u, n, swapL L' j u, _, by have := HU.out; have := HN.out; omega, by simpa using HU.out.2.2, by simpa using HU.out.2.1, rfl, hee, R3, HSP, K3⟩
        case measure => have := HU.out; simp [intOf]; omega
end Go.Proofs.Ytggpmepiggnnnaa
