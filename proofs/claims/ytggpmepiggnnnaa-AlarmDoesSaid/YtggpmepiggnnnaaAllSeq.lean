import Derived.Test.YtggpmepiggnnnaaValues
namespace Go.Proofs.Ytggpmepiggnnnaa
open Go.RowKit Go.Shelf
attribute [local go_sem] Oper.semAt_some

set_option maxRecDepth 100000 in
theorem mkValues (w : World) (oa : Option Addr) (len cap : Nat) : Calls Try.prog 39 #[.slice oa len cap] w fun e w' => e = .returned (.func (.func 56) #[] #[.pointer (some ⟨w.heap.size, 0, none⟩)]) ∧ w' = w.alloc (.cells #[.slice oa len cap] 29) := by
  have hmf : ∀ (fn : Fn) (first cap : Array Value) (w : World), (Instr.makeFunc fn first cap).run Try.prog w = .ok (.func fn first cap) w := fun _ _ _ _ => rfl
  go_enter Try.func39, Try.ntmps39
  go_wp2
  go_ret
  exact ⟨rfl, rfl⟩
theorem eg56 : ∀ args w, (callFunc 56 args).run Try.prog w = .ok (.enter 56 args) w := enters_of Try.func56 (by kernel_rfl) rfl
def allFrame (l lb : Nat) (yb : Nat) (sl : Value) (vb : Nat) (x : Al) (c : Nat) : Act :=
  { tmps := #[.func (.yield l) #[] #[], .pointer (some ⟨lb, 0, none⟩), .pointer (some ⟨yb, 0, none⟩), .pointer (some ⟨c, 0, none⟩), sl, .func (.func 56) #[] #[.pointer (some ⟨vb, 0, none⟩)], alV x, undef, undef, undef, undef], defers := [] }
set_option maxRecDepth 100000 in
set_option maxHeartbeats 2000000 in
/-- All's iterator: a range over slices.Values of the row in the box lb -/
theorem all_seq (n : Nat) (hn : 4 ≤ n) {D : Nat → Prop} {w0 : World} (hD : ∀ k, D k → k < w0.heap.size) {lb : Nat} {v : Value} {xs : List Al} (hV : ValAt 29 2 alL D w0 lb v xs) : SeqG Fence.wide n Try.prog 41 #[.pointer (some ⟨lb, 0, none⟩)] (fun x : Al => #[alV x]) xs D w0 := by
  intro l J Jx W G0 hb hJo hJ hJx hY h0
  refine callsIn_of_wp_marks Try.func41 rfl trivial ?_ rfl
  simp only [Try.ntmps41, List.size_toArray, List.length_cons, List.length_nil, Nat.reduceAdd, Nat.reduceSub, Array.replicate_succ, Array.replicate_zero, List.push_toArray, List.append_toArray, List.nil_append, List.cons_append]
  have hVW := hV.agree hb
  have c0 : W.cell? ⟨lb, 0, none⟩ = some v := cell_at hVW.box 0
  have hlb := lt_of_obj hVW.box
  have hzW := hb.size
  have HG0 := Lib.hid (hJo _ _ _ h0)
  have HJO := Lib.hid hJo
  have HJ := Lib.hid hJ
  have HJX := Lib.hid hJx
  have HY := Lib.hid hY
  have HV := Lib.hid hVW
  have HB := Lib.hid hb
  have H0 := Lib.hid h0
  have HMK := fun W oa len cap => Lib.hid (mkValues W oa len cap)
  obtain ⟨oa, cap, rfl, _, _, _⟩ := hVW.sl
  clear hV hVW hJo hJ hJx hY h0 hb
  gi_wp2
  refine ⟨trivial, by first | omega | (intro _; omega), (callsIn_wide.2 (HMK _ _ _ _).out).mono ?_⟩
  rintro e w' ⟨rfl, rfl⟩
  gi_wp2
  have b2 : Below W.heap.size W ((W.alloc (.cells #[.func (.yield l) #[] #[]] 34)).alloc (.cells #[.slice oa xs.length cap] 29)) := ((Below.refl _ W).alloc (Nat.le_refl _) _).alloc (by simp) _
  have oy : obj ((W.alloc (.cells #[.func (.yield l) #[] #[]] 34)).alloc (.cells #[.slice oa xs.length cap] 29)) W.heap.size = some (.cells #[.func (.yield l) #[] #[]] 34 (0, 0)) := (obj_alloc_past _ _ _ (by simp)).trans (obj_alloc_at _ _ _ rfl)
  have ov : obj ((W.alloc (.cells #[.func (.yield l) #[] #[]] 34)).alloc (.cells #[.slice oa xs.length cap] 29)) (W.heap.size + 1) = some (.cells #[.slice oa xs.length cap] 29 (0, 0)) := obj_alloc_at _ _ _ (by simp)
  have hsz : ((W.alloc (.cells #[.func (.yield l) #[] #[]] 34)).alloc (.cells #[.slice oa xs.length cap] 29)).heap.size = W.heap.size + 2 := by simp
  generalize (W.alloc (.cells #[.func (.yield l) #[] #[]] 34)).alloc (.cells #[.slice oa xs.length cap] 29) = w2 at *
  have hV2 : ValAt 29 2 alL (fun k => D k ∨ k = W.heap.size + 1) w2 (W.heap.size + 1) (.slice oa xs.length cap) xs := by
    refine ⟨ov, HV.out.sl.below b2, .inr rfl, fun a l c e => .inl (HV.out.dv a l c e)⟩
  have hD2 : ∀ k, (D k ∨ k = W.heap.size + 1) → k < w2.heap.size := fun k hk => by
    rcases hk with hk | rfl
    · have := hD k hk; omega
    · omega
  refine wpIn_range_own rfl (by omega) (gf := 56) (lb := #[.pointer (some ⟨W.heap.size + 1, 0, none⟩)]) rfl trivial eg56 hD2 (values_seq (n - 1) (by omega) hD2 hV2) (Agree.refl _ _) (fun _ => rfl)
    (fun pre G W' => J pre G W' ∧ obj W' W.heap.size = some (.cells #[.func (.yield l) #[] #[]] 34 (0, 0)) ∧ ¬ G W.heap.size ∧ ¬ G (W.heap.size + 1) ∧ w2.heap.size ≤ W'.heap.size)
    (fun c pre G W' => c = .ret ∧ Jx pre G W') ?hIo ?hI ?hIx G0 ?h0
    (fun x a' W' => ∃ c, obj W' c = some (.cells #[.int .i64 x.1, .int .i64 x.2] 32 (0, 0)) ∧ a' = allFrame l lb W.heap.size (.slice oa xs.length cap) (W.heap.size + 1) x c)
    ?hAx ?assign ?body ?done ?stop
  case hIo =>
    rintro pre G W' ⟨hj, _, _, hn1, _⟩ k hk
    obtain ⟨h1, h2⟩ := HJO.out _ _ _ hj k hk
    exact ⟨fun h => by rcases h with h | rfl; exact h1 h; exact hn1 hk, h2⟩
  case hI =>
    rintro pre G W1 W' ⟨hj, hy, n1, n2, hz⟩ hk
    exact ⟨HJ.out _ _ _ _ hj (hk.mono fun k hk => ⟨by omega, hk.2⟩), (hk.block _ (lt_of_obj hy) (fun h => by omega)).trans hy, n1, n2, Nat.le_trans hz hk.size⟩
  case hIx =>
    rintro c pre G W1 W' ⟨rfl, hj⟩ hk
    exact ⟨rfl, HJX.out _ _ _ _ hj (hk.mono fun k hk => ⟨by omega, hk.2⟩)⟩
  case h0 =>
    exact ⟨HJ.out _ _ _ _ H0.out (Keeps.of_below b2), oy, fun h => by have := (HG0.out _ h).2; omega, fun h => by have := (HG0.out _ h).2; omega, Nat.le_refl _⟩
  case hAx =>
    rintro x a' W r o o' ⟨c, h1, h2⟩ ho hc
    exact ⟨c, ax_put h1 ho hc, h2⟩
  case assign =>
    rintro l' pre G ⟨x1, x2⟩ W' K _ hK
    have HK := Lib.hid hK
    clear hK
    gi_wp2
    exact HK.out _ _ ((Below.refl _ W').alloc (Nat.le_refl _) _) ⟨W'.heap.size, obj_alloc_at _ _ _ rfl, rfl⟩
  case body =>
    rintro l' pre G ⟨x1, x2⟩ a' W' hl hlw hnl ⟨hj, hy, n1, n2, hz⟩ ⟨c, hc, rfl⟩ hpre
    have hcz := lt_of_obj hc
    have cy : W'.cell? ⟨W.heap.size, 0, none⟩ = some (.func (.yield l) #[] #[]) := cell_at hy 0
    obtain ⟨fn, tmps, assign, body, hyy, hR⟩ := HY.out pre G (x1, x2) W' hj hpre
    simp only [alV] at hyy
    have HRR := Lib.hid hR
    have HYY := Lib.hid hy
    have HJJ := Lib.hid (HJO.out _ _ _ hj)
    clear hR hy hj
    simp only [allFrame, alV]
    gi_wp2
    refine ⟨fun _ => by omega, RoundIn.mono (F := Fence.wide.inRound l') (RoundIn.wide HRR.out) ?_⟩
    rintro e W3 ⟨G', t, rfl, hW3, hk3, hg3⟩
    have HK3 := Lib.hid hk3
    have HG3 := Lib.hid hg3
    have H3 := Lib.hid hW3
    have hz3 := hk3.size
    have hyz := lt_of_obj HYY.out
    have m1 : ¬ G' W.heap.size := fun h => by
      rcases hg3 _ h with h | h
      · exact n1 h
      · omega
    have m2 : ¬ G' (W.heap.size + 1) := fun h => by
      rcases hg3 _ h with h | h
      · exact n2 h
      · omega
    have oy3 := Lib.hid ((hk3.block _ hyz n1).trans HYY.out)
    clear hk3 hg3 hW3 HRR hyy
    cases t
    · have HX3 : Hid (Jx (pre ++ [(x1, x2)]) G' W3) := Lib.hid (by
        rcases H3.out with ⟨h, _⟩ | ⟨_, h⟩
        · cases h
        · exact h)
      gi_wp2
      exact ⟨G', ⟨rfl, HX3.out⟩, HK3.out, HG3.out⟩
    · have HJ3 : Hid (J (pre ++ [(x1, x2)]) G' W3) := Lib.hid (by
        rcases H3.out with ⟨_, h⟩ | ⟨h, _⟩
        · exact h
        · cases h)
      gi_wp2
      exact ⟨G', ⟨HJ3.out, oy3.out, m1, m2, by omega⟩, HK3.out, HG3.out⟩
  case done =>
    rintro d G W' hd hnd ⟨hj, hy, n1, n2, hz⟩ hk hg hK
    have HK := Lib.hid hk
    have HG := Lib.hid hg
    have HJ4 := Lib.hid hj
    have HJO4 := Lib.hid (HJO.out _ _ _ hj)
    clear hk hg hj
    gi_wp2
    refine ⟨by simp, .inl ⟨_, _, rfl, run_takeDeferred hK, ?_⟩⟩
    exact ⟨_, results_none rfl _ _ _, endG_put HJ.out HJX.out (by omega) (by omega) hnd (.inl HJ4.out) b2 HK.out HG.out _⟩
  case stop =>
    rintro d c pre G W' hd hnd hpre ⟨rfl, hj⟩ hk hg hK
    have HK := Lib.hid hk
    have HG := Lib.hid hg
    have HJ4 := Lib.hid hj
    clear hk hg hj
    gi_wp2
    refine ⟨by simp, .inl ⟨_, _, rfl, run_takeDeferred hK, ?_⟩⟩
    exact ⟨_, results_none rfl _ _ _, endG_put HJ.out HJX.out (by omega) (by omega) hnd (.inr ⟨pre, hpre, HJ4.out⟩) b2 HK.out HG.out _⟩
end Go.Proofs.Ytggpmepiggnnnaa
