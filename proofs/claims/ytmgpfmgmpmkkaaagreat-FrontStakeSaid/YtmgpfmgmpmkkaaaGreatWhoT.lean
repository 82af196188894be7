import Derived.Test.YtmgpfmgmpmkkaaaGreatRange
import Derived.Test.YtmgpfmgmpmkkaaaGreatFrM
import Derived.RangeFuncBox
import Derived.Test.YtmgpfmgmpmkkaaaGreatActs
import Derived.Test.YtmgpfmgmpmkkaaaGreatStke
namespace Go.Proofs.YtmgpfmgmpmkkaaaGreat
open Go.RowKit Go.Shelf
attribute [local go_sem] Oper.semAt_some


theorem eg78 : ∀ args w, (callFunc 78 args).run Tryz.prog w = .ok (.enter 78 args) w := enters_of Tryz.func78 (by kernel_rfl) rfl
set_option maxRecDepth 100000 in
set_option maxHeartbeats 2000000 in
/-- All's iterator: the slice's box lies at Bs -/
theorem values_seq (n : Nat) (hn : 1 ≤ n) {D : Nat → Prop} {w0 : World} (hD : ∀ k, D k → k < w0.heap.size) {Bs : Nat} {v : Value} {xs : List Int} (hV : ValAt 23 1 intL D w0 Bs v xs) : SeqG Fence.wide n Tryz.prog 78 #[.pointer (some ⟨Bs, 0, none⟩)] (fun x : Int => #[.int .i64 x]) xs D w0 := by
  intro l J Jx W G0 hb hJo hJ hJx hY h0
  refine callsIn_of_wp Tryz.func78 rfl trivial ?_ rfl
  simp only [Tryz.ntmps78, List.size_toArray, List.length_cons, List.length_nil, Nat.reduceAdd, Nat.reduceSub, Array.replicate_succ, Array.replicate_zero, List.push_toArray, List.append_toArray, List.nil_append, List.cons_append]
  have hVW := hV.agree hb
  have c0 : W.cell? ⟨Bs, 0, none⟩ = some v := cell_at hVW.box 0
  obtain ⟨oa, cap, rfl, q1, q2, q3⟩ := hVW.sl
  unfold maxLen at q2
  have hG0 := Lib.hid (hJo _ _ _ h0)
  have HJO := Lib.hid hJo
  have HJ := Lib.hid hJ
  have HY := Lib.hid hY
  have HV := Lib.hid hV
  have HB := Lib.hid hb
  have H0 := Lib.hid h0
  clear q3 hVW hV hJo hJ hJx hY h0 hb
  gi_wp2
  gi_loopw [7] (fun v7 wr => ∃ k : Nat, k ≤ xs.length ∧ v7 = .int .i64 k ∧ Hid (∃ G, J (xs.take k) G wr ∧ Keeps G0 W wr ∧ GrowsG W G0 G)) (fun i _ => xs.length - (intOf i).toNat)
  case atStart => exact ⟨0, Nat.zero_le _, rfl, Lib.hid ⟨G0, H0.out, Keeps.refl _ _, GrowsG.refl _ _⟩⟩
  case round =>
    obtain ⟨k, hk, rfl, HK⟩ := hrel
    obtain ⟨G, hJk, hkp, hgr⟩ := HK.out
    have hbr := HB.out.keeps hD (fun k hk => (hG0.out k hk).1) hkp
    have hVr := HV.out.agree hbr
    by_cases hlt : k < xs.length
    · obtain ⟨oa', cap', e', _, _, q3'⟩ := hVr.sl
      simp only [Value.slice.injEq] at e'
      obtain ⟨rfl, _, rfl⟩ := e'
      obtain ⟨b, off, hoa, hbb, hrow⟩ := q3' (by omega)
      subst hoa
      have hs1 := hrow k hlt
      have HTS := Lib.hid (take_snocA hlt)
      have HPX : Hid (xs.take k ++ [xs[k]] <+: xs) := Lib.hid (by rw [← take_snocA hlt]; exact List.take_prefix _ _)
      generalize xs[k] = x at *
      have cx : wr.cell? ⟨b, off + k, none⟩ = some (.int .i64 x) := by have := subOf_cell hs1 (j := 0) (by decide); simpa [intL] using this
      have hJa := HJ.out _ _ _ _ hJk (Keeps.refl _ _)
      obtain ⟨fn, tmps, assign, body, hy, hR⟩ := HY.out _ G x _ hJa HPX.out
      have HRR := Lib.hid hR
      have HKP := Lib.hid hkp
      have HGR := Lib.hid hgr
      have hzw : W.heap.size ≤ wr.heap.size := hkp.size
      have HJO2 := Lib.hid (HJO.out _ _ _ hJk)
      clear hrow hJk hkp hgr hbr hVr q3' hJa hR hs1
      gi_wp2
      refine HRR.out.mono ?_
      rintro e W3 ⟨G', t, rfl, hW3, hk3, hg3⟩
      have HG3 := Lib.hid hg3
      have HK3 := Lib.hid hk3
      have H3 := Lib.hid hW3
      clear hg3 hk3 hW3 HRR hy
      have fin : Hid (Keeps G0 W W3 ∧ GrowsG W G0 G') := Lib.hid (by
        have hs3 := HK3.out.size
        have hk0 := HKP.out
        have hk3 := HK3.out
        refine ⟨?_, fun k hk => ?_⟩
        · refine ⟨hk3.os.trans hk0.os, hk3.tape.trans hk0.tape, hk3.output.trans hk0.output, Nat.le_trans hk0.size (by omega), fun j hj hg => ?_⟩
          refine (hk3.block j (by omega) (fun h => ?_)).trans (hk0.block j hj hg)
          rcases HGR.out j h with h | h
          · exact hg h
          · omega
        · rcases HG3.out k hk with h | h
          · exact HGR.out k h
          · exact .inr (by omega))
      cases t
      · gi_wp2
        go_end0
        refine ⟨⟨_, rfl⟩, G', .inr ⟨_, HPX.out, ?_⟩, fin.out.1, fin.out.2⟩
        rcases H3.out with ⟨h, _⟩ | ⟨_, h⟩
        · cases h
        · exact h
      · have HJ3 : Hid (J (xs.take (k + 1)) G' W3) := Lib.hid (by
          rw [HTS.out]
          rcases H3.out with ⟨_, h⟩ | ⟨h, _⟩
          · exact h
          · cases h)
        gi_wp2
        go_roundw
        case rel => exact ⟨k + 1, by omega, by go_num, Lib.hid ⟨G', HJ3.out, fin.out.1, fin.out.2⟩⟩
        case measure => simp [intOf]; omega
    · have hk' : k = xs.length := by omega
      rw [hk', List.take_length] at hJk
      have HJ4 := Lib.hid hJk
      have HKP := Lib.hid hkp
      have HGR := Lib.hid hgr
      clear hJk hkp hgr hbr hVr
      gi_wp2
      go_end0
      exact ⟨⟨_, rfl⟩, G, .inl HJ4.out, HKP.out, HGR.out⟩


set_option maxRecDepth 100000 in
theorem mkValues (w : World) (oa : Option Addr) (len cap : Nat) : Calls Tryz.prog 61 #[.slice oa len cap] w fun e w' => e = .returned (.func (.func 78) #[] #[.pointer (some ⟨w.heap.size, 0, none⟩)]) ∧ w' = w.alloc (.cells #[.slice oa len cap] 23) := by
  have hmf : ∀ (fn : Fn) (first cap : Array Value) (w : World), (Instr.makeFunc fn first cap).run Tryz.prog w = .ok (.func fn first cap) w := fun _ _ _ _ => rfl
  go_enter Tryz.func61, Tryz.ntmps61
  go_wp2
  go_ret
  exact ⟨rfl, rfl⟩
def whoFrame (l lb : Nat) (yb : Nat) (sl : Value) (vb : Nat) (x : Int) : Act :=
  { tmps := #[.func (.yield l) #[] #[], .pointer (some ⟨lb, 0, none⟩), .pointer (some ⟨yb, 0, none⟩), .int .i64 x, sl, .func (.func 78) #[] #[.pointer (some ⟨vb, 0, none⟩)], .int .i64 x, undef, undef, undef, undef], defers := [] }
set_option maxRecDepth 100000 in
set_option maxHeartbeats 2000000 in
/-- All's iterator: a range over slices.Values of the row in the box lb -/
theorem who_seq (n : Nat) (hn : 4 ≤ n) {D : Nat → Prop} {w0 : World} (hD : ∀ k, D k → k < w0.heap.size) {lb : Nat} {v : Value} {xs : List Int} (hV : ValAt 23 1 intL D w0 lb v xs) : SeqG Fence.wide n Tryz.prog 60 #[.pointer (some ⟨lb, 0, none⟩)] (fun x : Int => #[.int .i64 x]) xs D w0 := by
  intro l J Jx W G0 hb hJo hJ hJx hY h0
  refine callsIn_of_wp_marks Tryz.func60 rfl trivial ?_ rfl
  simp only [Tryz.ntmps60, List.size_toArray, List.length_cons, List.length_nil, Nat.reduceAdd, Nat.reduceSub, Array.replicate_succ, Array.replicate_zero, List.push_toArray, List.append_toArray, List.nil_append, List.cons_append]
  have hVW := hV.agree hb
  have c0 : W.cell? ⟨lb, 0, none⟩ = some v := cell_at hVW.box 0
  have hlb := lt_of_obj hVW.box
  have hzW := hb.size
  have HG0 := Lib.hid (hJo _ _ _ h0)
  have HJO := Lib.hid hJo
  have HJ := Lib.hid hJ
  have HJX := Lib.hid hJx
  have HY := Lib.hid hY
  have HV := Lib.hid hVW
  have HB := Lib.hid hb
  have H0 := Lib.hid h0
  have HMK := fun W oa len cap => Lib.hid (mkValues W oa len cap)
  obtain ⟨oa, cap, rfl, _, _, _⟩ := hVW.sl
  clear hV hVW hJo hJ hJx hY h0 hb
  gi_wp2
  refine ⟨trivial, by first | omega | (intro _; omega), (callsIn_wide.2 (HMK _ _ _ _).out).mono ?_⟩
  rintro e w' ⟨rfl, rfl⟩
  gi_wp2
  have b2 : Below W.heap.size W ((W.alloc (.cells #[.func (.yield l) #[] #[]] 89)).alloc (.cells #[.slice oa xs.length cap] 23)) := ((Below.refl _ W).alloc (Nat.le_refl _) _).alloc (by simp) _
  have oy : obj ((W.alloc (.cells #[.func (.yield l) #[] #[]] 89)).alloc (.cells #[.slice oa xs.length cap] 23)) W.heap.size = some (.cells #[.func (.yield l) #[] #[]] 89 (0, 0)) := (obj_alloc_past _ _ _ (by simp)).trans (obj_alloc_at _ _ _ rfl)
  have ov : obj ((W.alloc (.cells #[.func (.yield l) #[] #[]] 89)).alloc (.cells #[.slice oa xs.length cap] 23)) (W.heap.size + 1) = some (.cells #[.slice oa xs.length cap] 23 (0, 0)) := obj_alloc_at _ _ _ (by simp)
  have hsz : ((W.alloc (.cells #[.func (.yield l) #[] #[]] 89)).alloc (.cells #[.slice oa xs.length cap] 23)).heap.size = W.heap.size + 2 := by simp
  generalize (W.alloc (.cells #[.func (.yield l) #[] #[]] 89)).alloc (.cells #[.slice oa xs.length cap] 23) = w2 at *
  have hV2 : ValAt 23 1 intL (fun k => D k ∨ k = W.heap.size + 1) w2 (W.heap.size + 1) (.slice oa xs.length cap) xs := by
    refine ⟨ov, HV.out.sl.below b2, .inr rfl, fun a l c e => .inl (HV.out.dv a l c e)⟩
  have hD2 : ∀ k, (D k ∨ k = W.heap.size + 1) → k < w2.heap.size := fun k hk => by
    rcases hk with hk | rfl
    · have := hD k hk; omega
    · omega
  refine wpIn_range_own rfl (by omega) (gf := 78) (lb := #[.pointer (some ⟨W.heap.size + 1, 0, none⟩)]) rfl trivial eg78 hD2 (values_seq (n - 1) (by omega) hD2 hV2) (Agree.refl _ _) (fun _ => rfl)
    (fun pre G W' => J pre G W' ∧ obj W' W.heap.size = some (.cells #[.func (.yield l) #[] #[]] 89 (0, 0)) ∧ ¬ G W.heap.size ∧ ¬ G (W.heap.size + 1) ∧ w2.heap.size ≤ W'.heap.size)
    (fun c pre G W' => c = .ret ∧ Jx pre G W') ?hIo ?hI ?hIx G0 ?h0
    (fun x a' W' => a' = whoFrame l lb W.heap.size (.slice oa xs.length cap) (W.heap.size + 1) x)
    ?hAx ?assign ?body ?done ?stop
  case hIo =>
    rintro pre G W' ⟨hj, _, _, hn1, _⟩ k hk
    obtain ⟨h1, h2⟩ := HJO.out _ _ _ hj k hk
    exact ⟨fun h => by rcases h with h | rfl; exact h1 h; exact hn1 hk, h2⟩
  case hI =>
    rintro pre G W1 W' ⟨hj, hy, n1, n2, hz⟩ hk
    exact ⟨HJ.out _ _ _ _ hj (hk.mono fun k hk => ⟨by omega, hk.2⟩), (hk.block _ (lt_of_obj hy) (fun h => by omega)).trans hy, n1, n2, Nat.le_trans hz hk.size⟩
  case hIx =>
    rintro c pre G W1 W' ⟨rfl, hj⟩ hk
    exact ⟨rfl, HJX.out _ _ _ _ hj (hk.mono fun k hk => ⟨by omega, hk.2⟩)⟩
  case h0 =>
    exact ⟨HJ.out _ _ _ _ H0.out (Keeps.of_below b2), oy, fun h => by have := (HG0.out _ h).2; omega, fun h => by have := (HG0.out _ h).2; omega, Nat.le_refl _⟩
  case hAx =>
    rintro x a' W r o o' h _ _
    exact h
  case assign =>
    rintro l' pre G x W' K _ hK
    have HK := Lib.hid hK
    clear hK
    gi_wp2
    exact HK.out _ _ (Below.refl _ W') rfl
  case body =>
    rintro l' pre G x a' W' hl hlw hnl ⟨hj, hy, n1, n2, hz⟩ rfl hpre
    have cy : W'.cell? ⟨W.heap.size, 0, none⟩ = some (.func (.yield l) #[] #[]) := cell_at hy 0
    obtain ⟨fn, tmps, assign, body, hyy, hR⟩ := HY.out pre G x W' hj hpre
    have HRR := Lib.hid hR
    have HYY := Lib.hid hy
    have HJJ := Lib.hid (HJO.out _ _ _ hj)
    clear hR hy hj
    simp only [whoFrame]
    gi_wp2
    refine ⟨fun _ => by omega, RoundIn.mono (F := Fence.wide.inRound l') (RoundIn.wide HRR.out) ?_⟩
    rintro e W3 ⟨G', t, rfl, hW3, hk3, hg3⟩
    have HK3 := Lib.hid hk3
    have HG3 := Lib.hid hg3
    have H3 := Lib.hid hW3
    have hz3 := hk3.size
    have hyz := lt_of_obj HYY.out
    have m1 : ¬ G' W.heap.size := fun h => by
      rcases hg3 _ h with h | h
      · exact n1 h
      · omega
    have m2 : ¬ G' (W.heap.size + 1) := fun h => by
      rcases hg3 _ h with h | h
      · exact n2 h
      · omega
    have oy3 := Lib.hid ((hk3.block _ hyz n1).trans HYY.out)
    clear hk3 hg3 hW3 HRR hyy
    cases t
    · have HX3 : Hid (Jx (pre ++ [x]) G' W3) := Lib.hid (by
        rcases H3.out with ⟨h, _⟩ | ⟨_, h⟩
        · cases h
        · exact h)
      gi_wp2
      exact ⟨G', ⟨rfl, HX3.out⟩, HK3.out, HG3.out⟩
    · have HJ3 : Hid (J (pre ++ [x]) G' W3) := Lib.hid (by
        rcases H3.out with ⟨_, h⟩ | ⟨h, _⟩
        · exact h
        · cases h)
      gi_wp2
      exact ⟨G', ⟨HJ3.out, oy3.out, m1, m2, by omega⟩, HK3.out, HG3.out⟩
  case done =>
    rintro d G W' hd hnd ⟨hj, hy, n1, n2, hz⟩ hk hg hK
    have HK := Lib.hid hk
    have HG := Lib.hid hg
    have HJ4 := Lib.hid hj
    have HJO4 := Lib.hid (HJO.out _ _ _ hj)
    clear hk hg hj
    gi_wp2
    refine ⟨by simp, .inl ⟨_, _, rfl, run_takeDeferred hK, ?_⟩⟩
    exact ⟨_, results_none rfl _ _ _, endG_put HJ.out HJX.out (by omega) (by omega) hnd (.inl HJ4.out) b2 HK.out HG.out _⟩
  case stop =>
    rintro d c pre G W' hd hnd hpre ⟨rfl, hj⟩ hk hg hK
    have HK := Lib.hid hk
    have HG := Lib.hid hg
    have HJ4 := Lib.hid hj
    clear hk hg hj
    gi_wp2
    refine ⟨by simp, .inl ⟨_, _, rfl, run_takeDeferred hK, ?_⟩⟩
    exact ⟨_, results_none rfl _ _ _, endG_put HJ.out HJX.out (by omega) (by omega) hnd (.inr ⟨pre, hpre, HJ4.out⟩) b2 HK.out HG.out _⟩
theorem info3t : (Tryz.prog.info? 3).map (fun i => (i.zero, i.size, i.bytes)) = some (some (.int .i64 0), 1, 8) := by kernel_rfl
theorem hide_row23n (n : Int) (w : World) : (Instr.buildSlice 23 1 #[(0, .int .i64 n)]).run Tryz.prog w = .ok (.slice (some ⟨w.heap.size, 0, none⟩) 1 1) (w.alloc (.cells #[.int .i64 n] 3)) := by kernel_rfl


theorem run_eqlFuncNil (w : World) (f : Fn) (x y : Array Value) : (binOp .eql 63 (.func f x y) .nilFunc).run Tryz.prog w = .ok (.bool false) w := by
  have h : ∀ d : Nat, (Op.equalIn (d + 1) 63 (.func f x y) .nilFunc).run Tryz.prog w = .ok false w := fun d => by
    simp [Op.equalIn, run_underlying Tryz.underlying63]
  simp only [binOp]
  simp [Op.equal, Op.maxDepth, h 9999]
theorem OwnS.rebaseT {α : Type} {w : World} {base base' E k : Nat} {enc : α → List Value} {v : Value} {xs : List α} (h : OwnS w base' E k enc v xs) (hb : base ≤ base') : OwnS w base E k enc v xs :=
  ⟨⟨h.1.1, by
    rcases h.1.2 with h1 | ⟨g', c', cur, e, hb', h1⟩
    · exact .inl h1
    · exact .inr ⟨g', c', cur, e, Nat.le_trans hb hb', h1⟩⟩, h.2⟩
def toldFrame (most : Int) (wb : Nat) (sq : Value) (x : Int) : Act :=
  { tmps := #[sq, .int .i64 most, undef, .pointer (some ⟨wb, 0, none⟩), .slice none 0 0, .pointer (some ⟨wb + 1, 0, none⟩), .int .i64 x, sq, .bool false, sq, .int .i64 x, undef, undef, undef, undef, undef, undef, undef, undef, undef], defers := [] }
set_option maxRecDepth 100000 in
set_option maxHeartbeats 2000000 in
theorem told_any (w w0 : World) (gf : Nat) (lb : Array Value) (xs : List Int) {D : Nat → Prop} (hD : ∀ k, D k → k < w0.heap.size) (eg : ∀ args w, (callFunc gf args).run Tryz.prog w = .ok (.enter gf args) w) (hs : SeqG Fence.wide 4 Tryz.prog gf lb (fun x : Int => #[.int .i64 x]) xs D w0) (hb : Agree D w0 w) (hlen : xs.length ≤ 1048576) (most : Int) :
    Calls Tryz.prog 28 #[.func (.func gf) #[] lb, .int .i64 most] w (RetOwn w 3 1 intL (xs.take most.toNat)) := by
  have hq := run_eqlFuncNil
  have hrow := hide_row23n
  refine (callsIn_wide (n := 5)).1 ?_
  refine callsIn_of_wp_marks Tryz.func28 rfl trivial ?_ rfl
  simp only [Tryz.ntmps28, List.size_toArray, List.length_cons, List.length_nil, Nat.reduceAdd, Nat.reduceSub, Array.replicate_succ, Array.replicate_zero, List.push_toArray, List.append_toArray, List.nil_append, List.cons_append]
  have HS := Lib.hid hs
  clear hs
  gi_wp2
  have hz0 := hb.size
  have b1 : Below w.heap.size w ((w.alloc (.cells #[.int .i64 most] 3)).alloc (.cells #[.slice none 0 0] 23)) := ((Below.refl _ w).alloc (Nat.le_refl _) _).alloc (by simp) _
  have o1 : obj ((w.alloc (.cells #[.int .i64 most] 3)).alloc (.cells #[.slice none 0 0] 23)) (w.heap.size + 1) = some (.cells #[.slice none 0 0] 23 (0, 0)) := obj_alloc_at _ _ _ (by simp)
  have o0 : obj ((w.alloc (.cells #[.int .i64 most] 3)).alloc (.cells #[.slice none 0 0] 23)) w.heap.size = some (.cells #[.int .i64 most] 3 (0, 0)) := (obj_alloc_past _ _ _ (by simp)).trans (obj_alloc_at _ _ _ rfl)
  have hsz : ((w.alloc (.cells #[.int .i64 most] 3)).alloc (.cells #[.slice none 0 0] 23)).heap.size = w.heap.size + 2 := by simp
  refine wpIn_range_own rfl (by decide) (gf := gf) (lb := lb) rfl trivial eg hD HS.out (hb.trans ⟨b1.size, fun k hk => obj_below b1 (Nat.lt_of_lt_of_le (hD k hk) hz0)⟩) (fun _ => rfl)
    (fun pre G W => GrowAt 23 3 1 intL (w.heap.size + 2) (w.heap.size + 1) pre G W ∧ obj W w.heap.size = some (.cells #[.int .i64 most] 3 (0, 0)) ∧ pre.length ≤ most.toNat)
    (fun c pre G W => c = .exit 0 ∧ GrowAt 23 3 1 intL (w.heap.size + 2) (w.heap.size + 1) pre.dropLast G W ∧ pre.dropLast.length = most.toNat)
    ?hIo ?hI ?hIx (fun k => k = w.heap.size + 1 ∨ (Value.slice none 0 0).ownBlock = some k) ⟨⟨_, o1, OwnS.nil _ _ _ _ _, rfl⟩, o0, Nat.zero_le _⟩
    (fun x a' W => a' = toldFrame most w.heap.size (.func (.func gf) #[] lb) x)
    ?hAx ?assign ?body ?done ?stop
  case hIo =>
    rintro pre G W ⟨h, _⟩
    exact GrowAt.owned (fun k hk => by have := hD k hk; omega) (fun k hk => by have := hD k hk; omega) pre G W h
  case hI =>
    rintro pre G W W' ⟨h, h0, hl⟩ hk
    refine ⟨GrowAt.abides _ _ _ _ _ h hk, (hk.block _ (lt_of_obj h0) (fun hh => by omega)).trans h0, hl⟩
  case hIx =>
    rintro c pre G W W' ⟨rfl, h, hl⟩ hk
    exact ⟨rfl, GrowAt.abides _ _ _ _ _ h hk, hl⟩
  case hAx =>
    rintro x a' W r o o' h _ _
    exact h
  case assign =>
    rintro l pre G x W K _ hK
    have HK := Lib.hid hK
    clear hK
    gi_wp2
    exact HK.out _ _ (Below.refl _ W) rfl
  case body =>
    rintro l pre G x a' W hl hlw hnl ⟨⟨sv, h1, h2, rfl⟩, h3, hI2⟩ rfl hpre
    have hlb := lt_of_obj h1
    have hmb := lt_of_obj h3
    have cb : W.cell? ⟨w.heap.size + 1, 0, none⟩ = some sv := cell_at h1 0
    have c2' : W.cell? ⟨w.heap.size, 0, none⟩ = some (.int .i64 most) := cell_at h3 0
    have HO := Lib.hid h2
    obtain ⟨oa, cap, rfl⟩ := h2.slice
    have hpl : pre.length ≤ 1048576 := by have := hpre.length_le; simp at this; omega
    have hbase : w.heap.size + 2 ≤ (W.alloc (.cells #[.int .i64 x] 3)).heap.size := by simp; omega
    have H3 := Lib.hid h3
    clear h2 h3
    simp only [toldFrame]
    by_cases hge : most ≤ (pre.length : Int)
    · gi_wp2
      refine ⟨_, ⟨rfl, ?_, ?_⟩, Keeps.refl _ _, GrowsG.refl _ _⟩
      · rw [List.dropLast_concat]; exact ⟨_, h1, HO.out, rfl⟩
      · simp; omega
    · obtain ⟨i0, hi, hz0, hz1, hz2⟩ := info_parts info3t
      gi_wp2_with (gi_at_builtin; refine wpListIn_pushG (z := .int .i64 0) (bytes := 8) Tryz.underlying23 hi hz0 hz1 hz2 (by simp [Value.cells]) (by decide) intL intL_length intL_one rfl _ _ rfl (w.heap.size + 2) (.slice oa pre.length cap) pre x rfl (HO.out.alloc _) W.heap.size rfl (obj_alloc_at _ _ _ rfl) hpl (by decide) hbase ?_; rintro v' W3 hown' hg3 hob; obtain ⟨oa', cap', e'⟩ := hown'.slice; rw [List.length_append, List.length_singleton] at e'; subst e'; obtain ⟨h1', HP⟩ := GrowAt.push (by decide) h1 HO.out hown' hg3 hob; have hPP := Lib.hid HP; have hlt1 := lt_of_obj h1'; have hd1 := cell_at h1' 0; have hf1 := frozen_at h1'; clear hown' hg3 hob HP)
      obtain ⟨G', p1, p2, p3⟩ := hPP.out
      refine ⟨G', ⟨p1, ?_, by simp; omega⟩, p2, p3⟩
      exact (p2.block _ hmb (fun hh => by
        rcases hh with hh | hh
        · omega
        · have := (HO.out.1.lt _ hh).1; omega)).trans H3.out
  case done =>
    rintro d G W hD' _ ⟨⟨sv, h1, h2, rfl⟩, h3, hI2⟩ hk _ hKD
    have hlb := lt_of_obj h1
    have cb : W.cell? ⟨w.heap.size + 1, 0, none⟩ = some sv := cell_at h1 0
    have HO := Lib.hid h2
    have HK := Lib.hid hk
    clear h2 hk
    gi_wp2
    refine ⟨by simp, .inl ⟨_, _, rfl, run_takeDeferred hKD, ?_⟩⟩
    have hgr := grownBy_putObj' W d (.deferred none)
    have hrr : ∀ r, some d = some r → w.heap.size ≤ r ∧ ∃ o : Obj, W.heap[r]? = some o ∧ o.isCells = false := fun r e => by cases e; exact ⟨by omega, _, hKD, rfl⟩
    have hbW : Below w.heap.size w W := b1.trans (HK.out.below (fun k hk => by
      rcases hk with rfl | hk
      · omega
      · simp [Value.ownBlock] at hk) (by simp; omega))
    exact ⟨_, results_tmp rfl _ _ _, sv, rfl, (show xs = xs.take most.toNat from (List.take_of_length_le hI2).symm) ▸ (HO.out.grown hgr hrr).rebaseT (by omega), below_grown hbW (Nat.le_refl _) (Nat.le_refl _) hgr hrr⟩
  case stop =>
    rintro d c pre G W hD' _ hpre ⟨rfl, ⟨sv, h1, h2, rfl⟩, hI2⟩ hk _ hKD
    have hlb := lt_of_obj h1
    have cb : W.cell? ⟨w.heap.size + 1, 0, none⟩ = some sv := cell_at h1 0
    have HO := Lib.hid h2
    have HK := Lib.hid hk
    clear h2 hk
    gi_wp2
    refine ⟨by simp, .inl ⟨_, _, rfl, run_takeDeferred hKD, ?_⟩⟩
    have hgr := grownBy_putObj' W d (.deferred none)
    have hrr : ∀ r, some d = some r → w.heap.size ≤ r ∧ ∃ o : Obj, W.heap[r]? = some o ∧ o.isCells = false := fun r e => by cases e; exact ⟨by omega, _, hKD, rfl⟩
    have hbW : Below w.heap.size w W := b1.trans (HK.out.below (fun k hk => by
      rcases hk with rfl | hk
      · omega
      · simp [Value.ownBlock] at hk) (by simp; omega))
    exact ⟨_, results_tmp rfl _ _ _, sv, rfl, (show pre.dropLast = xs.take most.toNat from by rw [← hI2]; exact List.prefix_iff_eq_take.1 ((List.dropLast_prefix _).trans hpre)) ▸ (HO.out.grown hgr hrr).rebaseT (by omega), below_grown hbW (Nat.le_refl _) (Nat.le_refl _) hgr hrr⟩
end Go.Proofs.YtmgpfmgmpmkkaaaGreat
namespace Go.Proofs.YtmgpfmgmpmkkaaaGreat
open Go.RowKit Go.Shelf Go.Sort

/-! ### Who -/
def whoP (id : ID) (l : List SaidM) : List Int := (l.filter fun s => decide (id ∈ s.ids)).map (·.node)
theorem whoP_snoc (id : ID) (l : List SaidM) (s : SaidM) : whoP id (l ++ [s]) = whoP id l ++ if id ∈ s.ids then [s.node] else [] := by
  unfold whoP
  rw [List.filter_append, List.map_append]
  congr 1
  by_cases h : id ∈ s.ids <;> simp [h]
theorem whoP_yes {id : ID} {l : List SaidM} {s : SaidM} (h : id ∈ s.ids) : whoP id (l ++ [s]) = whoP id l ++ [s.node] := by rw [whoP_snoc, if_pos h]
theorem whoP_no {id : ID} {l : List SaidM} {s : SaidM} (h : id ∉ s.ids) : whoP id (l ++ [s]) = whoP id l := by rw [whoP_snoc, if_neg h, List.append_nil]
theorem whoP_len (id : ID) (l : List SaidM) : (whoP id l).length ≤ l.length := by
  unfold whoP
  rw [List.length_map]
  exact List.length_filter_le _ _
def whoS (m : FrM) (id : ID) : List Int := (whoP id m.said).mergeSort fun x y => decide (x ≤ y)
def RetWho (w : World) (xs : List Int) (e : Ending) (w' : World) : Prop :=
  ∃ lb v, e = .returned (.func (.func 60) #[] #[.pointer (some ⟨lb, 0, none⟩)]) ∧ obj w' lb = some (.cells #[v] 23 (0, 0)) ∧ OwnC w' w.heap.size 3 1 intL v xs ∧ Below w.heap.size w w'
set_option maxRecDepth 100000 in
set_option maxHeartbeats 4000000 in
/-- Who -/
theorem who_any (w : World) (d : FrD) (m : FrM) (id : ID) (h : FrAt w d m) (hs : FrSm m) :
    Calls Tryz.prog 29 #[frV d, .agg (idL id).toArray] w (RetWho w (whoS m id)) := by
  have hmf : ∀ (fn : Fn) (first cap : Array Value) (w : World), (Instr.makeFunc fn first cap).run Tryz.prog w = .ok (.func fn first cap) w := fun _ _ _ _ => rfl
  obtain ⟨w1, hw1⟩ : ∃ x, x = ((w.alloc (.cells (frC d) 27)).alloc (.cells (idL id).toArray 32)).alloc (.cells #[.slice none 0 0] 23) := ⟨_, rfl⟩
  have HW1 := Lib.hid hw1
  have hb1 : Below w.heap.size w w1 := by rw [hw1]; exact (((Below.refl _ w).alloc (Nat.le_refl _) _).alloc (by simp) _).alloc (by simp; omega) _
  have ob : obj w1 w.heap.size = some (.cells (frC d) 27 (0, 0)) := by rw [hw1]; exact (obj_alloc_past _ _ _ (by simp; omega)).trans ((obj_alloc_past _ _ _ (by simp)).trans (fr_box w d))
  have oi : obj w1 (w.heap.size + 1) = some (.cells (idL id).toArray 32 (0, 0)) := by rw [hw1]; exact (obj_alloc_past _ _ _ (by simp)).trans (obj_alloc_at _ _ _ (by simp))
  have ol : obj w1 (w.heap.size + 1 + 1) = some (.cells #[.slice none 0 0] 23 (0, 0)) := by rw [hw1]; exact obj_alloc_at _ _ _ (by simp)
  have hz1 : w1.heap.size = w.heap.size + 3 := by rw [hw1]; simp
  have HF1 := Lib.hid (h.below hb1)
  have HS := Lib.hid hs
  have B1 := Lib.hid hb1
  have OB1 := Lib.hid ob
  have OI1 := Lib.hid oi
  have OL1 := Lib.hid ol
  have HZ1 := Lib.hid hz1
  obtain ⟨rows, hrow, hat⟩ := h.said
  clear h hs hb1 ob oi ol hz1 hw1 HF1
  have hrn := hrow.n
  have HR1 := Lib.hid hrow
  have HAT := Lib.hid hat
  clear hrow hat
  obtain ⟨dp, doa, don, doc, dta, dtn, dtc, dsa, dsn, dsc⟩ := d
  simp only at hrn
  have HRN := Lib.hid hrn
  clear hrn
  have x3 := cell_at OB1.out 3
  simp at x3
  rw [HW1.out] at x3
  go_enter Tryz.func29, Tryz.ntmps29
  go_wp2_with fail
  rw [← HW1.out]
  clear x3
  have HL0 : Hid (OwnC w1 w.heap.size 3 1 intL (.slice none 0 0) (whoP id (m.said.take 0))) := Lib.hid (World.ownsRow_nil _ _ _ _)
  have B10 : Hid (Below w1.heap.size w1 w1) := Lib.hid (Below.refl _ _)
  go_loopw [7, 11] (fun _ v11 wr => ∃ (k : Nat) (a : Option Addr) (n c : Nat), k ≤ dsn ∧ v11 = .int .i64 k ∧ Hid (OwnC wr w.heap.size 3 1 intL (.slice a n c) (whoP id (m.said.take k))) ∧ Hid (obj wr (w.heap.size + 1 + 1) = some (.cells #[.slice a n c] 23 (0, 0))) ∧ Hid (obj wr (w.heap.size + 1) = some (.cells (idL id).toArray 32 (0, 0))) ∧ Hid (Below w.heap.size w wr) ∧ Hid (w.heap.size + 3 ≤ wr.heap.size)) (fun _ i _ => dsn - (intOf i).toNat)
  case atStart => exact ⟨0, none, 0, 0, Nat.zero_le _, rfl, HL0, OL1, OI1, B1, Lib.hid (by have := HZ1.out; omega)⟩
  case round =>
    clear HL0 OL1 OI1 B10
    obtain ⟨k, a, n, c, hk, rfl, HO, OL, OI, HB, HSZ⟩ := hrel
    have hzr := HSZ.out
    have l1 := lt_of_obj OL.out
    have l2 := lt_of_obj OI.out
    have hrl : dsn = m.said.length := HRN.out.trans HAT.out.1
    have HRL := Lib.hid hrl
    by_cases hlt : k < dsn
    case neg =>
      obtain rfl : k = dsn := by omega
      have hsl : (whoP id m.said).length ≤ 17592186043904 := by have := whoP_len id m.said; have := HS.out.said; omega
      have HO2 : Hid (OwnC wr w.heap.size 3 1 intL (.slice a n c) (whoP id m.said)) := Lib.hid (by have := HO.out; rwa [List.take_of_length_le (by omega)] at this)
      have HC := Lib.hid (sort_ints wr w.heap.size (.slice a n c) (whoP id m.said) HO2.out hsl)
      have HNL : Hid ((Value.slice a n c).ownBlock ≠ some (w.heap.size + 1 + 1)) := Lib.hid (HO2.out.ne OL.out (fun cur h => by injection h with h1 h2; cases h2))
      have y0 := cell_at OL.out 0
      simp at y0
      clear hrl
      go_wp2_with fail
      refine HC.out.mono ?_
      rintro e w5 ⟨rfl, ho5, hk5⟩
      have O5 : Hid (obj w5 (w.heap.size + 1 + 1) = some (.cells #[.slice a n c] 23 (0, 0))) := Lib.hid ((hk5.block _ l1 HNL.out).trans OL.out)
      have B5 : Hid (Below w.heap.size w w5) := Lib.hid (HB.out.trans (hk5.below (fun g hg => by have := (HO2.out.lt hg).1; omega) (by omega)))
      have HO5 := Lib.hid ho5
      clear ho5 hk5 y0
      go_wp2_with fail
      go_ret
      exact ⟨_, _, rfl, O5.out, HO5.out, B5.out⟩
    have hks : k < m.said.length := by omega
    have hkr : k < rows.length := by have := HRN.out; omega
    clear hrl
    obtain ⟨oa', cp', e0, _, hcm, h3⟩ := HR1.out
    injection e0 with e1 e2 e3
    obtain ⟨b, off, e4, hbb, hrow⟩ := h3 (by omega)
    subst e1 e4
    unfold maxLen at hcm
    have hs1 := hrow k hkr
    rw [← obj_below HB.out hbb] at hs1
    have hbl : b < wr.heap.size := by omega
    have hra := HAT.out.2 k rows[k] m.said[k] (List.getElem?_eq_getElem hkr) (List.getElem?_eq_getElem hks)
    have HTK : Hid (m.said.take (k + 1) = m.said.take k ++ [m.said[k]]) := Lib.hid (List.take_succ_eq_append_getElem hks)
    have hpl := whoP_len id (m.said.take k)
    have hpl2 : (whoP id (m.said.take k)).length ≤ 4096 := by have := HS.out.said; rw [List.length_take] at hpl; omega
    generalize rows[k] = r at *
    generalize m.said[k] = s at *
    obtain ⟨rn, roa, rln, rcap⟩ := r
    obtain ⟨sn, sids⟩ := s
    obtain ⟨hr1, hr2⟩ := hra
    simp only at hr1 hr2 HTK
    subst hr1
    have HYE : Hid (id ∈ sids → whoP id (m.said.take (k + 1)) = whoP id (m.said.take k) ++ [rn]) := Lib.hid (fun hm => by rw [HTK.out]; exact whoP_yes hm)
    have HNO : Hid (id ∉ sids → whoP id (m.said.take (k + 1)) = whoP id (m.said.take k)) := Lib.hid (fun hm => by rw [HTK.out]; exact whoP_no hm)
    generalize whoP id (m.said.take k) = P0 at *
    have c0 : wr.cell? ⟨b, off + k * 2, none⟩ = some (.int .i64 rn) := by have := subOf_cell hs1 (j := 0) (by decide); simpa [sdL] using this
    have c1 : wr.cell? ⟨b, off + k * 2 + 1, none⟩ = some (.slice roa rln rcap) := by have := subOf_cell hs1 (j := 1) (by decide); simpa [sdL] using this
    have HSI := Lib.hid hr2
    clear hrow hs1 hr2 h3 e2 e3 hpl HTK
    have BA : Hid (Below wr.heap.size wr (wr.alloc (.cells #[.int .i64 rn, .slice roa rln rcap] 42))) := Lib.hid ((Below.refl _ _).alloc (Nat.le_refl _) _)
    have OA : Hid (obj (wr.alloc (.cells #[.int .i64 rn, .slice roa rln rcap] 42)) wr.heap.size = some (.cells #[.int .i64 rn, .slice roa rln rcap] 42 (0, 0))) := Lib.hid (obj_alloc_at _ _ _ rfl)
    have BW : Hid (Below w.heap.size w (wr.alloc (.cells #[.int .i64 rn, .slice roa rln rcap] 42))) := Lib.hid (HB.out.alloc (by omega) _)
    have OIA := Lib.hid ((obj_below BA.out l2).trans OI.out)
    have OLA := Lib.hid ((obj_below BA.out l1).trans OL.out)
    have HOA := Lib.hid (HO.out.below BA.out)
    have hzw : (wr.alloc (.cells #[.int .i64 rn, .slice roa rln rcap] 42)).heap.size = wr.heap.size + 1 := by simp
    have HCT := Lib.hid (contains_any (wr.alloc (.cells #[.int .i64 rn, .slice roa rln rcap] 42)) (.slice roa rln rcap) sids id (HSI.out.below BW.out))
    have pi : subOf (obj wr (w.heap.size + 1)) 0 32 = some (idL id).toArray := by rw [OI.out, subOf_cells (by simp), subA_all (by simp)]
    have y1 := cell_at OA.out 1
    simp at y1
    have hki : (k : Int) < dsn := by omega
    go_wp2_with fail
    clear c0 c1 y1 pi
    refine HCT.out.mono ?_
    rintro e wc ⟨rfl, bc⟩
    have hzc := bc.size
    have BC : Hid (Below wr.heap.size wr wc) := Lib.hid (BA.out.trans (bc.mono (by omega)))
    have OAc := Lib.hid ((obj_below bc (lt_of_obj OA.out)).trans OA.out)
    have OIc := Lib.hid ((obj_below bc (lt_of_obj OIA.out)).trans OIA.out)
    have OLc := Lib.hid ((obj_below bc (lt_of_obj OLA.out)).trans OLA.out)
    have HOc := Lib.hid (HOA.out.below bc)
    have HBc : Hid (Below w.heap.size w wc) := Lib.hid (HB.out.trans (BC.out.mono HB.out.size))
    have HZc : Hid (w.heap.size + 3 ≤ wc.heap.size) := Lib.hid (by omega)
    have l3 := lt_of_obj OAc.out
    have l4 := lt_of_obj OLc.out
    clear bc HCT OA OIA OLA HOA
    by_cases hin : id ∈ sids
    case neg =>
      have hd2 : decide (id ∈ sids) = false := decide_eq_false hin
      have HO2 : Hid (OwnC wc w.heap.size 3 1 intL (.slice a n c) (whoP id (m.said.take (k + 1)))) := Lib.hid (by rw [HNO.out hin]; exact HOc.out)
      clear hin
      go_wp2_with fail
      go_roundw
      case rel => exact ⟨k + 1, a, n, c, by omega, by go_num, HO2, OLc, OIc, HBc, HZc⟩
      case measure => exact meas_step' hlt
    have hd2 : decide (id ∈ sids) = true := decide_eq_true hin
    have HP1 := Lib.hid (HYE.out hin)
    clear hin
    have hn : n = P0.length := (HOc.out.slIn intL_length).n
    have BB : Hid (Below wc.heap.size wc (wc.alloc (.cells #[.int .i64 rn] 3))) := Lib.hid ((Below.refl _ _).alloc (Nat.le_refl _) _)
    have OB : Hid (obj (wc.alloc (.cells #[.int .i64 rn] 3)) wc.heap.size = some (.cells (intL rn).toArray 3 (0, 0))) := Lib.hid (obj_alloc_at _ _ _ rfl)
    have HOB := Lib.hid (HOc.out.below BB.out)
    have OLB := Lib.hid ((obj_below BB.out (lt_of_obj OLc.out)).trans OLc.out)
    have OIB := Lib.hid ((obj_below BB.out (lt_of_obj OIc.out)).trans OIc.out)
    have HBB : Hid (Below w.heap.size w (wc.alloc (.cells #[.int .i64 rn] 3))) := Lib.hid (HBc.out.trans (BB.out.mono HBc.out.size))
    have hzB : (wc.alloc (.cells #[.int .i64 rn] 3)).heap.size = wc.heap.size + 1 := by simp
    have HNL : Hid ((Value.slice a n c).ownBlock ≠ some (w.heap.size + 1 + 1)) := Lib.hid (HOc.out.ne OLc.out (fun cur h => by injection h with h1 h2; cases h2))
    have HNI : Hid ((Value.slice a n c).ownBlock ≠ some (w.heap.size + 1)) := Lib.hid (HOc.out.ne OIc.out (fun cur h => by injection h with h1 h2; cases h2))
    have HLQ : Hid (∀ (v6 : Value) (a : Option Addr) (c' : Nat), v6 = .slice a (P0 ++ [rn]).length c' → v6 = .slice a (n + 1) c') := Lib.hid (fun v6 a c' e => by rw [e, List.length_append, ← hn]; rfl)
    clear hn
    have y0 := cell_at OAc.out 0
    have y1 := cell_at OLc.out 0
    simp at y0 y1
    go_wp2_with (at_builtin; refine pushI rfl _ _ rfl w.heap.size (.slice a n c) P0 rn rfl HOB.out wc.heap.size rfl OB.out (by omega) (by rw [hzB]; omega) ?_; intro v6 w6 r6 b6 g6; obtain ⟨a6, c6, e6⟩ := r6.slice; have e7 := HLQ.out v6 a6 c6 e6; subst e7; have HO6 : Hid (OwnC w6 w.heap.size 3 1 intL (.slice a6 (n + 1) c6) (whoP id (m.said.take (k + 1)))) := Lib.hid (by rw [HP1.out]; exact r6); have OL6 : Hid (obj w6 (w.heap.size + 1 + 1) = some (.cells #[.slice a n c] 23 (0, 0))) := Lib.hid ((g6 _ (by rw [hzB]; omega) HNL.out).trans OLB.out); have OI6 : Hid (obj w6 (w.heap.size + 1) = some (.cells (idL id).toArray 32 (0, 0))) := Lib.hid ((g6 _ (by rw [hzB]; omega) HNI.out).trans OIB.out); have HB6 : Hid (Below w.heap.size w w6) := Lib.hid (HBB.out.trans (b6.mono (by omega))); have hz6 : w.heap.size + 3 ≤ w6.heap.size := (by have := b6.size; omega); have l6 := lt_of_obj OL6.out; have z0 := cell_at OL6.out 0; have zf := frozen_at OL6.out; simp at z0 zf; clear r6 b6 g6 e6)
    have HO7 := Lib.hid (HO6.out.setBox OL6.out (by decide) 0 (.slice a6 (n + 1) c6))
    have OL7 : Hid (obj (w6.setCell ⟨w.heap.size + 1 + 1, 0, none⟩ (.slice a6 (n + 1) c6)) (w.heap.size + 1 + 1) = some (.cells #[.slice a6 (n + 1) c6] 23 (0, 0))) := Lib.hid (by rw [obj_setCell_at _ OL6.out]; rfl)
    have OI7 : Hid (obj (w6.setCell ⟨w.heap.size + 1 + 1, 0, none⟩ (.slice a6 (n + 1) c6)) (w.heap.size + 1) = _) := Lib.hid ((obj_setCell_ne _ ⟨w.heap.size + 1 + 1, 0, none⟩ _ _ (by dsimp only; omega)).trans OI6.out)
    have HB7 : Hid (Below w.heap.size w (w6.setCell ⟨w.heap.size + 1 + 1, 0, none⟩ (.slice a6 (n + 1) c6))) := Lib.hid (HB6.out.setCell (by dsimp only; omega) _)
    have HZ7 : Hid (w.heap.size + 3 ≤ (w6.setCell ⟨w.heap.size + 1 + 1, 0, none⟩ (.slice a6 (n + 1) c6)).heap.size) := Lib.hid (by simpa using hz6)
    go_roundw
    case rel => exact ⟨k + 1, a6, n + 1, c6, by omega, by go_num, HO7, OL7, OI7, HB7, HZ7⟩
    case measure => exact meas_step' hlt
end Go.Proofs.YtmgpfmgmpmkkaaaGreat
