import Derived.Test.YtfejhekoijemdaaAll
import Derived.RangeFuncBox
namespace Go.Proofs.Ytfejhekoijemdaa
open Go.RowKit Go.Shelf
attribute [local go_sem] Oper.semAt_some

def oneV (x : Int × Bool) : Value := .agg #[.int .i64 x.1, .bool x.2]
def oneL (x : Int × Bool) : List Value := [.int .i64 x.1, .bool x.2]
theorem oneL_length (x : Int × Bool) : (oneL x).length = 2 := rfl
theorem oneL_one (x : Int × Bool) : allOne (oneL x).toArray = true := rfl
def toldL (S : SetM) : List (Int × Bool) := S.l.map fun o => (o.id, isDone S o)
theorem toldL_ids (S : SetM) : (toldL S).map (·.1) = idsOf S := by unfold toldL idsOf; rw [List.map_map]; rfl
theorem toldL_dn (S : SetM) : (toldL S).map (·.2) = dnOf S := by unfold toldL dnOf; rw [List.map_map]; rfl
/-- All's two rows in their boxes -/
structure Val2 (D : Nat → Prop) (w : World) (ib db : Nat) (iv dv : Value) (xs : List (Int × Bool)) : Prop where
  i : ValAt 93 1 intL D w ib iv (xs.map (·.1))
  d : ValAt 94 1 boolL D w db dv (xs.map (·.2))
set_option maxRecDepth 100000 in
set_option maxHeartbeats 2000000 in
/-- All's iterator -/
theorem all_seq (n : Nat) (hn : 1 ≤ n) {D : Nat → Prop} {w0 : World} (hD : ∀ k, D k → k < w0.heap.size) {ib db : Nat} {iv dv : Value} {xs : List (Int × Bool)} (hV : Val2 D w0 ib db iv dv xs) : SeqG Fence.wide n Try.prog 39 #[.pointer (some ⟨ib, 0, none⟩), .pointer (some ⟨db, 0, none⟩)] (fun x : Int × Bool => #[.int .i64 x.1, .bool x.2]) xs D w0 := by
  intro l J Jx W G0 hb hJo hJ hJx hY h0
  refine callsIn_of_wp Try.func39 rfl trivial ?_ rfl
  simp only [Try.ntmps39, List.size_toArray, List.length_cons, List.length_nil, Nat.reduceAdd, Nat.reduceSub, Array.replicate_succ, Array.replicate_zero, List.push_toArray, List.append_toArray, List.nil_append, List.cons_append]
  have hVW := hV.i.agree hb
  have hVX := hV.d.agree hb
  have c0 : W.cell? ⟨ib, 0, none⟩ = some iv := cell_at hVW.box 0
  obtain ⟨oa, cap, rfl, q1, q2, q3⟩ := hVW.sl
  obtain ⟨od, dcap, rfl, s1, s2, s3⟩ := hVX.sl
  unfold maxLen at q2 s2
  rw [List.length_map] at q1 s1 c0
  have hG0 := Lib.hid (hJo _ _ _ h0)
  have HJO := Lib.hid hJo
  have HJ := Lib.hid hJ
  have HY := Lib.hid hY
  have HV := Lib.hid hV
  have HB := Lib.hid hb
  have H0 := Lib.hid h0
  clear q3 s3 hVW hVX hV hJo hJ hJx hY h0 hb
  gi_wp2
  gi_loopw [8] (fun v7 wr => ∃ k : Nat, k ≤ xs.length ∧ v7 = .int .i64 k ∧ Hid (∃ G, J (xs.take k) G wr ∧ Keeps G0 W wr ∧ GrowsG W G0 G)) (fun i _ => xs.length - (intOf i).toNat)
  case atStart => exact ⟨0, Nat.zero_le _, rfl, Lib.hid ⟨G0, H0.out, Keeps.refl _ _, GrowsG.refl _ _⟩⟩
  case round =>
    obtain ⟨k, hk, rfl, HK⟩ := hrel
    obtain ⟨G, hJk, hkp, hgr⟩ := HK.out
    have hbr := HB.out.keeps hD (fun k hk => (hG0.out k hk).1) hkp
    have hVr := HV.out.i.agree hbr
    have hVs := HV.out.d.agree hbr
    by_cases hlt : k < xs.length
    · obtain ⟨oa', cap', e', _, _, q3'⟩ := hVr.sl
      simp only [Value.slice.injEq] at e'
      obtain ⟨rfl, _, rfl⟩ := e'
      obtain ⟨b, off, hoa, hbb, hrow⟩ := q3' (by simp; omega)
      subst hoa
      have hs1 := hrow k (by simpa using hlt)
      obtain ⟨od', dcap', e', _, _, s3'⟩ := hVs.sl
      simp only [Value.slice.injEq] at e'
      obtain ⟨rfl, _, rfl⟩ := e'
      obtain ⟨bd, offd, hod, hbd, hrowd⟩ := s3' (by simp; omega)
      subst hod
      have hs2 := hrowd k (by simpa using hlt)
      rw [List.getElem_map] at hs1 hs2
      have cdb : wr.cell? ⟨db, 0, none⟩ = some (.slice (some ⟨bd, offd, none⟩) xs.length dcap) := by have := cell_at hVs.box 0; simpa using this
      have hdbl := lt_of_obj hVs.box
      have HTS := Lib.hid (take_snocA hlt)
      have HPX : Hid (xs.take k ++ [xs[k]] <+: xs) := Lib.hid (by rw [← take_snocA hlt]; exact List.take_prefix _ _)
      generalize xs[k] = x at *
      have cx : wr.cell? ⟨b, off + k * 1, none⟩ = some (.int .i64 x.1) := by
        have := subOf_cell hs1 (j := 0) (by decide)
        simpa [intL] using this
      have cy : wr.cell? ⟨bd, offd + k * 1, none⟩ = some (.bool x.2) := by
        have := subOf_cell hs2 (j := 0) (by decide)
        simpa [boolL] using this
      rw [Nat.mul_one] at cx cy
      obtain ⟨fn, tmps, assign, body, hy, hR⟩ := HY.out _ G x _ hJk HPX.out
      have HRR := Lib.hid hR
      have HKP := Lib.hid hkp
      have HGR := Lib.hid hgr
      have hzw : W.heap.size ≤ wr.heap.size := hkp.size
      have HJO2 := Lib.hid (HJO.out _ _ _ hJk)
      clear hrow hrowd hJk hkp hgr hbr hVr hVs q3' s3' hR hs1 hs2
      gi_wp2
      refine HRR.out.mono ?_
      rintro e W3 ⟨G', t, rfl, hW3, hk3, hg3⟩
      have HG3 := Lib.hid hg3
      have HK3 := Lib.hid hk3
      have H3 := Lib.hid hW3
      clear hg3 hk3 hW3 HRR hy
      have fin : Hid (Keeps G0 W W3 ∧ GrowsG W G0 G') := Lib.hid (by
        have hs3 := HK3.out.size
        have hk0 := HKP.out
        have hk3 := HK3.out
        refine ⟨?_, fun k hk => ?_⟩
        · refine ⟨hk3.os.trans hk0.os, hk3.tape.trans hk0.tape, hk3.output.trans hk0.output, Nat.le_trans hk0.size (by omega), fun j hj hg => ?_⟩
          refine (hk3.block j (by omega) (fun h => ?_)).trans (hk0.block j hj hg)
          rcases HGR.out j h with h | h
          · exact hg h
          · omega
        · rcases HG3.out k hk with h | h
          · exact HGR.out k h
          · exact .inr (by omega))
      cases t
      · gi_wp2
        go_end0
        refine ⟨⟨_, rfl⟩, G', .inr ⟨_, HPX.out, ?_⟩, fin.out.1, fin.out.2⟩
        rcases H3.out with ⟨h, _⟩ | ⟨_, h⟩
        · cases h
        · exact h
      · have HJ3 : Hid (J (xs.take (k + 1)) G' W3) := Lib.hid (by
          rw [HTS.out]
          rcases H3.out with ⟨_, h⟩ | ⟨h, _⟩
          · exact h
          · cases h)
        gi_wp2
        go_roundw
        case rel => exact ⟨k + 1, by omega, by go_num, Lib.hid ⟨G', HJ3.out, fin.out.1, fin.out.2⟩⟩
        case measure => simp [intOf]; omega
    · have hk' : k = xs.length := by omega
      rw [hk', List.take_length] at hJk
      have HJ4 := Lib.hid hJk
      have HKP := Lib.hid hkp
      have HGR := Lib.hid hgr
      clear hJk hkp hgr hbr hVr hVs
      gi_wp2
      go_end0
      exact ⟨⟨_, rfl⟩, G, .inl HJ4.out, HKP.out, HGR.out⟩
end Go.Proofs.Ytfejhekoijemdaa
namespace Go.Proofs.Ytfejhekoijemdaa
open Go.RowKit Go.Shelf
attribute [local go_sem] Oper.semAt_some

theorem run_eqlFuncNil (w : World) (f : Fn) (x y : Array Value) : (binOp .eql 63 (.func f x y) .nilFunc).run Try.prog w = .ok (.bool false) w := by
  have h : ∀ d : Nat, (Op.equalIn (d + 1) 63 (.func f x y) .nilFunc).run Try.prog w = .ok false w := fun d => by
    simp [Op.equalIn, run_underlying Try.underlying63]
  simp only [binOp]
  simp [Op.equal, Op.maxDepth, h 9999]
theorem info66 : (Try.prog.info? 66).map (fun i => (i.zero, i.size, i.bytes)) = some (some (.agg #[.int .i64 0, .bool false]), 2, 16) := by kernel_rfl
def toldFrame (most : Int) (wb : Nat) (sq : Value) (x : Int × Bool) : Act :=
  { tmps := #[sq, .int .i64 most, undef, .pointer (some ⟨wb, 0, none⟩), .slice none 0 0, .pointer (some ⟨wb + 1, 0, none⟩), .int .i64 x.1, .bool x.2, sq, .bool false, sq, .int .i64 x.1, .bool x.2, undef, undef, undef, undef, undef, undef, undef, undef, undef, undef, undef], defers := [] }
set_option maxRecDepth 100000 in
set_option maxHeartbeats 2000000 in
theorem told_any (w w0 : World) (gf : Nat) (lb : Array Value) (xs : List (Int × Bool)) {D : Nat → Prop} (hD : ∀ k, D k → k < w0.heap.size) (eg : ∀ args w, (callFunc gf args).run Try.prog w = .ok (.enter gf args) w) (hs : SeqG Fence.wide 4 Try.prog gf lb (fun x : Int × Bool => #[.int .i64 x.1, .bool x.2]) xs D w0) (hb : Agree D w0 w) (hlen : xs.length ≤ 1048576) (most : Int) :
    Calls Try.prog 22 #[.func (.func gf) #[] lb, .int .i64 most] w (RetOwn w 66 2 oneL (xs.take most.toNat)) := by
  have hq := run_eqlFuncNil
  refine (callsIn_wide (n := 5)).1 ?_
  refine callsIn_of_wp_marks Try.func22 rfl trivial ?_ rfl
  simp only [Try.ntmps22, List.size_toArray, List.length_cons, List.length_nil, Nat.reduceAdd, Nat.reduceSub, Array.replicate_succ, Array.replicate_zero, List.push_toArray, List.append_toArray, List.nil_append, List.cons_append]
  have HS := Lib.hid hs
  clear hs
  gi_wp2
  have hz0 := hb.size
  have b1 : Below w.heap.size w ((w.alloc (.cells #[.int .i64 most] 3)).alloc (.cells #[.slice none 0 0] 60)) := ((Below.refl _ w).alloc (Nat.le_refl _) _).alloc (by simp) _
  have o1 : obj ((w.alloc (.cells #[.int .i64 most] 3)).alloc (.cells #[.slice none 0 0] 60)) (w.heap.size + 1) = some (.cells #[.slice none 0 0] 60 (0, 0)) := obj_alloc_at _ _ _ (by simp)
  have o0 : obj ((w.alloc (.cells #[.int .i64 most] 3)).alloc (.cells #[.slice none 0 0] 60)) w.heap.size = some (.cells #[.int .i64 most] 3 (0, 0)) := (obj_alloc_past _ _ _ (by simp)).trans (obj_alloc_at _ _ _ rfl)
  have hsz : ((w.alloc (.cells #[.int .i64 most] 3)).alloc (.cells #[.slice none 0 0] 60)).heap.size = w.heap.size + 2 := by simp
  refine wpIn_range_own rfl (by decide) (gf := gf) (lb := lb) rfl trivial eg hD HS.out (hb.trans ⟨b1.size, fun k hk => obj_below b1 (Nat.lt_of_lt_of_le (hD k hk) hz0)⟩) (fun _ => rfl)
    (fun pre G W => GrowAt 60 66 2 oneL w.heap.size (w.heap.size + 1) pre G W ∧ obj W w.heap.size = some (.cells #[.int .i64 most] 3 (0, 0)) ∧ pre.length ≤ most.toNat)
    (fun c pre G W => c = .exit 0 ∧ GrowAt 60 66 2 oneL w.heap.size (w.heap.size + 1) pre.dropLast G W ∧ pre.dropLast.length = most.toNat)
    ?hIo ?hI ?hIx (fun k => k = w.heap.size + 1 ∨ (Value.slice none 0 0).ownBlock = some k) ⟨⟨_, o1, OwnS.nil _ _ _ _ _, rfl⟩, o0, Nat.zero_le _⟩
    (fun x a' W => a' = toldFrame most w.heap.size (.func (.func gf) #[] lb) x)
    ?hAx ?assign ?body ?done ?stop
  case hIo =>
    rintro pre G W ⟨h, _⟩
    exact GrowAt.owned (fun k hk => Nat.lt_of_lt_of_le (hD k hk) hz0) (fun k hk => by have := hD k hk; omega) pre G W h
  case hI =>
    rintro pre G W W' ⟨h, h0, hl⟩ hk
    refine ⟨GrowAt.abides _ _ _ _ _ h hk, (hk.block _ (lt_of_obj h0) (fun hh => by omega)).trans h0, hl⟩
  case hIx =>
    rintro c pre G W W' ⟨rfl, h, hl⟩ hk
    exact ⟨rfl, GrowAt.abides _ _ _ _ _ h hk, hl⟩
  case hAx =>
    rintro x a' W r o o' h1 ho hc
    exact h1
  case assign =>
    rintro l pre G ⟨x1, x2⟩ W K _ hK
    have HK := Lib.hid hK
    clear hK
    gi_wp2
    exact HK.out _ _ (Below.refl _ W) rfl
  case body =>
    rintro l pre G ⟨x1, x2⟩ a' W hl hlw hnl ⟨⟨sv, h1, h2, rfl⟩, h3, hI2⟩ rfl hpre
    have hlb := lt_of_obj h1
    have hmb := lt_of_obj h3
    have cb : W.cell? ⟨w.heap.size + 1, 0, none⟩ = some sv := cell_at h1 0
    have c2' : W.cell? ⟨w.heap.size, 0, none⟩ = some (.int .i64 most) := cell_at h3 0
    have HO := Lib.hid h2
    obtain ⟨oa, cap, rfl⟩ := h2.slice
    have hpl : pre.length ≤ 1048576 := by have := hpre.length_le; simp at this; omega
    have hbase : w.heap.size ≤ (W.alloc (.cells #[.int .i64 x1, .bool x2] 66)).heap.size := by simp; omega
    have H3 := Lib.hid h3
    clear h2 h3
    simp only [toldFrame]
    by_cases hge : most ≤ (pre.length : Int)
    · gi_wp2
      refine ⟨_, ⟨rfl, ?_, ?_⟩, Keeps.refl _ _, GrowsG.refl _ _⟩
      · rw [List.dropLast_concat]; exact ⟨_, h1, HO.out, rfl⟩
      · simp; omega
    · obtain ⟨i0, hi, hz0, hz1, hz2⟩ := info_parts info66
      gi_wp2_with (gi_at_builtin; refine wpListIn_pushG (z := .agg #[.int .i64 0, .bool false]) (bytes := 16) Try.underlying60 hi hz0 hz1 hz2 (by simp [Value.cells]) (by decide) oneL oneL_length oneL_one rfl _ _ rfl w.heap.size (.slice oa pre.length cap) pre (x1, x2) rfl (HO.out.alloc _) W.heap.size rfl (obj_alloc_at _ _ _ rfl) hpl (by decide) hbase ?_; rintro v' W3 hown' hg3 hob; obtain ⟨oa', cap', e'⟩ := hown'.slice; rw [List.length_append, List.length_singleton] at e'; subst e'; obtain ⟨h1', HP⟩ := GrowAt.push (by decide) h1 HO.out hown' hg3 hob; have hPP := Lib.hid HP; have hlt1 := lt_of_obj h1'; have hd1 := cell_at h1' 0; have hf1 := frozen_at h1'; clear hown' hg3 hob HP)
      obtain ⟨G', p1, p2, p3⟩ := hPP.out
      refine ⟨G', ⟨p1, ?_, by simp; omega⟩, p2, p3⟩
      exact (p2.block _ hmb (fun hh => by
        rcases hh with hh | hh
        · omega
        · exact HO.out.ne H3.out (fun cur e => by cases e) hh)).trans H3.out
  case done =>
    rintro d G W hD' _ ⟨⟨sv, h1, h2, rfl⟩, h3, hI2⟩ hk _ hKD
    have hlb := lt_of_obj h1
    have cb : W.cell? ⟨w.heap.size + 1, 0, none⟩ = some sv := cell_at h1 0
    have HO := Lib.hid h2
    have HK := Lib.hid hk
    clear h2 hk
    gi_wp2
    refine ⟨by simp, .inl ⟨_, _, rfl, run_takeDeferred hKD, ?_⟩⟩
    have hgr := grownBy_putObj' W d (.deferred none)
    have hrr : ∀ r, some d = some r → w.heap.size ≤ r ∧ ∃ o : Obj, W.heap[r]? = some o ∧ o.isCells = false := fun r e => by cases e; exact ⟨by omega, _, hKD, rfl⟩
    have hbW : Below w.heap.size w W := b1.trans (HK.out.below (fun k hk => by
      rcases hk with rfl | hk
      · omega
      · simp [Value.ownBlock] at hk) (by simp; omega))
    exact ⟨_, results_tmp rfl _ _ _, sv, rfl, (show xs = xs.take most.toNat from (List.take_of_length_le hI2).symm) ▸ HO.out.grown hgr hrr, below_grown hbW (Nat.le_refl _) (Nat.le_refl _) hgr hrr⟩
  case stop =>
    rintro d c pre G W hD' _ hpre ⟨rfl, ⟨sv, h1, h2, rfl⟩, hI2⟩ hk _ hKD
    have hlb := lt_of_obj h1
    have cb : W.cell? ⟨w.heap.size + 1, 0, none⟩ = some sv := cell_at h1 0
    have HO := Lib.hid h2
    have HK := Lib.hid hk
    clear h2 hk
    gi_wp2
    refine ⟨by simp, .inl ⟨_, _, rfl, run_takeDeferred hKD, ?_⟩⟩
    have hgr := grownBy_putObj' W d (.deferred none)
    have hrr : ∀ r, some d = some r → w.heap.size ≤ r ∧ ∃ o : Obj, W.heap[r]? = some o ∧ o.isCells = false := fun r e => by cases e; exact ⟨by omega, _, hKD, rfl⟩
    have hbW : Below w.heap.size w W := b1.trans (HK.out.below (fun k hk => by
      rcases hk with rfl | hk
      · omega
      · simp [Value.ownBlock] at hk) (by simp; omega))
    exact ⟨_, results_tmp rfl _ _ _, sv, rfl, (show pre.dropLast = xs.take most.toNat from by rw [← hI2]; exact List.prefix_iff_eq_take.1 ((List.dropLast_prefix _).trans hpre)) ▸ HO.out.grown hgr hrr, below_grown hbW (Nat.le_refl _) (Nat.le_refl _) hgr hrr⟩
end Go.Proofs.Ytfejhekoijemdaa
namespace Go.Proofs.Ytfejhekoijemdaa
open Go.RowKit

theorem AllR.told {w w' : World} {S : SetM} {e : Ending} (h : AllR w S e w') (hlen : S.l.length ≤ 1048576) : ∃ ib db, e = .returned (.func (.func 39) #[] #[.pointer (some ⟨ib, 0, none⟩), .pointer (some ⟨db, 0, none⟩)]) ∧
    (∀ (W : World) (most : Int), Below w'.heap.size w' W → Calls Try.prog 22 #[.func (.func 39) #[] #[.pointer (some ⟨ib, 0, none⟩), .pointer (some ⟨db, 0, none⟩)], .int .i64 most] W (RetOwn W 66 2 oneL ((toldL S).take most.toNat))) ∧ Below w.heap.size w w' := by
  obtain ⟨ib, db, iv, dv, rfl, h1, h2, h3, h4, h5, h6, h7⟩ := h
  refine ⟨ib, db, rfl, fun W most hW => ?_, h7⟩
  have hD : ∀ k, (k = ib ∨ k = db ∨ iv.ownBlock = some k ∨ dv.ownBlock = some k) → k < w'.heap.size := fun k hk => by
    rcases hk with rfl | rfl | hk | hk
    · exact lt_of_obj h1
    · exact lt_of_obj h2
    · exact h5 k hk
    · exact h6 k hk
  have hV : Val2 (fun k => k = ib ∨ k = db ∨ iv.ownBlock = some k ∨ dv.ownBlock = some k) w' ib db iv dv (toldL S) :=
    ⟨⟨h1, by rw [toldL_ids]; exact h3, .inl rfl, fun a l c e => .inr (.inr (.inl (by rw [e]; rfl)))⟩, ⟨h2, by rw [toldL_dn]; exact h4, .inr (.inl rfl), fun a l c e => .inr (.inr (.inr (by rw [e]; rfl)))⟩⟩
  refine told_any W w' 39 _ (toldL S) hD eg39 (all_seq 4 (by omega) hD hV) ⟨hW.size, fun k hk => obj_below hW (hD k hk)⟩ (by unfold toldL; simp; omega) most
end Go.Proofs.Ytfejhekoijemdaa
