import Derived.Test.YtnaknoebjbmboaaValues
import Derived.RangeFuncBox
namespace Go.Proofs.Ytnaknoebjbmboaa
open Go.RowKit Go.Shelf
attribute [local go_sem] Oper.semAt_some

theorem hide_row51 (a b c : Int) (w : World) : (Instr.buildSlice 51 1 #[(0, .agg #[.int .i64 a, .int .i64 b, .int .i64 c])]).run Try.prog w = .ok (.slice (some ⟨w.heap.size, 0, none⟩) 1 1) (w.alloc (.cells #[.int .i64 a, .int .i64 b, .int .i64 c] 32)) := by kernel_rfl
theorem run_eqlFuncNil (w : World) (f : Fn) (x y : Array Value) : (binOp .eql 54 (.func f x y) .nilFunc).run Try.prog w = .ok (.bool false) w := by
  have h : ∀ d : Nat, (Op.equalIn (d + 1) 54 (.func f x y) .nilFunc).run Try.prog w = .ok false w := fun d => by
    simp [Op.equalIn, run_underlying Try.underlying54]
  simp only [binOp]
  simp [Op.equal, Op.maxDepth, h 9999]
def toldFrame (most : Int) (wb : Nat) (sq : Value) (x : AskD) (c : Nat) : Act :=
  { tmps := #[sq, .int .i64 most, undef, .pointer (some ⟨wb, 0, none⟩), .slice none 0 0, .pointer (some ⟨wb + 1, 0, none⟩), .pointer (some ⟨c, 0, none⟩), sq, .bool false, sq, akV x, undef, undef, undef, undef, undef, undef, undef, undef, undef], defers := [] }
set_option maxRecDepth 100000 in
set_option maxHeartbeats 2000000 in
theorem told_any (w w0 : World) (gf : Nat) (lb : Array Value) (xs : List AskD) {D : Nat → Prop} (hD : ∀ k, D k → k < w0.heap.size) (eg : ∀ args w, (callFunc gf args).run Try.prog w = .ok (.enter gf args) w) (hs : SeqG Fence.wide 4 Try.prog gf lb (fun x : AskD => #[akV x]) xs D w0) (hb : Agree D w0 w) (hlen : xs.length ≤ 1048576) (most : Int) :
    Calls Try.prog 18 #[.func (.func gf) #[] lb, .int .i64 most] w (RetOwn w 32 3 akL (xs.take most.toNat)) := by
  have hq := run_eqlFuncNil
  have hrow := hide_row51
  refine (callsIn_wide (n := 5)).1 ?_
  refine callsIn_of_wp_marks Try.func18 rfl trivial ?_ rfl
  simp only [Try.ntmps18, List.size_toArray, List.length_cons, List.length_nil, Nat.reduceAdd, Nat.reduceSub, Array.replicate_succ, Array.replicate_zero, List.push_toArray, List.append_toArray, List.nil_append, List.cons_append]
  have HS := Lib.hid hs
  clear hs
  gi_wp2
  have hz0 := hb.size
  have b1 : Below w.heap.size w ((w.alloc (.cells #[.int .i64 most] 3)).alloc (.cells #[.slice none 0 0] 51)) := ((Below.refl _ w).alloc (Nat.le_refl _) _).alloc (by simp) _
  have o1 : obj ((w.alloc (.cells #[.int .i64 most] 3)).alloc (.cells #[.slice none 0 0] 51)) (w.heap.size + 1) = some (.cells #[.slice none 0 0] 51 (0, 0)) := obj_alloc_at _ _ _ (by simp)
  have o0 : obj ((w.alloc (.cells #[.int .i64 most] 3)).alloc (.cells #[.slice none 0 0] 51)) w.heap.size = some (.cells #[.int .i64 most] 3 (0, 0)) := (obj_alloc_past _ _ _ (by simp)).trans (obj_alloc_at _ _ _ rfl)
  have hsz : ((w.alloc (.cells #[.int .i64 most] 3)).alloc (.cells #[.slice none 0 0] 51)).heap.size = w.heap.size + 2 := by simp
  refine wpIn_range_own rfl (by decide) (gf := gf) (lb := lb) rfl trivial eg hD HS.out (hb.trans ⟨b1.size, fun k hk => obj_below b1 (Nat.lt_of_lt_of_le (hD k hk) hz0)⟩) (fun _ => rfl)
    (fun pre G W => GrowAt 51 32 3 akL w.heap.size (w.heap.size + 1) pre G W ∧ obj W w.heap.size = some (.cells #[.int .i64 most] 3 (0, 0)) ∧ pre.length ≤ most.toNat)
    (fun c pre G W => c = .exit 0 ∧ GrowAt 51 32 3 akL w.heap.size (w.heap.size + 1) pre.dropLast G W ∧ pre.dropLast.length = most.toNat)
    ?hIo ?hI ?hIx (fun k => k = w.heap.size + 1 ∨ (Value.slice none 0 0).ownBlock = some k) ⟨⟨_, o1, OwnS.nil _ _ _ _ _, rfl⟩, o0, Nat.zero_le _⟩
    (fun x a' W => ∃ c, obj W c = some (.cells #[.int .i64 x.id, .int .i64 x.node, .int .i64 x.kind] 32 (0, 0)) ∧ a' = toldFrame most w.heap.size (.func (.func gf) #[] lb) x c)
    ?hAx ?assign ?body ?done ?stop
  case hIo =>
    rintro pre G W ⟨h, _⟩
    exact GrowAt.owned (fun k hk => Nat.lt_of_lt_of_le (hD k hk) hz0) (fun k hk => by have := hD k hk; omega) pre G W h
  case hI =>
    rintro pre G W W' ⟨h, h0, hl⟩ hk
    refine ⟨GrowAt.abides _ _ _ _ _ h hk, (hk.block _ (lt_of_obj h0) (fun hh => by omega)).trans h0, hl⟩
  case hIx =>
    rintro c pre G W W' ⟨rfl, h, hl⟩ hk
    exact ⟨rfl, GrowAt.abides _ _ _ _ _ h hk, hl⟩
  case hAx =>
    rintro x a' W r o o' ⟨c, h1, h2⟩ ho hc
    exact ⟨c, ax_put h1 ho hc, h2⟩
  case assign =>
    rintro l pre G ⟨x1, x2, x3⟩ W K _ hK
    have HK := Lib.hid hK
    clear hK
    gi_wp2
    exact HK.out _ _ ((Below.refl _ W).alloc (Nat.le_refl _) _) ⟨W.heap.size, obj_alloc_at _ _ _ rfl, rfl⟩
  case body =>
    rintro l pre G ⟨x1, x2, x3⟩ a' W hl hlw hnl ⟨⟨sv, h1, h2, rfl⟩, h3, hI2⟩ ⟨c, hc, rfl⟩ hpre
    have hlb := lt_of_obj h1
    have hcz := lt_of_obj hc
    have hmb := lt_of_obj h3
    have cb : W.cell? ⟨w.heap.size + 1, 0, none⟩ = some sv := cell_at h1 0
    have c2' : W.cell? ⟨w.heap.size, 0, none⟩ = some (.int .i64 most) := cell_at h3 0
    have HO := Lib.hid h2
    obtain ⟨oa, cap, rfl⟩ := h2.slice
    have hpl : pre.length ≤ 1048576 := by have := hpre.length_le; simp at this; omega
    have hbase : w.heap.size ≤ (W.alloc (.cells #[.int .i64 x1, .int .i64 x2, .int .i64 x3] 32)).heap.size := by simp; omega
    have H3 := Lib.hid h3
    clear h2 h3
    simp only [toldFrame, akV]
    by_cases hge : most ≤ (pre.length : Int)
    · gi_wp2
      refine ⟨_, ⟨rfl, ?_, ?_⟩, Keeps.refl _ _, GrowsG.refl _ _⟩
      · rw [List.dropLast_concat]; exact ⟨_, h1, HO.out, rfl⟩
      · simp; omega
    · obtain ⟨i0, hi, hz0, hz1, hz2⟩ := info_parts info32
      gi_wp2_with (gi_at_builtin; refine wpListIn_pushG (z := .agg #[.int .i64 0, .int .i64 0, .int .i64 0]) (bytes := 24) Try.underlying51 hi hz0 hz1 hz2 (by simp [Value.cells]) (by decide) akL akL_length akL_one rfl _ _ rfl w.heap.size (.slice oa pre.length cap) pre (⟨x1, x2, x3⟩ : AskD) rfl (HO.out.alloc _) W.heap.size rfl (obj_alloc_at _ _ _ rfl) hpl (by decide) hbase ?_; rintro v' W3 hown' hg3 hob; obtain ⟨oa', cap', e'⟩ := hown'.slice; rw [List.length_append, List.length_singleton] at e'; subst e'; obtain ⟨h1', HP⟩ := GrowAt.push (by decide) h1 HO.out hown' hg3 hob; have hPP := Lib.hid HP; have hlt1 := lt_of_obj h1'; have hd1 := cell_at h1' 0; have hf1 := frozen_at h1'; clear hown' hg3 hob HP)
      obtain ⟨G', p1, p2, p3⟩ := hPP.out
      refine ⟨G', ⟨p1, ?_, by simp; omega⟩, p2, p3⟩
      exact (p2.block _ hmb (fun hh => by
        rcases hh with hh | hh
        · omega
        · exact HO.out.ne H3.out (fun cur e => by cases e) hh)).trans H3.out
  case done =>
    rintro d G W hD' _ ⟨⟨sv, h1, h2, rfl⟩, h3, hI2⟩ hk _ hKD
    have hlb := lt_of_obj h1
    have cb : W.cell? ⟨w.heap.size + 1, 0, none⟩ = some sv := cell_at h1 0
    have HO := Lib.hid h2
    have HK := Lib.hid hk
    clear h2 hk
    gi_wp2
    refine ⟨by simp, .inl ⟨_, _, rfl, run_takeDeferred hKD, ?_⟩⟩
    have hgr := grownBy_putObj' W d (.deferred none)
    have hrr : ∀ r, some d = some r → w.heap.size ≤ r ∧ ∃ o : Obj, W.heap[r]? = some o ∧ o.isCells = false := fun r e => by cases e; exact ⟨by omega, _, hKD, rfl⟩
    have hbW : Below w.heap.size w W := b1.trans (HK.out.below (fun k hk => by
      rcases hk with rfl | hk
      · omega
      · simp [Value.ownBlock] at hk) (by simp; omega))
    exact ⟨_, results_tmp rfl _ _ _, sv, rfl, (show xs = xs.take most.toNat from (List.take_of_length_le hI2).symm) ▸ HO.out.grown hgr hrr, below_grown hbW (Nat.le_refl _) (Nat.le_refl _) hgr hrr⟩
  case stop =>
    rintro d c pre G W hD' _ hpre ⟨rfl, ⟨sv, h1, h2, rfl⟩, hI2⟩ hk _ hKD
    have hlb := lt_of_obj h1
    have cb : W.cell? ⟨w.heap.size + 1, 0, none⟩ = some sv := cell_at h1 0
    have HO := Lib.hid h2
    have HK := Lib.hid hk
    clear h2 hk
    gi_wp2
    refine ⟨by simp, .inl ⟨_, _, rfl, run_takeDeferred hKD, ?_⟩⟩
    have hgr := grownBy_putObj' W d (.deferred none)
    have hrr : ∀ r, some d = some r → w.heap.size ≤ r ∧ ∃ o : Obj, W.heap[r]? = some o ∧ o.isCells = false := fun r e => by cases e; exact ⟨by omega, _, hKD, rfl⟩
    have hbW : Below w.heap.size w W := b1.trans (HK.out.below (fun k hk => by
      rcases hk with rfl | hk
      · omega
      · simp [Value.ownBlock] at hk) (by simp; omega))
    exact ⟨_, results_tmp rfl _ _ _, sv, rfl, (show pre.dropLast = xs.take most.toNat from by rw [← hI2]; exact List.prefix_iff_eq_take.1 ((List.dropLast_prefix _).trans hpre)) ▸ HO.out.grown hgr hrr, below_grown hbW (Nat.le_refl _) (Nat.le_refl _) hgr hrr⟩
end Go.Proofs.Ytnaknoebjbmboaa
