import Derived.Test.YtggpmepiggnnnaaValues
import Derived.Test.YtggpmepiggnnnaaDue
import Derived.Maps.AppendAt
namespace Go.Proofs.Ytggpmepiggnnnaa
open Go.RowKit Go.Shelf
attribute [local go_sem] Oper.semAt_some

def colFrame (bx : Nat) (sq : Value) (x : Al) (c : Nat) : Act :=
  { tmps := #[.slice none 0 0, sq, .pointer (some ⟨bx, 0, none⟩), undef, .slice none 0 0, .pointer (some ⟨c, 0, none⟩), sq, alV x, undef, undef, undef, undef, undef], defers := [] }
theorem hide_row29 (a b : Int) (w : World) : (Instr.buildSlice 29 1 #[(0, .agg #[.int .i64 a, .int .i64 b])]).run Try.prog w = .ok (.slice (some ⟨w.heap.size, 0, none⟩) 1 1) (w.alloc (.cells #[.int .i64 a, .int .i64 b] 32)) := by kernel_rfl
set_option maxRecDepth 100000 in
set_option maxHeartbeats 2000000 in
theorem appendSeq_any (w w0 : World) (gf : Nat) (lb : Array Value) (xs : List Al) (eg : ∀ args w, (callFunc gf args).run Try.prog w = .ok (.enter gf args) w) {D : Nat → Prop} (hD : ∀ k, D k → k < w0.heap.size) (hs : SeqG Fence.wide 3 Try.prog gf lb (fun x : Al => #[alV x]) xs D w0) (hb : Agree D w0 w) (hlen : xs.length ≤ 1048576) :
    Calls Try.prog 62 #[.slice none 0 0, .func (.func gf) #[] lb] w (RetOwn w 32 2 alL xs) := by
  have hrow := hide_row29
  refine (callsIn_wide (n := 4)).1 ?_
  refine callsIn_of_wp_marks Try.func62 rfl trivial ?_ rfl
  simp only [Try.ntmps62, List.size_toArray, List.length_cons, List.length_nil, Nat.reduceAdd, Nat.reduceSub, Array.replicate_succ, Array.replicate_zero, List.push_toArray, List.append_toArray, List.nil_append, List.cons_append]
  have HS := Lib.hid hs
  clear hs
  gi_wp2
  have hz0 := hb.size
  have b1 : Below w.heap.size w (w.alloc (.cells #[.slice none 0 0] 29)) := (Below.refl _ w).alloc (Nat.le_refl _) _
  have o1 : obj (w.alloc (.cells #[.slice none 0 0] 29)) w.heap.size = some (.cells #[.slice none 0 0] 29 (0, 0)) := obj_alloc_at _ _ _ rfl
  refine wpIn_range_own rfl (by decide) (gf := gf) (lb := lb) rfl trivial eg hD HS.out (hb.trans ⟨b1.size, fun k hk => obj_below b1 (Nat.lt_of_lt_of_le (hD k hk) hz0)⟩) (fun _ => rfl)
    (GrowAt 29 32 2 alL w.heap.size w.heap.size) (fun _ _ _ _ => False) (GrowAt.owned (fun k hk => Nat.lt_of_lt_of_le (hD k hk) hz0) (fun k hk => Nat.lt_of_lt_of_le (hD k hk) hz0)) (GrowAt.abides _) (fun _ _ _ _ _ h _ => h.elim) (fun k => k = w.heap.size ∨ (Value.slice none 0 0).ownBlock = some k) ⟨_, o1, OwnS.nil _ _ _ _ _, rfl⟩
    (fun x a' W => ∃ c, obj W c = some (.cells #[.int .i64 x.1, .int .i64 x.2] 32 (0, 0)) ∧ a' = colFrame w.heap.size (.func (.func gf) #[] lb) x c)
    ?hAx ?assign ?body ?done ?stop
  case hAx =>
    rintro x a' W r o o' ⟨c, h1, h2⟩ ho hc
    exact ⟨c, ax_put h1 ho hc, h2⟩
  case assign =>
    rintro l pre G ⟨x1, x2⟩ W K _ hK
    have HK := Lib.hid hK
    clear hK
    gi_wp2
    exact HK.out _ _ ((Below.refl _ W).alloc (Nat.le_refl _) _) ⟨W.heap.size, obj_alloc_at _ _ _ rfl, rfl⟩
  case body =>
    rintro l pre G ⟨x1, x2⟩ a' W hl hlw hnl ⟨sv, h1, h2, rfl⟩ ⟨c, hc, rfl⟩ hpre
    have hlb := lt_of_obj h1
    have hcz := lt_of_obj hc
    have cb : W.cell? ⟨w.heap.size, 0, none⟩ = some sv := cell_at h1 0
    have HO := Lib.hid h2
    obtain ⟨oa, cap, rfl⟩ := h2.slice
    have hpl : pre.length ≤ 1048576 := by have := hpre.length_le; simp at this; omega
    have hbase : w.heap.size ≤ (W.alloc (.cells #[.int .i64 x1, .int .i64 x2] 32)).heap.size := by simp; omega
    clear h2
    simp only [colFrame, alV]
    obtain ⟨i0, hi, hz0, hz1, hz2⟩ := info_parts info32
    gi_wp2_with (gi_at_builtin; refine wpListIn_pushG (z := .agg #[.int .i64 0, .int .i64 0]) (bytes := 16) Try.underlying29 hi hz0 hz1 hz2 (by simp [Value.cells]) (by decide) alL alL_length alL_one rfl _ _ rfl w.heap.size (.slice oa pre.length cap) pre (x1, x2) rfl (HO.out.alloc _) W.heap.size rfl (obj_alloc_at _ _ _ rfl) hpl (by decide) hbase ?_; rintro v' W3 hown' hg3 hob; obtain ⟨oa', cap', e'⟩ := hown'.slice; rw [List.length_append, List.length_singleton] at e'; subst e'; obtain ⟨h1', HP⟩ := GrowAt.push (by decide) h1 HO.out hown' hg3 hob; have hPP := Lib.hid HP; have hlt1 := lt_of_obj h1'; have hd1 := cell_at h1' 0; have hf1 := frozen_at h1'; clear hown' hg3 hob HP)
    exact hPP.out
  case done =>
    rintro d G W hD _ ⟨sv, h1, h2, rfl⟩ hk _ hKD
    have hlb := lt_of_obj h1
    have cb : W.cell? ⟨w.heap.size, 0, none⟩ = some sv := cell_at h1 0
    have HO := Lib.hid h2
    have HK := Lib.hid hk
    clear h2 hk
    gi_wp2
    refine ⟨by simp, .inl ⟨_, _, rfl, run_takeDeferred hKD, ?_⟩⟩
    have hgr := grownBy_putObj' W d (.deferred none)
    have hrr : ∀ r, some d = some r → w.heap.size ≤ r ∧ ∃ o : Obj, W.heap[r]? = some o ∧ o.isCells = false := fun r e => by cases e; exact ⟨by simp at hD; omega, _, hKD, rfl⟩
    have hbW : Below w.heap.size w W := b1.trans (HK.out.below (fun k hk => by
      rcases hk with rfl | hk
      · exact Nat.le_refl _
      · simp [Value.ownBlock] at hk) (by simp))
    exact ⟨_, results_tmp rfl _ _ _, sv, rfl, HO.out.grown hgr hrr, below_grown hbW (Nat.le_refl _) (Nat.le_refl _) hgr hrr⟩
  case stop =>
    rintro d c pre G W _ _ _ h
    exact h.elim
end Go.Proofs.Ytggpmepiggnnnaa
