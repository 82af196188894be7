import Derived.Test.YtnaknoebjbmboaaMapVals
import Derived.Test.YtnaknoebjbmboaaTold
import Derived.Maps.AppendAt
namespace Go.Proofs.Ytnaknoebjbmboaa
open Go.RowKit Go.Shelf
attribute [local go_sem] Oper.semAt_some

def colFrame (bx : Nat) (sq : Value) (x : AskD) (c : Nat) : Act :=
  { tmps := #[.slice none 0 0, sq, .pointer (some ⟨bx, 0, none⟩), undef, .slice none 0 0, .pointer (some ⟨c, 0, none⟩), sq, akV x, undef, undef, undef, undef, undef], defers := [] }
theorem SomeOf.len {L : List (Int × AskD)} {ys : List AskD} (h : SomeOf L ys) : ys.length ≤ L.length := by
  obtain ⟨rest, h⟩ := h
  have := h.length_eq
  simp at this
  omega
/-- a slice of the call's own, of all that a map holds, in some order -/
def RetSome (w : World) (L : List (Int × AskD)) (e : Ending) (w' : World) : Prop := ∃ ys v, e = .returned v ∧ ys.Perm (L.map (·.2)) ∧ OwnS w' w.heap.size 32 3 akL v ys ∧ Below w.heap.size w w'
set_option maxRecDepth 100000 in
set_option maxHeartbeats 2000000 in
theorem appendSeq_map (w w0 : World) (Bs : Nat) (L : List (Int × AskD)) (eg : ∀ args w, (callFunc 40 args).run Try.prog w = .ok (.enter 40 args) w) {D : Nat → Prop} (hD : ∀ k, D k → k < w0.heap.size) (hs : SeqP Fence.wide 3 Try.prog 40 #[.pointer (some ⟨Bs, 0, none⟩)] (fun x : AskD => #[akV x]) (SomeOf L) (fun ys => ys.Perm (L.map (·.2))) D w0) (hb : Agree D w0 w) (hlen : L.length ≤ 1048576) :
    Calls Try.prog 46 #[.slice none 0 0, .func (.func 40) #[] #[.pointer (some ⟨Bs, 0, none⟩)]] w (RetSome w L) := by
  have hrow := hide_row51
  refine (callsIn_wide (n := 4)).1 ?_
  refine callsIn_of_wp_marks Try.func46 rfl trivial ?_ rfl
  simp only [Try.ntmps46, List.size_toArray, List.length_cons, List.length_nil, Nat.reduceAdd, Nat.reduceSub, Array.replicate_succ, Array.replicate_zero, List.push_toArray, List.append_toArray, List.nil_append, List.cons_append]
  have HS := Lib.hid hs
  clear hs
  gi_wp2
  have hz0 := hb.size
  have b1 : Below w.heap.size w (w.alloc (.cells #[.slice none 0 0] 51)) := (Below.refl _ w).alloc (Nat.le_refl _) _
  have o1 : obj (w.alloc (.cells #[.slice none 0 0] 51)) w.heap.size = some (.cells #[.slice none 0 0] 51 (0, 0)) := obj_alloc_at _ _ _ rfl
  refine wpIn_range_ownP rfl (by decide) (gf := 40) (lb := #[.pointer (some ⟨Bs, 0, none⟩)]) rfl trivial eg hD HS.out (hb.trans ⟨b1.size, fun k hk => obj_below b1 (Nat.lt_of_lt_of_le (hD k hk) hz0)⟩) (fun _ => rfl)
    (GrowAt 51 32 3 akL w.heap.size w.heap.size) (fun _ _ _ _ => False) (GrowAt.owned (fun k hk => Nat.lt_of_lt_of_le (hD k hk) hz0) (fun k hk => Nat.lt_of_lt_of_le (hD k hk) hz0)) (GrowAt.abides _) (fun _ _ _ _ _ h _ => h.elim) (fun k => k = w.heap.size ∨ (Value.slice none 0 0).ownBlock = some k) ⟨_, o1, OwnS.nil _ _ _ _ _, rfl⟩
    (fun x a' W => ∃ c, obj W c = some (.cells #[.int .i64 x.id, .int .i64 x.node, .int .i64 x.kind] 32 (0, 0)) ∧ a' = colFrame w.heap.size (.func (.func 40) #[] #[.pointer (some ⟨Bs, 0, none⟩)]) x c)
    ?hAx ?assign ?body ?done ?stop
  case hAx =>
    rintro x a' W r o o' ⟨c, h1, h2⟩ ho hc
    exact ⟨c, ax_put h1 ho hc, h2⟩
  case assign =>
    rintro l pre G x W K _ hK
    have HK := Lib.hid hK
    clear hK
    gi_wp2
    exact HK.out _ _ ((Below.refl _ W).alloc (Nat.le_refl _) _) ⟨W.heap.size, obj_alloc_at _ _ _ rfl, rfl⟩
  case body =>
    rintro l pre G x a' W hl hlw hnl ⟨sv, h1, h2, rfl⟩ ⟨c, hc, rfl⟩ hpre
    have hlb := lt_of_obj h1
    have hcz := lt_of_obj hc
    have cb : W.cell? ⟨w.heap.size, 0, none⟩ = some sv := cell_at h1 0
    have HO := Lib.hid h2
    obtain ⟨oa, cap, rfl⟩ := h2.slice
    have hpl : pre.length ≤ 1048576 := by have := hpre.len; simp at this; omega
    have hbase : w.heap.size ≤ (W.alloc (.cells #[.int .i64 x.id, .int .i64 x.node, .int .i64 x.kind] 32)).heap.size := by simp; omega
    clear h2
    simp only [colFrame, akV]
    obtain ⟨i0, hi, hz0, hz1, hz2⟩ := info_parts info32
    gi_wp2_with (gi_at_builtin; refine wpListIn_pushG (z := .agg #[.int .i64 0, .int .i64 0, .int .i64 0]) (bytes := 24) Try.underlying51 hi hz0 hz1 hz2 (by simp [Value.cells]) (by decide) akL akL_length akL_one rfl _ _ rfl w.heap.size (.slice oa pre.length cap) pre x rfl (HO.out.alloc _) W.heap.size rfl (obj_alloc_at _ _ _ rfl) hpl (by decide) hbase ?_; rintro v' W3 hown' hg3 hob; obtain ⟨oa', cap', e'⟩ := hown'.slice; rw [List.length_append, List.length_singleton] at e'; subst e'; obtain ⟨h1', HP⟩ := GrowAt.push (by decide) h1 HO.out hown' hg3 hob; have hPP := Lib.hid HP; have hlt1 := lt_of_obj h1'; have hd1 := cell_at h1' 0; have hf1 := frozen_at h1'; clear hown' hg3 hob HP)
    exact hPP.out
  case done =>
    rintro d ys G W hD _ hfi ⟨sv, h1, h2, rfl⟩ hk _ hKD
    have hlb := lt_of_obj h1
    have cb : W.cell? ⟨w.heap.size, 0, none⟩ = some sv := cell_at h1 0
    have HO := Lib.hid h2
    have HK := Lib.hid hk
    have HFI := Lib.hid hfi
    clear h2 hk hfi
    gi_wp2
    refine ⟨by simp, .inl ⟨_, _, rfl, run_takeDeferred hKD, ?_⟩⟩
    have hgr := grownBy_putObj' W d (.deferred none)
    have hrr : ∀ r, some d = some r → w.heap.size ≤ r ∧ ∃ o : Obj, W.heap[r]? = some o ∧ o.isCells = false := fun r e => by cases e; exact ⟨by simp at hD; omega, _, hKD, rfl⟩
    have hbW : Below w.heap.size w W := b1.trans (HK.out.below (fun k hk => by
      rcases hk with rfl | hk
      · exact Nat.le_refl _
      · simp [Value.ownBlock] at hk) (by simp))
    exact ⟨_, results_tmp rfl _ _ _, ys, sv, rfl, HFI.out, HO.out.grown hgr hrr, below_grown hbW (Nat.le_refl _) (Nat.le_refl _) hgr hrr⟩
  case stop =>
    rintro d c pre G W _ _ _ h
    exact h.elim
set_option maxRecDepth 100000 in
theorem collect_map (w w0 : World) (Bs : Nat) (L : List (Int × AskD)) (eg : ∀ args w, (callFunc 40 args).run Try.prog w = .ok (.enter 40 args) w) {D : Nat → Prop} (hD : ∀ k, D k → k < w0.heap.size) (hs : SeqP Fence.wide 3 Try.prog 40 #[.pointer (some ⟨Bs, 0, none⟩)] (fun x : AskD => #[akV x]) (SomeOf L) (fun ys => ys.Perm (L.map (·.2))) D w0) (hb : Agree D w0 w) (hlen : L.length ≤ 1048576) :
    Calls Try.prog 38 #[.func (.func 40) #[] #[.pointer (some ⟨Bs, 0, none⟩)]] w (RetSome w L) := by
  have HA := Lib.hid (appendSeq_map w w0 Bs L eg hD hs hb hlen)
  clear hs
  go_enter Try.func38, Try.ntmps38
  go_wp2_with fail
  refine HA.out.mono ?_
  rintro e w1 ⟨ys, v1, rfl, h1⟩
  have H1 := Lib.hid h1
  clear h1
  go_wp2
  go_ret
  exact ⟨_, _, rfl, H1.out⟩
end Go.Proofs.Ytnaknoebjbmboaa
