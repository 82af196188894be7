import Derived.Test.YtnaknoebjbmboaaNil
import Derived.RangeFuncBox
namespace Go.Proofs.Ytnaknoebjbmboaa
open Go.RowKit Go.Shelf
attribute [local go_sem] Oper.semAt_some

set_option maxRecDepth 100000 in
set_option maxHeartbeats 2000000 in
theorem of_nonep (w : World) (p : Value) (node : Int) (h : NoneP w p) : Calls Try.prog 17 #[p, .int .i64 node] w fun e w' => e = .returned (.int .i64 0) ∧ Below w.heap.size w w' := by
  have b1 : Below w.heap.size w ((w.alloc (.cells #[.int .i64 node] 3)).alloc (.cells #[.int .i64 0] 3)) := ((Below.refl _ w).alloc (Nat.le_refl _) _).alloc (by simp) _
  have o1 : obj ((w.alloc (.cells #[.int .i64 node] 3)).alloc (.cells #[.int .i64 0] 3)) (w.heap.size + 1) = some (.cells #[.int .i64 0] 3 (0, 0)) := obj_alloc_at _ _ _ (by simp)
  have HN := Lib.hid (all_nonep _ p (h.below b1))
  clear h
  refine (callsIn_wide (n := 5)).1 ?_
  refine callsIn_of_wp_marks Try.func17 rfl trivial ?_ rfl
  simp only [Try.ntmps17, List.size_toArray, List.length_cons, List.length_nil, Nat.reduceAdd, Nat.reduceSub, Array.replicate_succ, Array.replicate_zero, List.push_toArray, List.append_toArray, List.nil_append, List.cons_append]
  gi_wp2
  refine ⟨trivial, (callsIn_wide.2 HN.out).mono ?_⟩
  clear HN
  generalize (w.alloc (.cells #[.int .i64 node] 3)).alloc (.cells #[.int .i64 0] 3) = w1 at *
  rintro e w2 ⟨⟨lb, v, rfl, hV⟩, b2⟩
  have o2 := (obj_below b2 (lt_of_obj o1)).trans o1
  have B2 := Lib.hid (b1.trans (b2.mono b1.size))
  have HV := Lib.hid (values_seq 4 (by decide) (fun k hk => hk) hV)
  have z2 := lt_of_obj o2
  clear b1 b2 o1 hV
  gi_wp2
  refine wpIn_range_own rfl (by decide) (gf := 42) (lb := #[.pointer (some ⟨lb, 0, none⟩)]) rfl trivial eg42 (fun k hk => hk) HV.out (Agree.refl _ _) (fun _ => rfl)
    (fun pre G W => pre = [] ∧ (∀ k, ¬ G k) ∧ obj W (w.heap.size + 1) = some (.cells #[.int .i64 0] 3 (0, 0)))
    (fun c pre G W => False) ?hIo ?hI ?hIx (fun _ => False) ⟨rfl, fun _ h => h, o2⟩
    (fun x a' W => True) ?hAx ?assign ?body ?done ?stop
  case hIo =>
    rintro pre G W ⟨_, h, _⟩ k hk
    exact (h k hk).elim
  case hI =>
    rintro pre G W W' ⟨e, hg, h⟩ hk
    exact ⟨e, hg, (hk.block _ (lt_of_obj h) (fun hh => by omega)).trans h⟩
  case hIx =>
    rintro c pre G W W' h _
    exact h
  case hAx =>
    rintro x a' W r o o' h _ _
    trivial
  case assign =>
    rintro l pre G ⟨x1, x2, x3⟩ W K _ hK
    have HK := Lib.hid hK
    clear hK
    gi_wp2
    exact HK.out _ _ ((Below.refl _ W).alloc (Nat.le_refl _) _) trivial
  case body =>
    rintro l pre G x a' W _ _ _ _ _ hp
    have := hp.length_le
    simp at this
  case done =>
    rintro d G W hD _ ⟨_, _, h⟩ hk _ hKD
    have hb := lt_of_obj h
    have cb : W.cell? ⟨w.heap.size + 1, 0, none⟩ = some (.int .i64 0) := cell_at h 0
    have HK := Lib.hid hk
    clear hk h
    gi_wp2
    refine ⟨by simp, .inl ⟨_, _, rfl, run_takeDeferred hKD, ?_⟩⟩
    have hgr := grownBy_putObj' W d (.deferred none)
    have hrr : ∀ r, some d = some r → w.heap.size ≤ r ∧ ∃ o : Obj, W.heap[r]? = some o ∧ o.isCells = false := fun r e => by cases e; exact ⟨by omega, _, hKD, rfl⟩
    have hbW : Below w.heap.size w W := B2.out.trans (HK.out.below (fun k hk => hk.elim) (by omega))
    exact ⟨_, results_tmp rfl _ _ _, rfl, below_grown hbW (Nat.le_refl _) (Nat.le_refl _) hgr hrr⟩
  case stop =>
    rintro d c pre G W _ _ _ h
    exact h.elim
end Go.Proofs.Ytnaknoebjbmboaa
