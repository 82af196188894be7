import Derived.Test.YtmenfbfekfljbaaIter
import Derived.Test.YtmenfbfekfljbaaBlkIter
import Derived.Test.YtmenfbfekfljbaaPair
import Derived.Maps.AppendAt
import Derived.RangeFuncBox
namespace Go.Proofs.Ytmenfbfekfljbaa
open Go.RowKit Go.Shelf
attribute [local go_sem] Oper.semAt_some

structure ToldAt (w : World) (mb lb : Nat) (most : Int) (pre : List (ID × ID)) (W : World) : Prop where
  row : ∃ sv, obj W lb = some (.cells #[sv] 51 (0, 0)) ∧ OwnS W w.heap.size 59 64 pairL sv pre
  mst : obj W mb = some (.cells #[.int .i64 most] 3 (0, 0))
  blw : Below w.heap.size w W
theorem ToldAt.grown {w W W' : World} {mb lb B : Nat} {most : Int} {pre : List (ID × ID)} {row : Option Nat} (h : ToldAt w mb lb most pre W) (hB : w.heap.size ≤ B) (hg : W.grownBy W' row)
    (hr : ∀ r, row = some r → B ≤ r ∧ ∃ o : Obj, W.heap[r]? = some o ∧ o.isCells = false) : ToldAt w mb lb most pre W' := by
  obtain ⟨⟨sv, h1, h2⟩, h3, h4⟩ := h
  exact ⟨⟨sv, grown_obj hg hr h1, h2.grown hg hr⟩, grown_obj hg hr h3, below_grown h4 (Nat.le_refl _) hB hg hr⟩
theorem ToldAt.from {w : World} {mb lb B : Nat} {most : Int} (hB : w.heap.size ≤ B) : OwnFrom B (ToldAt w mb lb most) := fun _ _ _ _ h hg hr => h.grown hB hg hr

def toldFrame (most : Int) (ib ub wb : Nat) (x : ID × ID) (c1 c2 : Nat) : Act :=
  { tmps := #[.func (.func 47) #[] #[.pointer (some ⟨ib, 0, none⟩), .pointer (some ⟨ub, 0, none⟩)], .int .i64 most, undef, .pointer (some ⟨wb, 0, none⟩), .slice none 0 0, .pointer (some ⟨wb + 1, 0, none⟩), .pointer (some ⟨c1, 0, none⟩), .pointer (some ⟨c2, 0, none⟩),
      .func (.func 47) #[] #[.pointer (some ⟨ib, 0, none⟩), .pointer (some ⟨ub, 0, none⟩)], .bool false, .func (.func 47) #[] #[.pointer (some ⟨ib, 0, none⟩), .pointer (some ⟨ub, 0, none⟩)],
      .agg (idL x.1).toArray, .agg (idL x.2).toArray, undef, undef, undef, undef, undef, undef, undef, undef, undef, undef, undef], defers := [] }
set_option maxRecDepth 100000 in
set_option maxHeartbeats 2000000 in
theorem told_any (w0 w : World) (ib ub m : Nat) (v : Value) (xs : List FactD) (most : Int) (hB : BlkAt w0 ib ub m v xs) (hb0 : Below w0.heap.size w0 w) (hlen : (blkPairs xs).length ≤ 1000) :
    Calls Try.prog 23 #[.func (.func 47) #[] #[.pointer (some ⟨ib, 0, none⟩), .pointer (some ⟨ub, 0, none⟩)], .int .i64 most] w fun e w' => ∃ v', e = .returned v' ∧ OwnS w' w.heap.size 59 64 pairL v' ((blkPairs xs).take most.toNat) ∧ Below w.heap.size w w' := by
  have hq := run_eqlFuncNil
  refine (callsIn_wide (n := 4)).1 ?_
  refine callsIn_of_wp_marks Try.func23 rfl trivial ?_ rfl
  simp only [Try.ntmps23, List.size_toArray, List.length_cons, List.length_nil, Nat.reduceAdd, Nat.reduceSub, Array.replicate_succ, Array.replicate_zero, List.push_toArray, List.append_toArray, List.nil_append, List.cons_append]
  gi_wp2
  have hst := blocks_stops 3 (by decide) hB
  have hb2 : Below w.heap.size w ((w.alloc (Obj.cells #[Value.int IntKind.i64 most] 3)).alloc (Obj.cells #[Value.slice none 0 0] 51)) := ((Below.refl _ w).alloc (Nat.le_refl _) _).alloc (by simp) _
  have hsz : ((w.alloc (Obj.cells #[Value.int IntKind.i64 most] 3)).alloc (Obj.cells #[Value.slice none 0 0] 51)).heap.size = w.heap.size + 1 + 1 := by simp
  have hh0 : ToldAt w w.heap.size (w.heap.size + 1) most [] ((w.alloc (Obj.cells #[Value.int IntKind.i64 most] 3)).alloc (Obj.cells #[Value.slice none 0 0] 51)) := by
    refine ⟨⟨.slice none 0 0, ?_, ?_⟩, ?_, hb2⟩
    · exact obj_alloc_at _ _ _ (by simp)
    · exact OwnS.nil _ _ _ _ _
    · exact (obj_alloc_past _ _ _ (by simp)).trans (obj_alloc_at _ _ _ rfl)
  have HST := Lib.hid hst
  clear hst hB
  refine wpIn_rangeFunc_ownH rfl (by decide) (gf := 47) (lb := #[.pointer (some ⟨ib, 0, none⟩), .pointer (some ⟨ub, 0, none⟩)]) rfl trivial (enters_of Try.func47 (by kernel_rfl) rfl)
    HST.out belowK_t (belowK_b (by have := hb0.size; simp; omega)) (hb0.trans (hb2.mono hb0.size)) (fun _ => rfl)
    (fun pre W => ToldAt w w.heap.size (w.heap.size + 1) most pre W ∧ pre.length ≤ most.toNat)
    (fun c pre W => c = .exit 0 ∧ ToldAt w w.heap.size (w.heap.size + 1) most pre.dropLast W ∧ pre.dropLast.length = most.toNat)
    (fun s W W' row h hg hr => ⟨h.1.grown (by simp; omega) hg hr, h.2⟩)
    (fun c s W W' row h hg hr => ⟨h.1, h.2.1.grown (by simp; omega) hg hr, h.2.2⟩)
    ⟨hh0, Nat.zero_le _⟩
    (fun x a' W => ∃ c1 c2, obj W c1 = some (.cells (idL x.1).toArray 45 (0, 0)) ∧ obj W c2 = some (.cells (idL x.2).toArray 45 (0, 0)) ∧ a' = toldFrame most ib ub w.heap.size x c1 c2)
    (fun x a' s W W' row h hg hr => by obtain ⟨c1, c2, h1, h2, h3⟩ := h; exact ⟨c1, c2, grown_obj hg hr h1, grown_obj hg hr h2, h3⟩)
    ?assign ?body ?done ?stop
  case assign =>
    rintro l pre x W K ⟨hI, hI2⟩ hK
    simp only [pairV]
    have HK := Lib.hid hK
    have hW1 := hI.blw.size
    have hz0 := hb0.size
    have hI' := Lib.hid hI
    clear hK hI
    gi_wp2
    refine HK.out _ _ ((KeepsFrom.of_grownBy (World.grownBy_alloc _ _ none) (fun _ e => by cases e)).trans (KeepsFrom.of_grownBy (World.grownBy_alloc _ _ none) (fun _ e => by cases e))) (((Below.refl _ W).alloc (by omega) _).alloc (by simp; omega) _) ⟨(hI'.out.grown (Nat.le_refl _) (World.grownBy_alloc _ _ none) (fun r e => by cases e)).grown (Nat.le_refl _) (World.grownBy_alloc _ _ none) (fun r e => by cases e), hI2⟩ ⟨W.heap.size, W.heap.size + 1, (obj_alloc_past _ _ _ (by simp)).trans (obj_alloc_at _ _ _ rfl), obj_alloc_at _ _ _ (by simp), rfl⟩
  case body =>
    rintro l pre x a' W hl hloop ⟨⟨⟨sv, h1, h2⟩, h3, h4⟩, hI2⟩ ⟨c1, c2, h5, h6, rfl⟩ hlt
    have hz := h4.size
    have hlb := lt_of_obj h1
    have hmb := lt_of_obj h3
    have hc1 := lt_of_obj h5
    have hc2 := lt_of_obj h6
    have c1' : W.cell? ⟨w.heap.size + 1, 0, none⟩ = some sv := cell_at h1 0
    have c2' : W.cell? ⟨w.heap.size, 0, none⟩ = some (.int .i64 most) := cell_at h3 0
    have H2 := Lib.hid h2
    have H4 := Lib.hid h4
    have hlensv : ∃ oa cap, sv = .slice oa pre.length cap := by
      rcases h2.1.2 with ⟨rfl, e⟩ | ⟨g', cap, cur, rfl, _⟩
      · exact ⟨none, 0, by rw [e]⟩
      · exact ⟨_, cap, rfl⟩
    obtain ⟨oa, cap, rfl⟩ := hlensv
    clear h2 h4 hloop
    simp only [toldFrame]
    by_cases hge : most ≤ (pre.length : Int)
    · gi_wp2
      have hpl : pre.length = most.toNat := by omega
      refine ⟨KeepsFrom.refl _ _, rfl, ?_, ?_⟩
      · rw [List.dropLast_concat]; exact ⟨⟨_, h1, H2.out⟩, h3, H4.out⟩
      · simpa using hpl
    · obtain ⟨i0, hi, hz0, hz1, hz2⟩ := info_parts info59
      gi_wp2_with (gi_at_builtin; refine wpListIn_push Try.underlying51 hi hz0 hz1 hz2 (by simp [Value.cells]) (by decide) pairL pairL_length pairL_one rfl _ _ rfl w.heap.size _ pre (x.1, x.2) rfl (H2.out.alloc _) W.heap.size rfl (obj_alloc_at _ _ _ rfl) (by omega) (by decide) (by simp; omega) ?_; rintro v' W3 hown' hb3 hke; obtain ⟨g', cap', rfl⟩ := hown'.snoc'; have hOW := Lib.hid hown'; have h1' : obj W3 (w.heap.size + 1) = some (.cells #[.slice oa pre.length cap] 51 (0, 0)) := ((hke _ (by simp; omega) ((H2.out.ne h1 (fun cur e => by cases e)))).trans (obj_alloc_past _ _ _ hlb)).trans h1; have hlt1 := lt_of_obj h1'; have hd1 := cell_at h1' 0; have hf1 := frozen_at h1'; clear hown')
      have hz0 := hb0.size
      have hz3 := hb3.size
      have hke' : ∀ k, k < (W.alloc (Obj.cells (pairL (x.1, x.2)).toArray 59)).heap.size → (Value.slice oa pre.length cap).ownBlock ≠ some k → obj W3 k = obj (W.alloc (Obj.cells (pairL (x.1, x.2)).toArray 59)) k := hke
      have hnb := H2.out.ne h3 (fun cur e => by cases e)
      have hg' : g' ≠ w.heap.size + 1 := by
        have := hOW.out.ne h1' (fun cur e => by cases e)
        simpa [Value.ownBlock] using this
      refine ⟨?_, ?_, ⟨⟨_, obj_setCell_at _ h1', ?_⟩, ?_, ?_⟩, ?_⟩
      · exact ((KeepsFrom.of_grownBy (World.grownBy_alloc _ _ none) (fun _ e => by cases e)).trans (keepsFrom_push (H2.out.alloc _) hz3 hke')).trans (KeepsFrom.of_grownBy (grownBy_setCell' _ _ _) (fun j e => by cases e; omega))
      · exact (((Below.refl _ W).alloc (by omega) _).trans (hb3.mono hz0)).setCell (p := ⟨w.heap.size + 1, 0, none⟩) (by show w0.heap.size ≤ w.heap.size + 1; omega) _
      · exact hOW.out.keeps (fun g hg => obj_setCell_ne _ ⟨w.heap.size + 1, 0, none⟩ _ _ (by simp [Value.ownBlock] at hg; subst hg; exact hg'))
      · exact (obj_setCell_ne _ ⟨w.heap.size + 1, 0, none⟩ _ _ (by simp)).trans ((hke' _ (by simp; omega) hnb).trans ((obj_alloc_past _ _ _ hmb).trans h3))
      · exact ((H4.out.alloc (by omega) _).trans hb3).setCell (p := ⟨w.heap.size + 1, 0, none⟩) (by show w.heap.size ≤ w.heap.size + 1; omega) _
      · simp; omega
  case done =>
    rintro D ys W hD rfl ⟨⟨⟨sv, h1, h2⟩, h3, h4⟩, hI2⟩ hK
    have hz := h4.size
    have hlb := lt_of_obj h1
    have c1' : W.cell? ⟨w.heap.size + 1, 0, none⟩ = some sv := cell_at h1 0
    have H2 := Lib.hid h2
    have H4 := Lib.hid h4
    clear h2 h4
    gi_wp2
    refine ⟨by simp, .inl ⟨_, _, rfl, run_takeDeferred hK, ?_⟩⟩
    have hgr := grownBy_putObj' W D (.deferred none)
    have hrr : ∀ r, some D = some r → w.heap.size ≤ r ∧ ∃ o : Obj, W.heap[r]? = some o ∧ o.isCells = false := fun r e => by cases e; exact ⟨by rw [hsz] at hD; omega, _, hK, rfl⟩
    exact ⟨_, results_tmp rfl _ _ _, sv, rfl, (show blkPairs xs = (blkPairs xs).take most.toNat from (List.take_of_length_le hI2).symm) ▸ H2.out.grown hgr hrr, below_grown H4.out (Nat.le_refl _) (Nat.le_refl _) hgr hrr⟩

  case stop =>
    rintro D c pre W hD hpre ⟨rfl, ⟨⟨sv, h1, h2⟩, h3, h4⟩, hI2⟩ hK
    have hz := h4.size
    have hlb := lt_of_obj h1
    have c1' : W.cell? ⟨w.heap.size + 1, 0, none⟩ = some sv := cell_at h1 0
    have H2 := Lib.hid h2
    have H4 := Lib.hid h4
    clear h2 h4
    gi_wp2
    refine ⟨by simp, .inl ⟨_, _, rfl, run_takeDeferred hK, ?_⟩⟩
    have hgr := grownBy_putObj' W D (.deferred none)
    have hrr : ∀ r, some D = some r → w.heap.size ≤ r ∧ ∃ o : Obj, W.heap[r]? = some o ∧ o.isCells = false := fun r e => by cases e; exact ⟨by rw [hsz] at hD; omega, _, hK, rfl⟩
    exact ⟨_, results_tmp rfl _ _ _, sv, rfl, (show pre.dropLast = (blkPairs xs).take most.toNat from by rw [← hI2]; exact List.prefix_iff_eq_take.1 ((List.dropLast_prefix _).trans hpre)) ▸ H2.out.grown hgr hrr, below_grown H4.out (Nat.le_refl _) (Nat.le_refl _) hgr hrr⟩

end Go.Proofs.Ytmenfbfekfljbaa
