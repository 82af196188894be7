import Derived.Test.YtggpmepiggnnnaaPeek
namespace Go.Proofs.Ytggpmepiggnnnaa
open Go.RowKit

theorem flatMap_take (n : Nat) : ∀ (L : List Al), (L.flatMap alL).take (n * 2) = (L.take n).flatMap alL := by
  induction n with
  | zero => intro L; simp
  | succ n ih =>
    intro L
    cases L with
    | nil => simp
    | cons x L =>
      have := ih L
      rw [List.take_succ_cons, List.flatMap_cons, List.flatMap_cons, show (n + 1) * 2 = n * 2 + 2 by omega]
      simp only [alL, List.cons_append, List.nil_append, List.take_succ_cons]
      rw [this]
/-- the last one is cut off the row -/
theorem rawAt_cut {w : World} {F : Nat → Prop} {hb m g cap n : Nat} {L : List Al} {M : List (Int × Int)} (h : RawAt w F hb m (.slice (some ⟨g, 0, none⟩) L.length cap) L M) (hn : L.length = n + 1) :
    RawAt (w.setCell ⟨hb, 0, none⟩ (.slice (some ⟨g, 0, none⟩) n cap)) F hb m (.slice (some ⟨g, 0, none⟩) n cap) (L.take n) M := by
  obtain ⟨_, _, e', p1, p2, p3⟩ := row_sub h.row
  simp only [Value.slice.injEq] at e'
  obtain ⟨rfl, _, rfl⟩ := e'
  obtain ⟨g', cur, e2, _, _, hg, hcs, htk⟩ := p3 (by omega)
  simp only [Option.some.injEq, Addr.mk.injEq, and_true] at e2
  subst e2
  have hbox := h.box
  have hl : (L.take n).length = n := by simp; omega
  have n1 : g ≠ hb := fun e => by subst e; rw [hbox] at hg; cases hg
  obtain ⟨es, clk, hm, hr⟩ := h.map
  have n2 : m ≠ hb := fun e => by subst e; rw [hbox] at hm; cases hm
  refine ⟨by rw [obj_setCell_at _ hbox]; rfl, ⟨by rw [flatMap_len alL_length], .inr ⟨g, cap, cur, by rw [hl], Nat.zero_le _, (obj_setCell_ne _ ⟨hb, 0, none⟩ _ _ n1).trans hg, by rw [hl]; omega, p2, hcs, ?_⟩⟩, ⟨es, clk, (obj_setCell_ne _ ⟨hb, 0, none⟩ _ _ n2).trans hm, hr⟩, h.fb, h.fm, fun g' hg' => h.fr g' hg', fun k hk => by have := h.old k hk; simpa using this⟩
  rw [hl, ← flatMap_take, ← htk, List.take_take, Nat.min_eq_left (by omega)]
/-- the map turns -/
theorem rawAt_map {w : World} {F : Nat → Prop} {hb m : Nat} {sv : Value} {L : List Al} {M M' : List (Int × Int)} (h : RawAt w F hb m sv L M) {es : Array MapEntry} {clk : Nat} (hr : RepI intV es.toList M') : RawAt (putObj w m (.map es clk)) F hb m sv L M' := by
  have hbox := h.box
  obtain ⟨es0, clk0, hm, _⟩ := h.map
  have n1 : hb ≠ m := fun e => by subst e; rw [hbox] at hm; cases hm
  refine ⟨(obj_putObj_ne _ _ _ _ n1).trans hbox, ⟨h.row.1, ?_⟩, ⟨es, clk, obj_putObj_eq _ _ _ (lt_of_obj hm), hr⟩, h.fb, h.fm, h.fr, fun n hn => by have := h.old n hn; simpa using this⟩
  rcases h.row.2 with h1 | ⟨g, cap, cur, e, h2, h3, h4⟩
  · exact .inl h1
  · have e3 : obj w g = some (.cells cur 32 (0, 0)) := h3
    have n2 : g ≠ m := fun e' => by subst e'; rw [e3] at hm; cases hm
    exact .inr ⟨g, cap, cur, e, h2, (obj_putObj_ne _ _ _ _ n2).trans e3, h4⟩
end Go.Proofs.Ytggpmepiggnnnaa
