import Derived.Test.YtmenfbfekfljbaaWins
import Derived.Deep.DeepAppendRoom
namespace Go.Proofs.Ytmenfbfekfljbaa
open Go.RowKit Go.Shelf

theorem info54 : (Try.prog.info? 54).map (fun i => (i.zero, i.size, i.bytes)) = some (some (.agg (factL FactD.zero).toArray), 72, 160) := by kernel_rfl
/-- a row of the call's own with room -/
def RoomAt (w : World) (base : Nat) (v : Value) (tot : Nat) (xs : List FactD) : Prop :=
  (v = .slice none 0 0 ∧ tot = 0 ∧ xs = []) ∨ ∃ g cap, v = .slice (some ⟨g, 0, none⟩) xs.length cap ∧ tot ≤ cap ∧ w.ownsRow base 54 72 v xs.length (xs.flatMap factL)
theorem RoomAt.own {w : World} {base : Nat} {v : Value} {tot : Nat} {xs : List FactD} (h : RoomAt w base v tot xs) (ht : xs.length = tot) (h0 : tot = 0 → v = .slice none 0 0) : OwnS w base 54 72 factL v xs := by
  rcases h with ⟨rfl, _, rfl⟩ | ⟨g, cap, rfl, _, h⟩
  · exact OwnS.nil _ _ _ _ _
  · refine ⟨h, ?_⟩
    constructor
    · intro e; cases e
    · rintro rfl
      exact absurd (h0 (by simpa using ht.symm)) (by simp)
theorem run_room (w : World) (base : Nat) (v : Value) (tot : Nat) (xs ys : List FactD) (ty : TypeId) (hown : RoomAt w base v tot xs) (sv : Value) (hsl : SlIn w sv 72 factL ys) (hroom : xs.length + ys.length ≤ tot) (hbs : base ≤ w.heap.size) :
    ∃ v' w', (Builtin.append_ #[22, 22] ty #[v, sv]).run Try.prog w = .ok v' w' ∧ RoomAt w' base v' tot (xs ++ ys) ∧ Below base w w' ∧ (v = .slice none 0 0 → v' = .slice none 0 0) := by
  obtain ⟨i0, hi, hz0, hz1, hz2⟩ := info_parts info54
  obtain ⟨oa, c, rfl, g1, g2, g3⟩ := hsl
  rcases hown with ⟨rfl, rfl, rfl⟩ | ⟨g, cap, rfl, hc, hown⟩
  · have hy : ys = [] := List.length_eq_zero_iff.1 (by have := hroom; rw [List.length_nil] at this; omega)
    subst hy
    obtain ⟨v', w', hr, h1, h2, h3⟩ := run_pushAll Try.underlying22 hi hz0 hz1 hz2 (by simp [Value.cells]) (by decide) factL_length factL_one ty base (.slice none 0 0) ([] : List FactD) [] (OwnS.nil w base 54 72 factL) (.slice oa 0 c) ⟨oa, c, rfl, g1, g2, g3⟩ (by simp) (by decide) hbs
    have hv := h1.2.2 rfl
    subst hv
    exact ⟨_, w', hr, .inl ⟨rfl, rfl, rfl⟩, h2, fun _ => rfl⟩
  · cases oa with
    | none =>
      have hy : ys = [] := by
        cases ys with
        | nil => rfl
        | cons y ys => obtain ⟨b, off, e, _⟩ := g3 (by simp); cases e
      subst hy
      have hle : xs.length ≤ cap := by simp at hroom; omega
      refine ⟨_, w, run_append_nothing w 22 22 ty 54 i0 Try.underlying22 hi (some ⟨g, 0, none⟩) xs.length cap hle _ (Src.ofNil w Try.underlying22 c), .inr ⟨g, cap, by simp, hc, ?_⟩, Below.refl _ _, fun e => by cases e⟩
      simpa using hown
    | some ad =>
      obtain ⟨w', hr, h1, h2⟩ := run_append_own_spare (P := Try.prog) w base 22 ty 54 i0 72 Try.underlying22 hi hz1 g xs.length cap (xs.flatMap factL) hown ad ys.length c (ys.flatMap factL) (flatMap_len factL_length _) (fun j u hu => by
        have hpos : 0 < ys.length := by
          cases ys with
          | nil => simp at hu
          | cons => simp
        obtain ⟨b, off, e, _, hr⟩ := g3 hpos
        cases e
        rw [Addr.add_lit]
        exact row_cells factL_length (by decide) hr hu) (fun u hu => by
        obtain ⟨y, _, hy⟩ := List.mem_flatMap.1 hu
        have := factL_one y; simp only [allOne, List.all_eq_true] at this; exact this u hy) (by omega)
      refine ⟨_, w', hr, .inr ⟨g, cap, by rw [List.length_append], hc, by simpa using h1⟩, ⟨h2.os, h2.tape, h2.output, h2.size, fun j hj => h2.block j (by omega) (fun e => ?_)⟩, fun e => by cases e⟩
      have := (hown.lt j (by simpa [Value.ownBlock] using e.symm)).1
      omega
set_option maxRecDepth 100000 in
set_option maxHeartbeats 2000000 in
/-- slices.Grow of nothing -/
theorem grow_any (w : World) (n : Nat) (hn : n * 160 ≤ 281474976710656) :
    Calls Try.prog 58 #[.slice none 0 0, .int .i64 (n : Int)] w fun e w' => ∃ v, e = .returned v ∧ RoomAt w' w.heap.size v n [] ∧ Below w.heap.size w w' ∧ (n = 0 → v = .slice none 0 0) := by
  obtain ⟨i0, hi, hz0, hz1, hz2⟩ := info_parts info54
  have d0 : decide ((n : Int) < 0) = false := by simp
  have hw : IntKind.i64.wrap (n : Int) = (n : Int) := by simp [IntKind.wrap, IntKind.signed, IntKind.bits]; omega
  by_cases h0 : n = 0
  · subst h0
    go_enter Try.func58, Try.ntmps58
    go_wp2
    go_ret
    exact ⟨_, rfl, .inl ⟨rfl, rfl, rfl⟩, Below.refl _ _, fun _ => rfl⟩
  · have d1 : decide ((0 : Int) < (n : Int)) = true := by simp; omega
    obtain ⟨cp, wn, hr, hge, hown, hbl⟩ : ∃ cp wn, (Builtin.append_ #[22, 3] 22 #[.slice none 0 0, .int .i64 (n : Int)]).run Try.prog w = .ok (.slice (some ⟨w.heap.size, 0, none⟩) n cp) wn ∧ n ≤ cp ∧ wn.ownsRow w.heap.size 54 72 (.slice (some ⟨w.heap.size, 0, none⟩) 0 cp) 0 [] ∧ Below w.heap.size w wn := by
      refine ⟨_, _, Lib.run_append_nil_zeros (P := Try.prog) w 22 3 22 54 i0 _ .i64 .i64 Try.underlying22 Try.underlying3 hi hz0 n (by omega) (by omega) (by omega) (by rw [hz2]; exact hn), grownCap_ge w n 0 54, ?_, ?_⟩
      · refine ⟨by simp, .inr ⟨w.heap.size, _, _, rfl, Nat.le_refl _, heap_alloc_new w.drew _, Nat.zero_le _, grownCap_le_maxLen w n 0 54 (by unfold maxLen; omega), ?_, by simp⟩⟩
        have hge := grownCap_ge w n 0 54
        simp only [Array.size_append, size_zeroCells, Value.cells, List.size_toArray, factL_length, ← Nat.add_mul]
        congr 1
        omega
      · exact ((Below.refl _ w).drew).alloc (Nat.le_refl _) _
    have hcm : cp ≤ 9223372036854775807 := by
      rcases hown.2 with ⟨h1, _⟩ | ⟨_, _, _, h1, _, _, _, h2, _⟩
      · cases h1
      · simp only [Value.slice.injEq] at h1
        unfold maxLen at h2
        omega
    have HO := Lib.hid hown
    have HBL := Lib.hid hbl
    clear hown hbl
    go_enter Try.func58, Try.ntmps58
    go_wp2_with (at_builtin; refine Lib.wpList_append_run (P := Try.prog) w rfl _ _ 22 3 rfl _ _ rfl rfl _ _ hr ?_)
    go_ret
    exact ⟨_, rfl, .inr ⟨_, cp, rfl, hge, HO.out⟩, HBL.out, fun e => absurd e h0⟩
def CatIn (w : World) (c : Nat) (v1 v2 : Value) : Prop := obj w c = some (.cells #[v1, v2] 22 (0, 0))
set_option maxRecDepth 100000 in
set_option maxHeartbeats 4000000 in
/-- slices.Concat of two -/
theorem concat_any (w : World) (c : Nat) (v1 v2 : Value) (xs ys : List FactD) (hc : obj w c = some (.cells #[v1, v2] 22 (0, 0))) (h1 : SlIn w v1 72 factL xs) (h2 : SlIn w v2 72 factL ys) (hn : (xs.length + ys.length) * 160 ≤ 281474976710656) :
    Calls Try.prog 38 #[.slice (some ⟨c, 0, none⟩) 2 2] w fun e w' => ∃ v, e = .returned v ∧ OwnS w' w.heap.size 54 72 factL v (xs ++ ys) ∧ Below w.heap.size w w' := by
  have H1 := Lib.hid h1
  have H2 := Lib.hid h2
  have HC := Lib.hid hc
  have c0 : w.cell? ⟨c, 0, none⟩ = some v1 := cell_at hc 0
  have c1 : w.cell? ⟨c, 1, none⟩ = some v2 := cell_at hc 1
  have hcl := lt_of_obj hc
  obtain ⟨oa1, cp1, rfl, _, _, _⟩ := h1
  obtain ⟨oa2, cp2, rfl, _, _, _⟩ := h2
  obtain ⟨tot, htot⟩ : ∃ tot, tot = xs.length + ys.length := ⟨_, rfl⟩
  have hw1 : IntKind.i64.wrap ((xs.length : Nat) : Int) = (xs.length : Int) := by simp [IntKind.wrap, IntKind.signed, IntKind.bits]; omega
  have hw2 : IntKind.i64.wrap ((xs.length : Int) + (ys.length : Int)) = (tot : Int) := by simp [IntKind.wrap, IntKind.signed, IntKind.bits]; omega
  have d1 : decide ((xs.length : Int) < 0) = false := by simp
  have d2 : decide ((tot : Int) < 0) = false := by simp
  have HG := Lib.hid (grow_any w tot (by rw [htot]; exact hn))
  have HTOT := Lib.hid htot
  clear hc htot hn
  go_enter Try.func38, Try.ntmps38
  go_wp2
  refine wp_loop_rounds 3 ?_
  rw [rounds_succ]
  go_wp2
  rw [rounds_succ]
  go_wp2
  rw [rounds_succ]
  go_wp2_with fail
  refine HG.out.mono ?_
  rintro e w1 ⟨v6, rfl, r1, b1, hnil⟩
  have hz1 := b1.size
  obtain ⟨v7, w2, hr2, r2, b2, n2⟩ := run_room w1 w.heap.size v6 tot [] xs 22 r1 _ (H1.out.below b1) (by have := HTOT.out; simp; omega) hz1
  have hz2 := b2.size
  obtain ⟨v8, w3, hr3, r3, b3, n3⟩ := run_room w2 w.heap.size v7 tot _ ys 22 r2 _ (H2.out.below (b1.trans b2)) (by have := HTOT.out; simp; omega) (by omega)
  have e0 := (obj_below b1 (show c < w.heap.size by exact hcl)).trans HC.out
  have e1 := (obj_below b2 (show c < w.heap.size by exact hcl)).trans e0
  have k0 : w1.cell? ⟨c, 0, none⟩ = some (.slice oa1 xs.length cp1) := cell_at e0 0
  have k1 : w2.cell? ⟨c, 1, none⟩ = some (.slice oa2 ys.length cp2) := cell_at e1 1
  have kl0 := lt_of_obj e0
  have kl1 := lt_of_obj e1
  have HOW : Hid (OwnS w3 w.heap.size 54 72 factL v8 (xs ++ ys)) := Lib.hid (by
    have := r3.own (by have := HTOT.out; simp; omega) (fun h => n3 (n2 (hnil h)))
    simpa using this)
  have HB3 := Lib.hid (b1.trans (b2.trans b3))
  clear r1 r2 r3 b1 b2 b3 n2 n3 hnil e0 e1 c0 c1
  go_wp2
  refine wp_loop_rounds 3 ?_
  rw [rounds_succ]
  go_wp2_with (at_builtin; refine Lib.wpList_append_run (P := Try.prog) w1 rfl _ _ 22 22 rfl _ _ rfl rfl _ _ hr2 ?_)
  rw [rounds_succ]
  go_wp2_with (at_builtin; refine Lib.wpList_append_run (P := Try.prog) w2 rfl _ _ 22 22 rfl _ _ rfl rfl _ _ hr3 ?_)
  rw [rounds_succ]
  go_wp2
  go_ret
  exact ⟨v8, rfl, HOW.out, HB3.out⟩
end Go.Proofs.Ytmenfbfekfljbaa
