import Derived.Test.YtnaknoebjbmboaaRefK
import Derived.Deep.RegionHeld3
namespace Go.Proofs.Ytnaknoebjbmboaa
open Go.RowKit

theorem ref_reply_same (k : Int) (w : World) : Calls Try.prog 12 #[.int .i64 k] w fun e w' => e = .returned (.int .i64 (replyOf k)) ∧ w' = w :=
  (ref_reply_any k w).mono fun _ _ ⟨he, hw⟩ => ⟨he, hw.symm⟩
theorem below_drewN {B : Nat} {a w : World} (h : Below B a w) (n : Nat) : Below B a (w.drewN n) := ⟨h.os, h.tape, h.output, h.size, h.block⟩

theorem RefK.upd {w : World} {G : Nat → Prop} {rb : Nat} {S S' : RefD} {W : List AskD} {i : Nat} {u : Value} (h : RefK w G rb S W) (hc : ∀ v, (refC S v).setIfInBounds i u = refC S' v) : RefK (w.setCell ⟨rb, i, none⟩ u) G rb S' W ∧ Keeps (fun n => n = rb) w (w.setCell ⟨rb, i, none⟩ u) := by
  obtain ⟨v, h1, h2, h3⟩ := h
  exact ⟨⟨v, by rw [obj_setCell_at _ h1, hc], h2.keeps fun g hg => obj_setCell_ne _ _ _ _ (fun e => h2.ne h1 (fun cur e' => by cases e') (by rw [hg, e])), h3⟩, (Keeps.refl (fun n => n = rb) _).setCell (a := ⟨rb, i, none⟩) (.inl rfl) _⟩
theorem RefIn.upd {w : World} {B rb : Nat} {S S' : RefD} {W : List AskD} {i : Nat} {u : Value} (h : RefIn w B rb S W) (hc : ∀ v, (refC S v).setIfInBounds i u = refC S' v) : RefIn (w.setCell ⟨rb, i, none⟩ u) B rb S' W ∧ Keeps (fun n => n = rb) w (w.setCell ⟨rb, i, none⟩ u) := by
  obtain ⟨v, h1, h2⟩ := h
  exact ⟨⟨v, by rw [obj_setCell_at _ h1, hc], h2.keeps fun g hg => obj_setCell_ne _ _ _ _ (fun e => h2.ne h1 (fun cur e' => by cases e') (by rw [hg, e]))⟩, (Keeps.refl (fun n => n = rb) _).setCell (a := ⟨rb, i, none⟩) (.inl rfl) _⟩
/-! ### New -/
set_option maxRecDepth 100000 in
theorem ref_new (w : World) (room last : Int) (h : 1 ≤ room ∧ room ≤ 1024 ∧ 0 ≤ last ∧ last ≤ 2147483647) :
    Calls Try.prog 21 #[.int .i64 room, .int .i64 last] w fun e w' => e = .returned (.tuple #[.pointer (some ⟨w.heap.size, 0, none⟩), .int .i64 0]) ∧ w' = w.alloc (.cells (refC ⟨room, last, 0, 0, 0⟩ (.slice none 0 0)) 71) := by
  obtain ⟨h1, h2, h3, h4⟩ := h
  have d1 : ¬ room < 1 := by omega
  have d2 : ¬ 1024 < room := by omega
  have d3 : ¬ last < 0 := by omega
  have d4 : ¬ 2147483647 < last := by omega
  go_enter Try.func21, Try.ntmps21
  go_wp2
  go_ret2
  exact ⟨rfl, rfl⟩
set_option maxRecDepth 100000 in
theorem ref_new_no (w : World) (room last : Int) (h : room < 1 ∨ 1024 < room ∨ last < 0 ∨ 2147483647 < last) :
    Calls Try.prog 21 #[.int .i64 room, .int .i64 last] w fun e w' => e = .returned (.tuple #[.pointer none, .int .i64 1]) ∧ w' = w := by
  by_cases d1 : room < 1
  · clear h
    go_enter Try.func21, Try.ntmps21
    go_wp2
    go_ret2
    exact ⟨rfl, rfl⟩
  by_cases d2 : 1024 < room
  · clear h
    go_enter Try.func21, Try.ntmps21
    go_wp2
    go_ret2
    exact ⟨rfl, rfl⟩
  by_cases d3 : last < 0
  · clear h
    go_enter Try.func21, Try.ntmps21
    go_wp2
    go_ret2
    exact ⟨rfl, rfl⟩
  · have d4 : 2147483647 < last := by omega
    clear h
    go_enter Try.func21, Try.ntmps21
    go_wp2
    go_ret2
    exact ⟨rfl, rfl⟩
/-! ### Ask -/
set_option maxRecDepth 100000 in
set_option maxHeartbeats 1000000 in
theorem ref_ask_arg (w : World) (rb : Nat) (node kind : Int) (ha : node < 0 ∨ 32 ≤ node ∨ replyOf kind = 0) :
    Calls Try.prog 32 #[.pointer (some ⟨rb, 0, none⟩), .int .i64 node, .int .i64 kind] w fun e w' => e = .returned (.tuple #[.int .i64 0, .int .i64 1]) ∧ w' = w := by
  have HR := fun w => Lib.hid (ref_reply_same kind w)
  by_cases h1 : node < 0
  · clear ha
    go_enter Try.func32, Try.ntmps32
    go_wp2
    go_ret2
    exact ⟨rfl, rfl⟩
  by_cases h2 : 32 ≤ node
  · clear ha
    go_enter Try.func32, Try.ntmps32
    go_wp2
    go_ret2
    exact ⟨rfl, rfl⟩
  · have h3 : replyOf kind = 0 := by omega
    rw [h3] at HR
    clear ha
    go_enter Try.func32, Try.ntmps32
    go_wp2_with fail
    refine (HR _).out.mono ?_
    rintro e w1 ⟨rfl, rfl⟩
    go_wp2
    go_ret2
    exact ⟨rfl, rfl⟩
set_option maxRecDepth 100000 in
set_option maxHeartbeats 1000000 in
theorem ref_ask_full (w : World) (G : Nat → Prop) (rb : Nat) (S : RefD) (W : List AskD) (node kind : Int) (h : RefK w G rb S W) (h1 : 0 ≤ node) (h2 : node < 32) (h3 : (replyOf kind == 0) = false) (h4 : S.room ≤ W.length ∨ 2147483647 ≤ S.last) :
    Calls Try.prog 32 #[.pointer (some ⟨rb, 0, none⟩), .int .i64 node, .int .i64 kind] w fun e w' => e = .returned (.tuple #[.int .i64 0, .int .i64 6]) ∧ Below w.heap.size w w' := by
  have HR := fun w => Lib.hid (ref_reply_same kind w)
  obtain ⟨v, g1, g2, _⟩ := h
  obtain ⟨oa, cap, rfl⟩ := g2.slice
  have c0 : w.cell? ⟨rb, 0, none⟩ = some (.int .i64 S.room) := cell_at g1 0
  have c1 : w.cell? ⟨rb, 1, none⟩ = some (.int .i64 S.last) := cell_at g1 1
  have c2 : w.cell? ⟨rb, 2, none⟩ = some (.slice oa W.length cap) := cell_at g1 2
  have hz := lt_of_obj g1
  have d1 : ¬ node < 0 := by omega
  have d2 : ¬ 32 ≤ node := by omega
  generalize replyOf kind = r at *
  clear g1 g2
  by_cases h5 : S.room ≤ W.length
  · have h6 : decide (S.room ≤ (W.length : Int)) = true := by simpa using h5
    clear h4
    go_enter Try.func32, Try.ntmps32
    go_wp2_with fail
    refine (HR _).out.mono ?_
    rintro e w1 ⟨rfl, rfl⟩
    go_wp2
    go_quiet (fail)
    go_wp2
    go_ret2
    refine ⟨rfl, ?_⟩
    exact below_drewN (Below.refl _ _) _
  · have h6 : decide (S.room ≤ (W.length : Int)) = false := by simpa using h5
    have h7 : decide (2147483647 ≤ S.last) = true := by simp; omega
    clear h4
    go_enter Try.func32, Try.ntmps32
    go_wp2_with fail
    refine (HR _).out.mono ?_
    rintro e w1 ⟨rfl, rfl⟩
    go_wp2
    go_quiet (fail)
    go_wp2
    go_ret2
    refine ⟨rfl, ?_⟩
    exact below_drewN (Below.refl _ _) _
end Go.Proofs.Ytnaknoebjbmboaa
