import Derived.Test.YtagpclgappcnbaaBkR
import Derived.LoopTactic
namespace Go.Proofs.Ytagpclgappcnbaa
open Go.RowKit

/-! ### PeerNone -/
@[local go_sem ↓] theorem hide_build73' (ps : Array (Nat × Value)) : Instr.build 73 ps = buildAgg 73 ps := rfl
set_option maxRecDepth 100000 in
set_option maxHeartbeats 4000000 in
theorem noneLaw_any (w : World) (v kind id now : Int) : Calls Try.prog 6 #[.int .i64 v, .int .i64 kind, .int .i64 id, .int .i64 now] w fun e w' => e = .returned (.bool true) ∧ Below w.heap.size w w' := by
  have HB := Lib.hid (fun W => begun_any W)
  have hbz : ∀ w : World, (buildAgg 73 #[]).run Try.prog w = .ok (.agg zeroBk) w := fun w => by kernel_rfl
  have hal : zeroBk.size = 18 := rfl
  go_enter Try.func6, Try.ntmps6
  have NZ : Hid (∀ W, Below (w.heap.size + 2) ((w.alloc (.cells zeroBk 73)).alloc (.cells #[.pointer none, .pointer (some ⟨w.heap.size, 0, none⟩)] 32)) W →
      obj W w.heap.size = some (.cells zeroBk 73 (0, 0)) ∧ obj W (w.heap.size + 1) = some (.cells #[.pointer none, .pointer (some ⟨w.heap.size, 0, none⟩)] 32 (0, 0)) ∧ Below w.heap.size w W ∧ w.heap.size + 2 ≤ W.heap.size) := Lib.hid (fun W hW => by
    have hz := hW.size
    simp at hz
    refine ⟨(hW.block _ (by omega)).trans ((obj_alloc_past _ _ _ (by simp)).trans (obj_alloc_at _ _ _ rfl)), (hW.block _ (by omega)).trans (obj_alloc_at _ _ _ (by simp)), (((Below.refl _ w).alloc (by omega) _).alloc (by simp) _).trans (hW.mono (by omega)), by omega⟩)
  have BZ : Hid (Below (w.heap.size + 2) ((w.alloc (.cells zeroBk 73)).alloc (.cells #[.pointer none, .pointer (some ⟨w.heap.size, 0, none⟩)] 32)) ((w.alloc (.cells zeroBk 73)).alloc (.cells #[.pointer none, .pointer (some ⟨w.heap.size, 0, none⟩)] 32))) := Lib.hid (Below.refl _ _)
  go_wp2_with fail
  generalize (w.alloc (.cells zeroBk 73)).alloc (.cells #[.pointer none, .pointer (some ⟨w.heap.size, 0, none⟩)] 32) = w2 at *
  go_loopw [10, 11, 12, 13, 14, 15, 16, 17, 18, 19, 20, 21, 22, 23, 28] (fun _ _ _ _ _ _ _ _ _ _ _ _ _ _ v28 wr => ∃ k : Nat, k ≤ 2 ∧ v28 = .int .i64 k ∧ Hid (Below (w.heap.size + 2) w2 wr)) (fun _ _ _ _ _ _ _ _ _ _ _ _ _ _ i _ => 2 - (intOf i).toNat)
  case atStart => exact ⟨0, by omega, rfl, BZ⟩
  case round =>
    obtain ⟨k, hk, rfl, HBr⟩ := hrel
    obtain ⟨n1, n2, n3, n4⟩ := NZ.out _ HBr.out
    have N3 := Lib.hid n3
    by_cases hlt : k < 2
    case neg =>
      have hk2 : k = 2 := by omega
      subst hk2
      clear n1 n2 n3
      go_wp2_with fail
      refine (HB.out _).mono ?_
      rintro e w3 ⟨rfl, b3⟩
      have B3 := Lib.hid (N3.out.trans (b3.mono N3.out.size))
      clear b3
      go_wp2_with fail
      go_ret
      exact ⟨rfl, B3.out⟩
    obtain ⟨q, hq, hn⟩ : ∃ q : Option Addr, wr.cell? ⟨w.heap.size + 1, k, none⟩ = some (.pointer q) ∧ NoneB wr (.pointer q) := by
      rcases (by omega : k = 0 ∨ k = 1) with rfl | rfl
      · exact ⟨none, cell_at n2 0, .inl rfl⟩
      · exact ⟨_, cell_at n2 1, .inr ⟨_, rfl, n1⟩⟩
    have HN := Lib.hid hn
    have hka : w.heap.size + 1 < wr.heap.size := by omega
    have hki : (k : Int) < 2 := by omega
    clear n1 n2 n3 hn
    have P0 := Lib.hid (ask_none wr _ v kind now HN.out)
    have P1 := Lib.hid (got_none wr _ v id kind now HN.out)
    go_wp2_with fail
    refine P0.out.mono ?_
    rintro e w3 ⟨rfl, rfl⟩
    go_wp2_with fail
    refine P1.out.mono ?_
    rintro e w4 ⟨rfl, b4⟩
    have ba : Below w4.heap.size w4 (w4.alloc (.cells #[.int .i64 0, .int .i64 0, .int .i64 0] 47)) := (Below.refl _ _).alloc (Nat.le_refl _) _
    have o5 : obj (w4.alloc (.cells #[.int .i64 0, .int .i64 0, .int .i64 0] 47)) w4.heap.size = some (.cells #[.int .i64 0, .int .i64 0, .int .i64 0] 47 (0, 0)) := obj_alloc_at _ _ _ rfl
    have N5 := Lib.hid ((HN.out.below b4).below ba)
    have B5 := Lib.hid (b4.trans (ba.mono b4.size))
    have P2 := Lib.hid (tick_none _ _ now N5.out)
    have P3 := Lib.hid (get_none _ _ id N5.out)
    clear b4 ba P0 P1
    go_wp2_with fail
    generalize w4.alloc (.cells #[.int .i64 0, .int .i64 0, .int .i64 0] 47) = w5 at *
    generalize w4.heap.size = x14 at *
    refine P2.out.mono ?_
    rintro e w6 ⟨rfl, rfl⟩
    go_wp2_with fail
    refine P3.out.mono ?_
    rintro e w6 ⟨rfl, b6⟩
    have ba : Below w6.heap.size w6 (w6.alloc (.cells #[.int .i64 0, .int .i64 0, .int .i64 0] 47)) := (Below.refl _ _).alloc (Nat.le_refl _) _
    have hz6 := b6.size
    have o7 : obj (w6.alloc (.cells #[.int .i64 0, .int .i64 0, .int .i64 0] 47)) w6.heap.size = some (.cells #[.int .i64 0, .int .i64 0, .int .i64 0] 47 (0, 0)) := obj_alloc_at _ _ _ rfl
    have o57 := (obj_below ba (Nat.lt_of_lt_of_le (lt_of_obj o5) hz6)).trans ((obj_below b6 (lt_of_obj o5)).trans o5)
    have N7 := Lib.hid ((N5.out.below b6).below ba)
    have B7 := Lib.hid (B5.out.trans ((b6.trans (ba.mono b6.size)).mono B5.out.size))
    have P4 := Lib.hid (due_none _ _ id N7.out)
    have P5 := Lib.hid (next_none _ _ N7.out)
    have P6 := Lib.hid (timeout_none _ _ N7.out)
    have P7 := Lib.hid (benched_none _ _ v N7.out)
    have z14 := lt_of_obj o57
    have z18 := lt_of_obj o7
    clear b6 ba P2 P3 hz6 o5
    go_wp2_with fail
    generalize w6.alloc (.cells #[.int .i64 0, .int .i64 0, .int .i64 0] 47) = w7 at *
    generalize w6.heap.size = x18 at *
    refine P4.out.mono ?_
    rintro e w8 ⟨rfl, rfl⟩
    go_wp2_with fail
    refine P5.out.mono ?_
    rintro e w8 ⟨rfl, rfl⟩
    have d0 := cell_at o57 0
    have d1 := cell_at o57 1
    have d2 := cell_at o57 2
    have f0 := cell_at o7 0
    have f1 := cell_at o7 1
    have f2 := cell_at o7 2
    simp at d0 d1 d2 f0 f1 f2
    clear o57 o7
    go_wp2_with fail
    refine P6.out.mono ?_
    rintro e w9 ⟨rfl, rfl⟩
    go_wp2_with fail
    refine P7.out.mono ?_
    rintro e w10 ⟨rfl, b10⟩
    have N10 := Lib.hid (N7.out.below b10)
    have B10 := Lib.hid (B7.out.trans (b10.mono B7.out.size))
    have Q1 := Lib.hid (now_none _ _ N10.out)
    have Q2 := Lib.hid (len_none _ _ N10.out)
    have Q3 := Lib.hid (stat_none _ _ N10.out)
    clear b10 P4 P5 P6 P7 z14 z18 d0 d1 d2 f0 f1 f2
    go_wp2_with fail
    refine Q1.out.mono ?_
    rintro e w11 ⟨rfl, rfl⟩
    go_wp2_with fail
    refine Q2.out.mono ?_
    rintro e w11 ⟨rfl, rfl⟩
    go_wp2_with fail
    refine Q3.out.mono ?_
    rintro e w12 ⟨rfl, b12⟩
    have N12 := Lib.hid (N10.out.below b12)
    have B12 := Lib.hid (B10.out.trans (b12.mono B10.out.size))
    have Q4 := Lib.hid (clone_none _ _ N12.out)
    clear b12
    go_wp2_with fail
    refine Q4.out.mono ?_
    rintro e w13 ⟨rfl, rfl⟩
    go_wp2_with fail
    have BF := Lib.hid (HBr.out.trans (B12.out.mono n4))
    go_roundw
    case rel => exact ⟨k + 1, by omega, by go_num, BF⟩
    case measure => simp [intOf]; omega
end Go.Proofs.Ytagpclgappcnbaa
