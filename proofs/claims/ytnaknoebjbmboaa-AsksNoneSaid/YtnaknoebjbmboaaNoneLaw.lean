import Derived.Test.YtnaknoebjbmboaaOfNil
namespace Go.Proofs.Ytnaknoebjbmboaa
open Go.RowKit

theorem run_two50 (a : Option Addr) (w : World) : (Instr.buildSlice 50 2 #[(0, .pointer none), (1, .pointer a)]).run Try.prog w = .ok (.slice (some ⟨w.heap.size, 0, none⟩) 2 2) (w.alloc (.cells #[.pointer none, .pointer a] 22)) := by kernel_rfl
set_option maxRecDepth 100000 in
set_option maxHeartbeats 4000000 in
theorem noneLaw_any (w : World) (t k i : Int) : Calls Try.prog 6 #[.int .i64 t, .int .i64 k, .int .i64 i] w fun e w' => e = .returned (.bool true) ∧ Below w.heap.size w w' := by
  have h2 := run_two50
  have b1 : Below w.heap.size w ((w.alloc (.cells #[.int .i64 0, .int .i64 0, .map none, .int .i64 0, .int .i64 0, .int .i64 0] 49)).alloc (.cells #[.pointer none, .pointer (some ⟨w.heap.size, 0, none⟩)] 22)) := ((Below.refl _ w).alloc (Nat.le_refl _) _).alloc (by simp) _
  have o1 : obj ((w.alloc (.cells #[.int .i64 0, .int .i64 0, .map none, .int .i64 0, .int .i64 0, .int .i64 0] 49)).alloc (.cells #[.pointer none, .pointer (some ⟨w.heap.size, 0, none⟩)] 22)) w.heap.size = some (.cells #[.int .i64 0, .int .i64 0, .map none, .int .i64 0, .int .i64 0, .int .i64 0] 49 (0, 0)) := (obj_alloc_past _ _ _ (by simp)).trans (obj_alloc_at _ _ _ rfl)
  have o2 : obj ((w.alloc (.cells #[.int .i64 0, .int .i64 0, .map none, .int .i64 0, .int .i64 0, .int .i64 0] 49)).alloc (.cells #[.pointer none, .pointer (some ⟨w.heap.size, 0, none⟩)] 22)) (w.heap.size + 1) = some (.cells #[.pointer none, .pointer (some ⟨w.heap.size, 0, none⟩)] 22 (0, 0)) := obj_alloc_at _ _ _ (by simp)
  go_enter Try.func6, Try.ntmps6
  go_wp2
  generalize (w.alloc (.cells #[.int .i64 0, .int .i64 0, .map none, .int .i64 0, .int .i64 0, .int .i64 0] 49)).alloc (.cells #[.pointer none, .pointer (some ⟨w.heap.size, 0, none⟩)] 22) = w1 at *
  have B1 := Lib.hid b1
  have O1 := Lib.hid o1
  have O2 := Lib.hid o2
  have Z1 := lt_of_obj o1
  have Z2 := lt_of_obj o2
  clear b1 o1 o2
  go_loopw [21] (fun v17 wr => ∃ j : Nat, j ≤ 2 ∧ v17 = .int .i64 j ∧ Hid (Below w1.heap.size w1 wr)) (fun i _ => 2 - (intOf i).toNat)
  case atStart => exact ⟨0, by omega, rfl, Lib.hid (Below.refl _ _)⟩
  case round =>
    obtain ⟨j, hj, rfl, HBj⟩ := hrel
    by_cases hlt : j < 2
    · have hp : ∃ p, wr.cell? ⟨w.heap.size + 1, j, none⟩ = some p ∧ NoneP wr p := by
        have o1' := (obj_below HBj.out Z1).trans O1.out
        have o2' := (obj_below HBj.out Z2).trans O2.out
        match j, hlt with
        | 0, _ => exact ⟨_, cell_at o2' 0, .inl rfl⟩
        | 1, _ => exact ⟨_, cell_at o2' 1, .inr ⟨_, rfl, o1'⟩⟩
      obtain ⟨p, hc, hN⟩ := hp
      have HN := Lib.hid hN
      have hlt' : (j : Int) < 2 := by omega
      have hw1 := Nat.lt_of_lt_of_le Z2 HBj.out.size
      have P0 := Lib.hid (ask_none wr p t k hN)
      have P1 := Lib.hid (answer_nonep wr p t i k hN)
      clear hN
      go_wp2_with fail
      refine P0.out.mono ?_
      rintro e w2 ⟨rfl, rfl⟩
      go_wp2_with fail
      refine P1.out.mono ?_
      rintro e w2 ⟨rfl, b2⟩
      have ba : Below w2.heap.size w2 (w2.alloc (.cells #[.int .i64 0, .int .i64 0, .int .i64 0] 32)) := b32 w2
      have o3 : obj (w2.alloc (.cells #[.int .i64 0, .int .i64 0, .int .i64 0] 32)) w2.heap.size = some (.cells #[.int .i64 0, .int .i64 0, .int .i64 0] 32 (0, 0)) := obj_alloc_at _ _ _ rfl
      have N3 := Lib.hid ((HN.out.below b2).below ba)
      have B3 := Lib.hid (b2.trans (ba.mono b2.size))
      have P2 := Lib.hid (expire_nonep _ p i N3.out)
      clear b2 ba P1
      unfold zV
      go_wp2_with fail
      generalize w2.alloc (.cells #[.int .i64 0, .int .i64 0, .int .i64 0] 32) = w3 at *
      generalize w2.heap.size = x11 at *
      refine P2.out.mono ?_
      rintro e w4 ⟨rfl, b4⟩
      have ba : Below w4.heap.size w4 (w4.alloc (.cells #[.int .i64 0, .int .i64 0, .int .i64 0] 32)) := b32 w4
      have hz4 := b4.size
      have o5 : obj (w4.alloc (.cells #[.int .i64 0, .int .i64 0, .int .i64 0] 32)) w4.heap.size = some (.cells #[.int .i64 0, .int .i64 0, .int .i64 0] 32 (0, 0)) := obj_alloc_at _ _ _ rfl
      have o35 := (obj_below ba (Nat.lt_of_lt_of_le (lt_of_obj o3) hz4)).trans ((obj_below b4 (lt_of_obj o3)).trans o3)
      have N5 := Lib.hid ((N3.out.below b4).below ba)
      have B5 := Lib.hid (B3.out.trans ((b4.trans (ba.mono b4.size)).mono B3.out.size))
      clear b4 ba P2 o3 hz4
      have P3 := Lib.hid (get_nonep _ p i N5.out)
      unfold zV
      go_wp2_with fail
      generalize w4.alloc (.cells #[.int .i64 0, .int .i64 0, .int .i64 0] 32) = w5 at *
      generalize w4.heap.size = x13 at *
      refine P3.out.mono ?_
      rintro e w6 ⟨rfl, b6⟩
      have ba : Below w6.heap.size w6 (w6.alloc (.cells #[.int .i64 0, .int .i64 0, .int .i64 0] 32)) := b32 w6
      have hz6 := b6.size
      have o7 : obj (w6.alloc (.cells #[.int .i64 0, .int .i64 0, .int .i64 0] 32)) w6.heap.size = some (.cells #[.int .i64 0, .int .i64 0, .int .i64 0] 32 (0, 0)) := obj_alloc_at _ _ _ rfl
      have o57 := (obj_below ba (Nat.lt_of_lt_of_le (lt_of_obj o5) hz6)).trans ((obj_below b6 (lt_of_obj o5)).trans o5)
      have o37 := (obj_below ba (Nat.lt_of_lt_of_le (lt_of_obj o35) hz6)).trans ((obj_below b6 (lt_of_obj o35)).trans o35)
      have N7 := Lib.hid ((N5.out.below b6).below ba)
      have B7 := Lib.hid (B5.out.trans ((b6.trans (ba.mono b6.size)).mono B5.out.size))
      clear b6 ba P3 o5 o35 hz6
      have Q1 := Lib.hid (len_nonep _ p N7.out)
      have Q2 := Lib.hid (of_nonep _ p t N7.out)
      unfold zV
      have z11 := lt_of_obj o37
      have z13 := lt_of_obj o57
      have z15 := lt_of_obj o7
      go_wp2_with fail
      generalize w6.alloc (.cells #[.int .i64 0, .int .i64 0, .int .i64 0] 32) = w7 at *
      generalize w6.heap.size = x15 at *
      refine Q1.out.mono ?_
      rintro e w8 ⟨rfl, rfl⟩
      go_wp2_with fail
      refine Q2.out.mono ?_
      rintro e w8 ⟨rfl, b8⟩
      have N8 := Lib.hid (N7.out.below b8)
      have B8 := Lib.hid (B7.out.trans (b8.mono B7.out.size))
      have Q3 := Lib.hid (all_nonep _ p N8.out)
      clear b8 o57 o7 o37
      go_wp2_with fail
      refine Q3.out.mono ?_
      rintro e w9 ⟨⟨lb, v9, rfl, hV⟩, b9⟩
      have Q4 := Lib.hid (told_all hV (Below.refl _ _) (by simp) 9)
      have N9 := Lib.hid (N8.out.below b9)
      have B9 := Lib.hid (B8.out.trans (b9.mono B8.out.size))
      clear b9 hV
      go_wp2_with fail
      refine Q4.out.mono ?_
      rintro e wa ⟨va, rfl, oa, ba⟩
      obtain rfl := oa.2.2 (by simp)
      have NA := Lib.hid (N9.out.below ba)
      have BA := Lib.hid (B9.out.trans (ba.mono B9.out.size))
      have Q5 := Lib.hid (stat_nonep _ p NA.out)
      clear oa ba
      go_wp2_with fail
      refine Q5.out.mono ?_
      rintro e wb ⟨rfl, bb⟩
      have NB := Lib.hid (NA.out.below bb)
      have BB := Lib.hid (BA.out.trans (bb.mono BA.out.size))
      have Q6 := Lib.hid (clone_nonep _ p NB.out)
      clear bb
      unfold zV
      go_wp2_with fail
      refine Q6.out.mono ?_
      rintro e wc ⟨rfl, rfl⟩
      have BC := Lib.hid (HBj.out.trans (BB.out.mono HBj.out.size))
      go_wp2
      go_roundw
      case rel => exact ⟨j + 1, by omega, by go_num, BC⟩
      case measure => simp [intOf]; omega
    · have hj' : j = 2 := by omega
      subst hj'
      have BR := Lib.hid (B1.out.trans (HBj.out.mono B1.out.size))
      have HBG := Lib.hid (begun_any wr)
      go_wp2_with fail
      refine HBG.out.mono ?_
      rintro e w2 ⟨rfl, b2⟩
      go_wp2
      go_ret
      exact ⟨rfl, BR.out.trans (b2.mono BR.out.size)⟩
end Go.Proofs.Ytnaknoebjbmboaa
