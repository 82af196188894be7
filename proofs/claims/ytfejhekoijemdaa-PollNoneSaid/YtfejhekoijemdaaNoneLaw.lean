import Derived.Test.YtfejhekoijemdaaNoSet
import Derived.Test.YtfejhekoijemdaaAllT2
import Derived.Test.YtfejhekoijemdaaBegunW
namespace Go.Proofs.Ytfejhekoijemdaa
open Go.RowKit

def S00 : SetM := ⟨0, 0, 0, []⟩
set_option maxRecDepth 100000 in
set_option maxHeartbeats 1000000 in
theorem done_made (w : World) (q : Option Addr) (h : NoSet w q) : Calls Try.prog 16 #[.pointer q] w fun e w' => e = .returned (.slice none 0 0) ∧ w' = w := by
  have HN := Lib.hid (h w (Below.refl _ _))
  clear h
  go_enter Try.func16, Try.ntmps16
  go_wp2_with fail
  go_loopw [3] (fun v2 wr => v2 = .slice none 0 0 ∧ wr = w) (fun _ _ => 0)
  case atStart => exact ⟨rfl, rfl⟩
  case round =>
    obtain ⟨rfl, rfl⟩ := hrel
    go_wp2_with fail
    refine HN.out.mono ?_
    rintro e w ⟨rfl, rfl⟩
    go_wp2_with fail
    go_ret
    exact ⟨rfl, rfl⟩
set_option maxRecDepth 100000 in
theorem clone_made (w : World) (q : Option Addr) (h : NoSet w q) : Calls Try.prog 27 #[.pointer q] w fun e w' => e = .returned (.pointer none) ∧ w' = w := by
  have HN := Lib.hid (h w (Below.refl _ _))
  clear h
  go_enter Try.func27, Try.ntmps27
  go_wp2_with fail
  refine HN.out.mono ?_
  rintro e w ⟨rfl, rfl⟩
  go_wp2
  go_ret
  exact ⟨rfl, rfl⟩
set_option maxRecDepth 100000 in
set_option maxHeartbeats 1000000 in
theorem all_made (w : World) (q : Option Addr) (h : NoSet w q) : Calls Try.prog 23 #[.pointer q] w (AllR w S00) := by
  have hmf : ∀ (fn : Fn) (first cap : Array Value) (w : World), (Instr.makeFunc fn first cap).run Try.prog w = .ok (.func fn first cap) w := fun _ _ _ _ => rfl
  have b1 : Below w.heap.size w (((w.alloc (.cells #[.pointer q] 25)).alloc (.cells #[.slice none 0 0] 93)).alloc (.cells #[.slice none 0 0] 94)) := (((Below.refl _ w).alloc (Nat.le_refl _) _).alloc (by simp) _).alloc (by simp; omega) _
  have oi : Hid (obj (((w.alloc (.cells #[.pointer q] 25)).alloc (.cells #[.slice none 0 0] 93)).alloc (.cells #[.slice none 0 0] 94)) (w.heap.size + 1) = some (.cells #[.slice none 0 0] 93 (0, 0))) := Lib.hid ((obj_alloc_past _ _ _ (by simp)).trans (obj_alloc_at _ _ _ (by simp)))
  have od : Hid (obj (((w.alloc (.cells #[.pointer q] 25)).alloc (.cells #[.slice none 0 0] 93)).alloc (.cells #[.slice none 0 0] 94)) (w.heap.size + 1 + 1) = some (.cells #[.slice none 0 0] 94 (0, 0))) := Lib.hid (obj_alloc_at _ _ _ (by simp))
  have HN := Lib.hid (h _ b1)
  have B1 := Lib.hid b1
  clear h b1
  go_enter Try.func23, Try.ntmps23
  go_wp2_with fail
  refine HN.out.mono ?_
  rintro e w' ⟨rfl, hw⟩
  subst hw
  go_wp2
  go_ret
  exact ⟨_, _, _, _, rfl, oi.out, od.out, ⟨none, 0, rfl, Nat.le_refl _, Nat.zero_le _, fun h => absurd h (Nat.lt_irrefl _)⟩, ⟨none, 0, rfl, Nat.le_refl _, Nat.zero_le _, fun h => absurd h (Nat.lt_irrefl _)⟩, fun g hg => by simp [Value.ownBlock] at hg, fun g hg => by simp [Value.ownBlock] at hg, B1.out⟩
set_option maxRecDepth 100000 in
set_option maxHeartbeats 4000000 in
theorem noneLaw_any (w : World) (n v : Int) (sv : Value) (slots : List Int) (hs : SlIn w sv 1 intL slots) : Calls Try.prog 8 #[.int .i64 n, .int .i64 v, sv] w fun e w' => e = .returned (.bool true) ∧ Below w.heap.size w w' := by
  have HB := fun W => Lib.hid (begun_any W)
  have HNM := fun W => Lib.hid (name_any W 1 (by decide) (by decide))
  obtain ⟨sa, sc, rfl, s1, s2, s3⟩ := hs
  unfold maxLen at s2
  clear s3
  by_cases hlen : 100 < slots.length
  · have hlen1 : (100 : Int) < slots.length := by omega
    go_enter Try.func8, Try.ntmps8
    go_wp2_with fail
    refine (HB _).out.mono ?_
    rintro e w1 ⟨rfl, b1⟩
    have B1 := Lib.hid b1
    clear b1
    go_wp2_with fail
    refine (HB _).out.mono ?_
    rintro e w2 ⟨rfl, b2⟩
    have B2 := Lib.hid (B1.out.trans (b2.mono B1.out.size))
    clear b2
    go_wp2_with fail
    go_ret
    exact ⟨rfl, B2.out⟩
  have hlen1 : ¬ (100 : Int) < slots.length := by omega
  have hbz : ∀ w : World, (buildAgg 78 #[]).run Try.prog w = .ok (.agg #[.int .i64 0, .int .i64 0, .int .i64 0, .slice none 0 0]) w := fun w => by kernel_rfl
  go_enter Try.func8, Try.ntmps8
  go_wp2_with fail
  refine (HB _).out.mono ?_
  rintro e w1 ⟨rfl, b1⟩
  have B1 := Lib.hid b1
  have hz1 := b1.size
  clear b1
  have NZ : Hid (∀ W, Below (w1.heap.size + 2) ((w1.alloc (.cells #[.int .i64 0, .int .i64 0, .int .i64 0, .slice none 0 0] 78)).alloc (.cells #[.pointer none, .pointer (some ⟨w1.heap.size, 0, none⟩)] 25)) W →
      NoSet W (some ⟨w1.heap.size, 0, none⟩) ∧ obj W (w1.heap.size + 1) = some (.cells #[.pointer none, .pointer (some ⟨w1.heap.size, 0, none⟩)] 25 (0, 0)) ∧ Below w.heap.size w W ∧ w1.heap.size + 2 ≤ W.heap.size) := Lib.hid (fun W hW => by
    have hz := hW.size
    simp at hz
    refine ⟨NoSet.zero (x := .int .i64 0) (y := .int .i64 0) (z := .slice none 0 0) ((hW.block _ (by omega)).trans ((obj_alloc_past _ _ _ (by simp)).trans (obj_alloc_at _ _ _ rfl))), (hW.block _ (by omega)).trans (obj_alloc_at _ _ _ (by simp)), ((B1.out.alloc (by omega) _).alloc (by simp; omega) _).trans (hW.mono (by omega)), by omega⟩)
  have BZ : Hid (Below (w1.heap.size + 2) ((w1.alloc (.cells #[.int .i64 0, .int .i64 0, .int .i64 0, .slice none 0 0] 78)).alloc (.cells #[.pointer none, .pointer (some ⟨w1.heap.size, 0, none⟩)] 25)) ((w1.alloc (.cells #[.int .i64 0, .int .i64 0, .int .i64 0, .slice none 0 0] 78)).alloc (.cells #[.pointer none, .pointer (some ⟨w1.heap.size, 0, none⟩)] 25))) := Lib.hid (Below.refl _ _)
  go_wp2_with fail
  generalize (w1.alloc (.cells #[.int .i64 0, .int .i64 0, .int .i64 0, .slice none 0 0] 78)).alloc (.cells #[.pointer none, .pointer (some ⟨w1.heap.size, 0, none⟩)] 25) = w2 at *
  go_loopw [25] (fun v25 wr => ∃ k : Nat, k ≤ 2 ∧ v25 = .int .i64 k ∧ Hid (Below (w1.heap.size + 2) w2 wr)) (fun i _ => 2 - (intOf i).toNat)
  case atStart => exact ⟨0, by omega, rfl, BZ⟩
  case round =>
    obtain ⟨k, hk, rfl, HBr⟩ := hrel
    obtain ⟨n1, n2, n3, n4⟩ := NZ.out _ HBr.out
    have N3 := Lib.hid n3
    by_cases hlt : k < 2
    case neg =>
      have hk2 : k = 2 := by omega
      subst hk2
      clear n1 n2 n3
      go_wp2_with fail
      go_ret
      exact ⟨rfl, N3.out⟩
    obtain ⟨q, hq, hn⟩ : ∃ q : Option Addr, wr.cell? ⟨w1.heap.size + 1, k, none⟩ = some (.pointer q) ∧ NoSet wr q := by
      rcases (by omega : k = 0 ∨ k = 1) with rfl | rfl
      · exact ⟨none, cell_at n2 0, NoSet.nil _⟩
      · exact ⟨_, cell_at n2 1, n1⟩
    have HN := Lib.hid hn
    have hka : w1.heap.size + 1 < wr.heap.size := by omega
    have hki : (k : Int) < 2 := by omega
    clear n1 n2 n3 hn
    have HOP := Lib.hid (open_made wr q HN.out (.slice sa slots.length sc))
    have HLF := Lib.hid (left_made wr q HN.out n)
    go_wp2_with fail
    refine HOP.out.mono ?_
    rintro e w3 ⟨rfl, hw3⟩
    cases hw3
    go_wp2_with fail
    refine HLF.out.mono ?_
    rintro e w4 ⟨rfl, hw4⟩
    cases hw4
    go_wp2_with fail
    refine (HNM _).out.mono ?_
    rintro e w5 ⟨rfl, b5⟩
    have N5 := Lib.hid (HN.out.below b5)
    have HVO := Lib.hid (vote_made w5 q N5.out n v (nameP 1))
    have B5 := Lib.hid b5
    clear b5
    go_wp2_with fail
    refine HVO.out.mono ?_
    rintro e w6 ⟨rfl, b6⟩
    have N6 := Lib.hid (N5.out.below b6)
    have B6 := Lib.hid (B5.out.trans (b6.mono B5.out.size))
    have HDR := Lib.hid (drop_made w6 q N6.out n v)
    have HDN := Lib.hid (done_made w6 q N6.out)
    have HLE := Lib.hid (len_made w6 q N6.out)
    have HWT := Lib.hid (waits_made w6 q N6.out n v)
    clear b6 B5 N5
    go_wp2_with fail
    refine HDR.out.mono ?_
    rintro e w7 ⟨rfl, hw7⟩
    cases hw7
    go_wp2_with fail
    refine HDN.out.mono ?_
    rintro e w7 ⟨rfl, hw7⟩
    cases hw7
    go_wp2_with fail
    refine HLE.out.mono ?_
    rintro e w7 ⟨rfl, hw7⟩
    cases hw7
    go_wp2_with fail
    refine HWT.out.mono ?_
    rintro e w7 ⟨rfl, b7⟩
    have N7 := Lib.hid (N6.out.below b7)
    have B7 := Lib.hid (B6.out.trans (b7.mono B6.out.size))
    have HAL := Lib.hid (all_made w7 q N7.out)
    clear b7 B6 N6
    go_wp2_with fail
    refine HAL.out.mono ?_
    rintro e w8 hall
    obtain ⟨ib, db, rfl, htold, b8⟩ := hall.told (by decide)
    have HT := Lib.hid (htold w8 9 (Below.refl _ _))
    have N8 := Lib.hid (N7.out.below b8)
    have B8 := Lib.hid (B7.out.trans (b8.mono B7.out.size))
    clear hall htold b8 N7 B7
    go_wp2_with fail
    refine HT.out.mono ?_
    rintro e w9 ⟨v9, rfl, o9, b9⟩
    have hnil : (toldL S00).take (9 : Int).toNat = [] := rfl
    rw [hnil] at o9
    obtain ⟨ra, rc, rfl⟩ := o9.slice
    have N9 := Lib.hid (N8.out.below b9)
    have B9 := Lib.hid (B8.out.trans (b9.mono B8.out.size))
    have HCL := Lib.hid (clone_made w9 q N9.out)
    clear o9 hnil b9 N8 B8
    go_wp2_with fail
    refine HCL.out.mono ?_
    rintro e w10 ⟨rfl, hw10⟩
    cases hw10
    go_wp2_with fail
    go_roundw
    case rel => exact ⟨k + 1, by omega, by go_num, Lib.hid (HBr.out.trans (B9.out.mono (by omega)))⟩
    case measure => simp [intOf]; omega
end Go.Proofs.Ytfejhekoijemdaa
