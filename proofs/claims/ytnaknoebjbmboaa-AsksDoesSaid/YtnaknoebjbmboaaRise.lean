import Derived.Test.YtnaknoebjbmboaaAsks4
import Derived.LoopTactic
namespace Go.Proofs.Ytnaknoebjbmboaa
open Go.RowKit

/-! ### association lists -/
theorem aPut_new {ν : Type} (k : Int) (v : ν) : ∀ {L : List (Int × ν)}, (∀ x ∈ L, x.1 ≠ k) → aPut k v L = L ++ [(k, v)]
  | [], _ => rfl
  | (j, u) :: r, h => by
    have hj : k ≠ j := fun e => h (j, u) (by simp) e.symm
    simp [aPut, hj, aPut_new k v (L := r) (fun x hx => h x (List.mem_cons_of_mem _ hx))]
theorem aDel_sub {ν : Type} (k : Int) : ∀ {L : List (Int × ν)} {x}, x ∈ aDel k L → x ∈ L
  | [], _, h => h
  | (j, u) :: r, x, h => by
    unfold aDel at h
    split at h
    · simp [h]
    · rcases List.mem_cons.1 h with h | h
      · simp [h]
      · simp [aDel_sub k h]
theorem aDel_length {ν : Type} (k : Int) : ∀ {L : List (Int × ν)}, (aDel k L).length ≤ L.length
  | [] => Nat.le_refl _
  | (j, u) :: r => by
    unfold aDel
    split
    · simp
    · simp [aDel_length k]

structure RInv (R : Int) (k : Nat) (S : BookD) : Prop where
  room : S.room = R
  lo : 2147483600 ≤ S.last
  hi : S.last ≤ 2147483647
  len : (S.L.length : Int) ≤ R
  keys : ∀ x ∈ S.L, x.1 ≤ S.last
  a0 : 0 ≤ S.asked
  a1 : S.asked ≤ k
  e0 : 0 ≤ S.exp
  e1 : S.exp ≤ k

theorem ask_rise (w : World) (b m : Nat) (S : BookD) (R : Int) (k : Nat) (hk : k ≤ 1000) (h : BookAt w b m S) (hI : RInv R k S) (h1 : (S.L.length : Int) < R) (h2 : S.last < 2147483647) :
    Calls Try.prog 10 #[.pointer (some ⟨b, 0, none⟩), .int .i64 0, .int .i64 10] w fun e w' => e = .returned (.tuple #[.int .i64 (S.last + 1), .int .i64 0]) ∧
      ∃ S1 : BookD, S1.last = S.last + 1 ∧ S1.L.length = S.L.length + 1 ∧ S1.exp = S.exp ∧ RInv R (k + 1) S1 ∧ BookAt w' b m S1 ∧ Keeps (fun k => k = b ∨ k = m) w w' := by
  have h0 := hI.lo
  have ha1 := hI.a1
  refine (ask_ok w b m S 0 10 h (by decide) (by decide) (by decide) (by rw [hI.room]; exact h1) h2 (by omega) hI.a0 (by omega)).mono ?_
  rintro e w' ⟨he, hb, hk'⟩
  have hL : aPut (S.last + 1) (⟨S.last + 1, 0, 10⟩ : AskD) S.L = S.L ++ [(S.last + 1, ⟨S.last + 1, 0, 10⟩)] := aPut_new _ _ (fun x hx e => by have := hI.keys x hx; omega)
  have hb0 := hI.a0
  have hb1 := hI.e1
  have hr := hI.room
  have hlen := hI.len
  refine ⟨he, { S with last := S.last + 1, L := aPut (S.last + 1) ⟨S.last + 1, 0, 10⟩ S.L, asked := S.asked + 1 }, rfl, by simp [hL], rfl, ⟨hr, ?_, ?_, ?_, ?_, ?_, ?_, hI.e0, ?_⟩, hb, hk'⟩
  · show 2147483600 ≤ S.last + 1; omega
  · show S.last + 1 ≤ 2147483647; omega
  · simp [hL]; omega
  · intro x hx
    simp only [hL, List.mem_append, List.mem_singleton] at hx ⊢
    rcases hx with hx | rfl
    · have := hI.keys x hx; omega
    · exact Int.le_refl _
  · show 0 ≤ S.asked + 1; omega
  · show S.asked + 1 ≤ ((k + 1 : Nat) : Int); omega
  · show S.exp ≤ ((k + 1 : Nat) : Int); omega

theorem expire_rise (w : World) (b m : Nat) (S : BookD) (R : Int) (k : Nat) (hk : k ≤ 1000) (h : BookAt w b m S) (hI : RInv R (k + 1) S) (he : S.exp ≤ k) (id : Int) :
    Calls Try.prog 16 #[.pointer (some ⟨b, 0, none⟩), .int .i64 id] w fun e w' => ∃ v : Value, e = .returned v ∧
      ∃ S1 : BookD, S1.last = S.last ∧ RInv R (k + 1) S1 ∧ BookAt w' b m S1 ∧ Keeps (fun k => k = b ∨ k = m) w w' := by
  cases hg : aGet id S.L with
  | none =>
    refine (expire_none w b m S id h hg).mono ?_
    rintro e w' ⟨he, hb⟩
    exact ⟨_, he, S, rfl, hI, h.below hb, Keeps.of_below hb⟩
  | some a =>
    have hI1 := hI
    refine (expire_ok w b m S id a h hg hI.e0 (by omega)).mono ?_
    rintro e w' ⟨he', hb, hk'⟩
    have hl := aDel_length id (L := S.L)
    have hlen := hI.len
    have h0 := hI.e0
    refine ⟨_, he', { S with L := aDel id S.L, exp := S.exp + 1 }, rfl, ⟨hI.room, hI.lo, hI.hi, ?_, fun x hx => hI.keys x (aDel_sub id hx), hI.a0, hI.a1, ?_, ?_⟩, hb, hk'⟩
    · show ((aDel id S.L).length : Int) ≤ R; omega
    · show 0 ≤ S.exp + 1; omega
    · show S.exp + 1 ≤ ((k + 1 : Nat) : Int); omega

set_option maxRecDepth 100000 in
set_option maxHeartbeats 4000000 in
theorem rise_a (room less : Int) (a0 : 0 ≤ room) (a1 : room ≤ 255) (b0 : 0 ≤ less) (b1 : less ≤ 255) (bb off len cap : Nat) (bs : Nat → Bool) (hlc : len ≤ cap) (hcap : cap ≤ maxLen) (hn : len ≤ 100) (w : World) (hbb : bb < w.heap.size)
    (hc : ∀ i, i < len → w.cell? ⟨bb, off + i, none⟩ = some (.bool (bs i))) :
    Calls Try.prog 4 #[.int .u8 room, .int .u8 less, .slice (some ⟨bb, off, none⟩) len cap] w fun e w' => e = .returned (.bool true) ∧ Below w.heap.size w w' := by
  unfold maxLen at hcap
  have HC := Lib.hid hc
  clear hc
  go_enter Try.func4, Try.ntmps4
  go_wp2_with fail
  refine (new_ok w _ _ (by omega) (by omega) (by omega) (by omega)).mono ?_
  rintro e w1 ⟨rfl, g1, k1⟩
  go_wp2_with fail
  refine (begun_any w1).mono ?_
  rintro e w2 ⟨rfl, k2⟩
  have g2 := g1.below k2
  have b2 : Below w.heap.size w w2 := k1.trans (k2.mono (by have := k1.size; omega))
  have i2 : RInv (1 + room % 8) 0 ⟨1 + room % 8, 2147483647 - less % 40, [], 0, 0, 0⟩ := ⟨rfl, by show _ ≤ 2147483647 - less % 40; omega, by show 2147483647 - less % 40 ≤ _; omega, by simp; omega, by simp, Int.le_refl _, Int.le_refl _, Int.le_refl _, Int.le_refl _⟩
  have z2 := g2.lt
  clear g1 k1 k2
  go_wp2_with fail
  go_loopw [7, 44] (fun v7 v44 wr => ∃ (k : Nat) (S : BookD), k ≤ len ∧ v44 = .int .i64 k ∧ v7 = .int .i64 S.last ∧ RInv (1 + room % 8) k S ∧ BookAt wr (w.heap.size + 1) w.heap.size S ∧ Below w.heap.size w wr) (fun _ i _ => len - (intOf i).toNat)
  case atStart => exact ⟨0, _, Nat.zero_le _, rfl, rfl, i2, g2, b2⟩
  case round =>
    clear i2 g2 b2 z2
    obtain ⟨k, S, hk, rfl, rfl, hI, hB, hb⟩ := hrel
    have hlo := hI.lo
    have hhi := hI.hi
    have hroom := hI.len
    have hz := hB.lt
    by_cases hlt : k < len
    · have hcell : wr.cell? ⟨bb, off + k, none⟩ = some (.bool (bs k)) := (hb.cell (p := ⟨bb, off + k, none⟩) hbb).trans (HC.out k (by omega))
      have HI := Lib.hid hI
      clear hI
      by_cases hok : (S.L.length : Int) < 1 + room % 8 ∧ S.last < 2147483647
      · obtain ⟨o1, o2⟩ := hok
        cases hbs : bs k
        all_goals
          rw [hbs] at hcell
          clear hbs
          go_wp2_with fail
          refine (len_any _ _ _ _ hB).mono ?_
          rintro e w' ⟨rfl, rfl⟩
          go_wp2_with fail
          refine (ask_rise _ _ _ _ _ k (by omega) hB HI.out o1 o2).mono ?_
          rintro e w3 ⟨rfl, S3, q1, q2, qe, I3, g3, k3⟩
          have qe' : S3.exp ≤ k := by rw [qe]; exact HI.out.e1
          clear qe
          have b3 : Below w.heap.size w w3 := hb.trans (k3.below (by omega) (by omega))
          have Q1 := Lib.hid q1
          have Q2 : Hid ((S3.L.length : Int) = S.L.length + 1) := Lib.hid (by omega)
          have q3 : (S3.L.length : Int) ≤ 1 + room % 8 := I3.len
          have J3 := Lib.hid I3
          have qa : S3.last ≤ 2147483647 := I3.hi
          clear q1 q2 I3
          go_wp2_with fail
          refine (len_any _ _ _ _ g3).mono ?_
          rintro e w' ⟨rfl, rfl⟩
          rw [Q2.out]
        · go_wp2_with fail
          refine (len_any _ _ _ _ g3).mono ?_
          rintro e w' ⟨rfl, rfl⟩
          go_wp2_with fail
          go_roundw
          case rel => exact ⟨k + 1, S3, by omega, by go_num, by rw [Q1.out], J3.out, g3, b3⟩
          case measure => simp [intOf]; omega
        · go_wp2_with fail
          refine (expire_rise _ _ _ _ _ k (by omega) g3 J3.out qe' _).mono ?_
          rintro e w4 ⟨v, rfl, S4, q4, I4, g4, k4⟩
          have b4 : Below w.heap.size w w4 := b3.trans (k4.below (by omega) (by have := g3.lt; omega))
          have q5 : (S4.L.length : Int) ≤ 1 + room % 8 := I4.len
          have J4 := Lib.hid I4
          have Q4 := Lib.hid q4
          clear I4 q4
          go_wp2_with fail
          refine (len_any _ _ _ _ g4).mono ?_
          rintro e w' ⟨rfl, rfl⟩
          go_wp2_with fail
          go_roundw
          case rel => exact ⟨k + 1, S4, by omega, by go_num, by rw [Q4.out, Q1.out], J4.out, g4, b4⟩
          case measure => simp [intOf]; omega
      · have hfull : 1 + room % 8 ≤ (S.L.length : Int) ∨ 2147483647 ≤ S.last := by omega
        have HF := Lib.hid hfull
        clear hfull hok
        have A2 := ask_full wr _ _ S 0 10 hB (by decide) (by decide) (by decide) (by rw [HI.out.room]; exact HF.out)
        have J1 : Hid (RInv (1 + room % 8) (k + 1) S) := ⟨HI.out.room, HI.out.lo, HI.out.hi, HI.out.len, HI.out.keys, HI.out.a0, by have := HI.out.a1; omega, HI.out.e0, by have := HI.out.e1; omega⟩
        have qe' : S.exp ≤ k := HI.out.e1
        by_cases hr : 1 + room % 8 ≤ (S.L.length : Int)
        all_goals
          have hm : 1 + room % 8 ≤ (S.L.length : Int) ∨ 2147483647 ≤ S.last := HF.out
          first
            | (have hm' : 2147483647 ≤ S.last := by omega)
            | skip
          clear hm
          cases hbs : bs k
          all_goals
            rw [hbs] at hcell
            clear hbs
            go_wp2_with fail
            refine (len_any _ _ _ _ hB).mono ?_
            rintro e w' ⟨rfl, rfl⟩
            go_wp2_with fail
            refine A2.mono ?_
            rintro e w3 ⟨rfl, k3⟩
            have g3 := hB.below k3
            have b3 : Below w.heap.size w w3 := hb.trans (k3.mono (by omega))
            go_wp2_with fail
            refine (len_any _ _ _ _ g3).mono ?_
            rintro e w' ⟨rfl, rfl⟩
            go_wp2_with fail
          · refine (len_any _ _ _ _ g3).mono ?_
            rintro e w' ⟨rfl, rfl⟩
            go_wp2_with fail
            go_roundw
            case rel => exact ⟨k + 1, S, by omega, by go_num, rfl, J1.out, g3, b3⟩
            case measure => simp [intOf]; omega
          · refine (expire_rise _ _ _ _ _ k (by omega) g3 J1.out qe' _).mono ?_
            rintro e w4 ⟨v, rfl, S4, q4, I4, g4, k4⟩
            have b4 : Below w.heap.size w w4 := b3.trans (k4.below (by omega) (by have := g3.lt; omega))
            have q5 : (S4.L.length : Int) ≤ 1 + room % 8 := I4.len
            have J4 := Lib.hid I4
            have Q4 := Lib.hid q4
            clear I4 q4
            go_wp2_with fail
            refine (len_any _ _ _ _ g4).mono ?_
            rintro e w' ⟨rfl, rfl⟩
            go_wp2_with fail
            go_roundw
            case rel => exact ⟨k + 1, S4, by omega, by go_num, by rw [Q4.out], J4.out, g4, b4⟩
            case measure => simp [intOf]; omega
    · go_wp2_with fail
      go_ret
      exact ⟨rfl, hb⟩
set_option maxRecDepth 100000 in
set_option maxHeartbeats 4000000 in
theorem rise_b (room less : Int) (a0 : 0 ≤ room) (a1 : room ≤ 255) (b0 : 0 ≤ less) (b1 : less ≤ 255) (bb off len cap : Nat) (bs : Nat → Bool) (hlc : len ≤ cap) (hcap : cap ≤ maxLen) (hn : 100 < len) (w : World) (hbb : bb < w.heap.size)
    (hc : ∀ i, i < len → w.cell? ⟨bb, off + i, none⟩ = some (.bool (bs i))) :
    Calls Try.prog 4 #[.int .u8 room, .int .u8 less, .slice (some ⟨bb, off, none⟩) len cap] w fun e w' => e = .returned (.bool true) ∧ Below w.heap.size w w' := by
  unfold maxLen at hcap
  have HC := Lib.hid hc
  clear hc
  go_enter Try.func4, Try.ntmps4
  go_wp2_with fail
  refine (new_ok w _ _ (by omega) (by omega) (by omega) (by omega)).mono ?_
  rintro e w1 ⟨rfl, g1, k1⟩
  go_wp2_with fail
  refine (begun_any w1).mono ?_
  rintro e w2 ⟨rfl, k2⟩
  have g2 := g1.below k2
  have b2 : Below w.heap.size w w2 := k1.trans (k2.mono (by have := k1.size; omega))
  have i2 : RInv (1 + room % 8) 0 ⟨1 + room % 8, 2147483647 - less % 40, [], 0, 0, 0⟩ := ⟨rfl, by show _ ≤ 2147483647 - less % 40; omega, by show 2147483647 - less % 40 ≤ _; omega, by simp; omega, by simp, Int.le_refl _, Int.le_refl _, Int.le_refl _, Int.le_refl _⟩
  have z2 := g2.lt
  clear g1 k1 k2
  go_wp2_with fail
  go_loopw [7, 44] (fun v7 v44 wr => ∃ (k : Nat) (S : BookD), k ≤ 100 ∧ v44 = .int .i64 k ∧ v7 = .int .i64 S.last ∧ RInv (1 + room % 8) k S ∧ BookAt wr (w.heap.size + 1) w.heap.size S ∧ Below w.heap.size w wr) (fun _ i _ => 100 - (intOf i).toNat)
  case atStart => exact ⟨0, _, Nat.zero_le _, rfl, rfl, i2, g2, b2⟩
  case round =>
    clear i2 g2 b2 z2
    obtain ⟨k, S, hk, rfl, rfl, hI, hB, hb⟩ := hrel
    have hlo := hI.lo
    have hhi := hI.hi
    have hroom := hI.len
    have hz := hB.lt
    by_cases hlt : k < 100
    · have hcell : wr.cell? ⟨bb, off + k, none⟩ = some (.bool (bs k)) := (hb.cell (p := ⟨bb, off + k, none⟩) hbb).trans (HC.out k (by omega))
      have HI := Lib.hid hI
      clear hI
      by_cases hok : (S.L.length : Int) < 1 + room % 8 ∧ S.last < 2147483647
      · obtain ⟨o1, o2⟩ := hok
        cases hbs : bs k
        all_goals
          rw [hbs] at hcell
          clear hbs
          go_wp2_with fail
          refine (len_any _ _ _ _ hB).mono ?_
          rintro e w' ⟨rfl, rfl⟩
          go_wp2_with fail
          refine (ask_rise _ _ _ _ _ k (by omega) hB HI.out o1 o2).mono ?_
          rintro e w3 ⟨rfl, S3, q1, q2, qe, I3, g3, k3⟩
          have qe' : S3.exp ≤ k := by rw [qe]; exact HI.out.e1
          clear qe
          have b3 : Below w.heap.size w w3 := hb.trans (k3.below (by omega) (by omega))
          have Q1 := Lib.hid q1
          have Q2 : Hid ((S3.L.length : Int) = S.L.length + 1) := Lib.hid (by omega)
          have q3 : (S3.L.length : Int) ≤ 1 + room % 8 := I3.len
          have J3 := Lib.hid I3
          have qa : S3.last ≤ 2147483647 := I3.hi
          clear q1 q2 I3
          go_wp2_with fail
          refine (len_any _ _ _ _ g3).mono ?_
          rintro e w' ⟨rfl, rfl⟩
          rw [Q2.out]
        · go_wp2_with fail
          refine (len_any _ _ _ _ g3).mono ?_
          rintro e w' ⟨rfl, rfl⟩
          go_wp2_with fail
          go_roundw
          case rel => exact ⟨k + 1, S3, by omega, by go_num, by rw [Q1.out], J3.out, g3, b3⟩
          case measure => simp [intOf]; omega
        · go_wp2_with fail
          refine (expire_rise _ _ _ _ _ k (by omega) g3 J3.out qe' _).mono ?_
          rintro e w4 ⟨v, rfl, S4, q4, I4, g4, k4⟩
          have b4 : Below w.heap.size w w4 := b3.trans (k4.below (by omega) (by have := g3.lt; omega))
          have q5 : (S4.L.length : Int) ≤ 1 + room % 8 := I4.len
          have J4 := Lib.hid I4
          have Q4 := Lib.hid q4
          clear I4 q4
          go_wp2_with fail
          refine (len_any _ _ _ _ g4).mono ?_
          rintro e w' ⟨rfl, rfl⟩
          go_wp2_with fail
          go_roundw
          case rel => exact ⟨k + 1, S4, by omega, by go_num, by rw [Q4.out, Q1.out], J4.out, g4, b4⟩
          case measure => simp [intOf]; omega
      · have hfull : 1 + room % 8 ≤ (S.L.length : Int) ∨ 2147483647 ≤ S.last := by omega
        have HF := Lib.hid hfull
        clear hfull hok
        have A2 := ask_full wr _ _ S 0 10 hB (by decide) (by decide) (by decide) (by rw [HI.out.room]; exact HF.out)
        have J1 : Hid (RInv (1 + room % 8) (k + 1) S) := ⟨HI.out.room, HI.out.lo, HI.out.hi, HI.out.len, HI.out.keys, HI.out.a0, by have := HI.out.a1; omega, HI.out.e0, by have := HI.out.e1; omega⟩
        have qe' : S.exp ≤ k := HI.out.e1
        by_cases hr : 1 + room % 8 ≤ (S.L.length : Int)
        all_goals
          have hm : 1 + room % 8 ≤ (S.L.length : Int) ∨ 2147483647 ≤ S.last := HF.out
          first
            | (have hm' : 2147483647 ≤ S.last := by omega)
            | skip
          clear hm
          cases hbs : bs k
          all_goals
            rw [hbs] at hcell
            clear hbs
            go_wp2_with fail
            refine (len_any _ _ _ _ hB).mono ?_
            rintro e w' ⟨rfl, rfl⟩
            go_wp2_with fail
            refine A2.mono ?_
            rintro e w3 ⟨rfl, k3⟩
            have g3 := hB.below k3
            have b3 : Below w.heap.size w w3 := hb.trans (k3.mono (by omega))
            go_wp2_with fail
            refine (len_any _ _ _ _ g3).mono ?_
            rintro e w' ⟨rfl, rfl⟩
            go_wp2_with fail
          · refine (len_any _ _ _ _ g3).mono ?_
            rintro e w' ⟨rfl, rfl⟩
            go_wp2_with fail
            go_roundw
            case rel => exact ⟨k + 1, S, by omega, by go_num, rfl, J1.out, g3, b3⟩
            case measure => simp [intOf]; omega
          · refine (expire_rise _ _ _ _ _ k (by omega) g3 J1.out qe' _).mono ?_
            rintro e w4 ⟨v, rfl, S4, q4, I4, g4, k4⟩
            have b4 : Below w.heap.size w w4 := b3.trans (k4.below (by omega) (by have := g3.lt; omega))
            have q5 : (S4.L.length : Int) ≤ 1 + room % 8 := I4.len
            have J4 := Lib.hid I4
            have Q4 := Lib.hid q4
            clear I4 q4
            go_wp2_with fail
            refine (len_any _ _ _ _ g4).mono ?_
            rintro e w' ⟨rfl, rfl⟩
            go_wp2_with fail
            go_roundw
            case rel => exact ⟨k + 1, S4, by omega, by go_num, by rw [Q4.out], J4.out, g4, b4⟩
            case measure => simp [intOf]; omega
    · go_wp2_with fail
      go_ret
      exact ⟨rfl, hb⟩
set_option maxRecDepth 100000 in
set_option maxHeartbeats 1000000 in
theorem rise_none (room less : Int) (a0 : 0 ≤ room) (a1 : room ≤ 255) (b0 : 0 ≤ less) (b1 : less ≤ 255) (oa : Option Addr) (cap : Nat) (hcap : cap ≤ maxLen) (w : World) :
    Calls Try.prog 4 #[.int .u8 room, .int .u8 less, .slice oa 0 cap] w fun e w' => e = .returned (.bool true) ∧ Below w.heap.size w w' := by
  unfold maxLen at hcap
  go_enter Try.func4, Try.ntmps4
  go_wp2_with fail
  refine (new_ok w _ _ (by omega) (by omega) (by omega) (by omega)).mono ?_
  rintro e w1 ⟨rfl, g1, k1⟩
  go_wp2_with fail
  refine (begun_any w1).mono ?_
  rintro e w2 ⟨rfl, k2⟩
  have b2 : Below w.heap.size w w2 := k1.trans (k2.mono (by have := k1.size; omega))
  clear g1 k1 k2
  go_wp2_with fail
  go_loopw [7, 44] (fun _ v44 wr => v44 = .int .i64 0 ∧ Below w.heap.size w wr) (fun _ _ _ => 0)
  case atStart => exact ⟨rfl, b2⟩
  case round =>
    clear b2
    obtain ⟨rfl, hb⟩ := hrel
    go_wp2_with fail
    go_ret
    exact ⟨rfl, hb⟩

theorem rise_any (room less : Int) (a0 : 0 ≤ room) (a1 : room ≤ 255) (b0 : 0 ≤ less) (b1 : less ≤ 255) (oa : Option Addr) (len cap : Nat) (hlc : len ≤ cap) (hcap : cap ≤ maxLen) (w : World)
    (h : 0 < len → ∃ b off, oa = some ⟨b, off, none⟩ ∧ b < w.heap.size ∧ ∃ B : Nat → Bool, ∀ i, i < len → w.cell? ⟨b, off + i, none⟩ = some (.bool (B i))) :
    Calls Try.prog 4 #[.int .u8 room, .int .u8 less, .slice oa len cap] w fun e w' => e = .returned (.bool true) ∧ Below w.heap.size w w' := by
  by_cases hl : len = 0
  · subst hl
    exact rise_none room less a0 a1 b0 b1 oa cap hcap w
  · obtain ⟨b, off, rfl, hb, B, hB⟩ := h (by omega)
    by_cases h100 : len ≤ 100
    · exact rise_a room less a0 a1 b0 b1 b off len cap B hlc hcap h100 w hb hB
    · exact rise_b room less a0 a1 b0 b1 b off len cap B hlc hcap (by omega) w hb hB
end Go.Proofs.Ytnaknoebjbmboaa
