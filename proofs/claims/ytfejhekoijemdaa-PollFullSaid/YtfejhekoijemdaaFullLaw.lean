import Derived.Test.YtfejhekoijemdaaBegunW
namespace Go.Proofs.Ytfejhekoijemdaa
open Go.RowKit

structure FullK (k : Nat) (S : SetM) : Prop where
  ok : SetOK S
  len : S.l.length = k
  last : S.last = k
theorem openC_three {S : SetM} {a c : Int} (ha : 0 ≤ a) (ha2 : a < 32) (hc : 0 ≤ c) (hc2 : c < 32) (hl : S.l.length < 256) : openC S [a, c, 3] = 0 := by
  have h1 : ([a, c, 3] : List Int).any wrongB = false := by
    have e1 : wrongB a = false := by unfold wrongB; rw [decide_eq_false (by omega), decide_eq_false (by omega)]; rfl
    have e2 : wrongB c = false := by unfold wrongB; rw [decide_eq_false (by omega), decide_eq_false (by omega)]; rfl
    simp only [List.any_cons, e1, e2]
    decide
  unfold openC
  rw [h1]
  simp
  omega
theorem FullK.next {k : Nat} {S : SetM} (h : FullK k S) {sl : List Int} (ho : openC S sl = 0) : FullK (k + 1) (addS S sl) :=
  ⟨h.ok.add ho, by have := h.len; unfold addS; simp; omega, by have := h.last; unfold addS; simp; omega⟩
set_option maxRecDepth 100000 in
set_option maxHeartbeats 4000000 in
theorem fullLaw_any (w : World) (n : Int) (h0 : 0 ≤ n) (h1 : n ≤ 255) : Calls Try.prog 4 #[.int .u8 n] w fun e w' => e = .returned (.bool true) ∧ Below w.heap.size w w' := by
  have HNW := Lib.hid (new_yes w 1 2 (by decide) (by decide) (by decide))
  have HB := fun W => Lib.hid (begun_any W)
  have e2 : n.tmod 32 = n % 32 := Int.tmod_eq_emod_of_nonneg h0
  have e3 : IntKind.i64.wrap n = n := by simp [IntKind.wrap, IntKind.signed, IntKind.bits]; omega
  have e4 : IntKind.i64.wrap (n % 32) = n % 32 := by simp [IntKind.wrap, IntKind.signed, IntKind.bits]; omega
  go_enter Try.func4, Try.ntmps4
  go_wp2_with fail
  refine HNW.out.mono ?_
  rintro e w1 ⟨rfl, hw1⟩
  have S0 : Hid (SetW w1 (fun n => n = w.heap.size) (fun _ => False) w.heap.size (.slice none 0 0) [] ⟨1, 2, 0, []⟩) := Lib.hid (by rw [hw1]; exact new_set w 1 2)
  have B1 : Hid (Below w.heap.size w w1) := Lib.hid (by rw [hw1]; exact (Below.refl _ w).alloc (Nat.le_refl _) _)
  clear hw1 HNW
  generalize hb : w.heap.size = b at *
  go_wp2_with fail
  refine (HB _).out.mono ?_
  rintro e w2 ⟨rfl, b2⟩
  have S1 := Lib.hid (S0.out.below b2)
  have B2 : Hid (Below b w w2) := Lib.hid (B1.out.trans (b2.mono (by have := S0.out.lt; omega)))
  clear b2 S0 B1
  go_wp2_with fail
  go_loopw [5, 23] (fun _ v23 wr => ∃ k : Nat, k ≤ 256 ∧ v23 = .int .i64 k ∧ Hid (∃ M lv ps S, SetW wr M (fun _ => False) b lv ps S ∧ FullK k S ∧ (∀ n, M n → b ≤ n)) ∧ Hid (Below b w wr)) (fun _ i _ => 256 - (intOf i).toNat)
  case atStart => exact ⟨0, by omega, rfl, Lib.hid ⟨_, _, _, _, S1.out, ⟨SetOK.new (by decide) (by decide) (by decide), rfl, rfl⟩, fun n hn => Nat.le_of_eq hn.symm⟩, B2⟩
  case round =>
    obtain ⟨k, hk, rfl, HS, HBr⟩ := hrel
    obtain ⟨M, lv, ps, S, s1, fk, hM⟩ := HS.out
    have hbl := s1.lt
    have HMb := Lib.hid hM
    clear hM
    by_cases hlt : k < 256
    · have e1 : (k : Int).tmod 32 = (k : Int) % 32 := Int.tmod_eq_emod_of_nonneg (by omega)
      have e5 : IntKind.i64.wrap ((k : Int) % 32) = (k : Int) % 32 := by simp [IntKind.wrap, IntKind.signed, IntKind.bits]; omega
      have ho := openC_three (S := S) (a := (k : Int) % 32) (c := n % 32) (by omega) (by omega) (by omega) (by omega) (by have := fk.len; omega)
      have S2 := Lib.hid (s1.alloc (.cells #[.int .i64 ((k : Int) % 32), .int .i64 (n % 32), .int .i64 3] 3))
      have hsl : RdAt (wr.alloc (.cells #[.int .i64 ((k : Int) % 32), .int .i64 (n % 32), .int .i64 3] 3)) M (.slice (some ⟨wr.heap.size, 0, none⟩) 3 3) [(k : Int) % 32, n % 32, 3] :=
        ⟨SlIn.of_cells (E := 3) (fr := (0, 0)) intL_length [(k : Int) % 32, n % 32, 3] (obj_alloc_at _ _ _ rfl) (by simp [maxLen]), fun bb off len cap e _ hm => by
          have h3 := s1.mlt _ hm
          simp at e <;> omega⟩
      have hlast := fk.last
      have HOP := Lib.hid (open_yes _ M _ b lv ps S S2.out fk.ok (by omega) _ _ hsl ho)
      rw [hlast] at HOP
      have FK := Lib.hid (fk.next ho)
      have B3 := Lib.hid (HBr.out.alloc (by have := HBr.out.size; omega) (.cells #[.int .i64 ((k : Int) % 32), .int .i64 (n % 32), .int .i64 3] 3))
      have hwk : IntKind.i64.wrap ((k : Int) + 1) = (k : Int) + 1 := by simp [IntKind.wrap, IntKind.signed, IntKind.bits]; omega
      clear hsl ho fk s1 HS hlast
      generalize hr1 : (k : Int) % 32 = r1 at *
      generalize hr2 : n % 32 = r2 at *
      go_wp2_with fail
      refine HOP.out.mono ?_
      rintro e w3 ⟨rfl, M3, lv3, ps3, s3, m1, m2, k3⟩
      have HB3 : Hid (Below b w w3) := Lib.hid (B3.out.trans (k3.below HMb.out (by simp; omega)))
      have HS3 : Hid (∃ M lv ps S, SetW w3 M (fun _ => False) b lv ps S ∧ FullK (k + 1) S ∧ (∀ n, M n → b ≤ n)) := Lib.hid ⟨_, _, _, _, s3, FK.out, fun n hn => by
        rcases m2 n hn with h | h
        · exact HMb.out n h
        · simp at h; omega⟩
      clear s3 m1 m2 k3 HOP
      go_wp2
      go_roundw
      case rel => exact ⟨k + 1, by omega, by go_num, HS3, HB3⟩
      case measure => simp [intOf]; omega
    · have hk' : k = 256 := by omega
      subst hk'
      have ho : openC S [1] = 6 := by
        have h1 : ([1] : List Int).any wrongB = false := by decide
        unfold openC
        rw [h1]
        have := fk.len
        simp; omega
      have S2 := Lib.hid (s1.alloc (.cells #[.int .i64 1] 3))
      have hsl : SlIn (wr.alloc (.cells #[.int .i64 1] 3)) (.slice (some ⟨wr.heap.size, 0, none⟩) 1 1) 1 intL [1] :=
        SlIn.of_cells (E := 3) (fr := (0, 0)) intL_length [1] (obj_alloc_at _ _ _ rfl) (by simp [maxLen])
      have HOP := Lib.hid (open_no _ M _ b lv ps S S2.out fk.ok.p0 _ _ hsl (by rw [ho]; decide))
      rw [ho] at HOP
      have HLE := Lib.hid (len_any _ M _ b lv ps S S2.out fk.ok.p0)
      rw [fk.len] at HLE
      have B3 := Lib.hid (HBr.out.alloc (by have := HBr.out.size; omega) (.cells #[.int .i64 1] 3))
      clear hsl ho fk s1 HS
      go_wp2_with fail
      refine HOP.out.mono ?_
      rintro e w3 ⟨rfl, hw3⟩
      cases hw3
      go_wp2_with fail
      refine HLE.out.mono ?_
      rintro e w4 ⟨rfl, hw4⟩
      cases hw4
      go_wp2
      go_ret
      exact ⟨rfl, by rw [hb]; exact B3.out⟩
end Go.Proofs.Ytfejhekoijemdaa
