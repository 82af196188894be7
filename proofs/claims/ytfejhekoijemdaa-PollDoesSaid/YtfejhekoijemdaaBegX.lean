import Derived.Test.YtfejhekoijemdaaSameS
import Derived.Test.YtfejhekoijemdaaTakR
namespace Go.Proofs.Ytfejhekoijemdaa
open Go.RowKit

theorem openC_0 {S : SetM} {slots : List Int} (h : openC S slots = 0) : 1 ≤ slots.length ∧ slots.length ≤ 64 ∧ S.l.length < 256 := by
  unfold openC at h
  by_cases d1 : slots.length < 1
  · rw [decide_eq_true d1] at h; simp at h
  by_cases d2 : 64 < slots.length
  · rw [decide_eq_true d2] at h; simp at h
  cases d3 : slots.any wrongB with
  | true => rw [d3] at h; simp at h
  | false =>
    refine ⟨by omega, by omega, ?_⟩
    rw [d3, decide_eq_false d1, decide_eq_false d2] at h
    by_cases d4 : 256 ≤ S.l.length
    · simp [d4] at h
    · omega
theorem SetOK.add {S : SetM} (h : SetOK S) {slots : List Int} (ho : openC S slots = 0) : SetOK (addS S slots) := by
  obtain ⟨h1, h2, _⟩ := openC_0 ho
  refine ⟨h.p0, h.pc, h.c1, by have := h.last; unfold addS; simp; omega, fun o hm => ?_⟩
  unfold addS at hm
  rcases List.mem_append.1 hm with hm | hm
  · exact h.one o hm
  · simp at hm; subst hm; exact newO_ok S h1 h2
theorem SetOK.dropS {S : SetM} (h : SetOK S) (k : Nat) : SetOK (dropS S k) := ⟨h.p0, h.pc, h.c1, h.last, fun o ho => h.one o (List.mem_of_mem_drop ho)⟩
theorem SetOK.dropM {S : SetM} (h : SetOK S) (n v : Int) : SetOK (dropM S n v).1 := by
  unfold Ytfejhekoijemdaa.dropM
  cases findI n S.l with
  | none => exact h
  | some i =>
    simp only
    cases S.l[i]? with
    | none => exact h
    | some o =>
      simp only
      split
      · exact h
      · exact h.mod i _ fun o ho => ho.take v
theorem SetOK.voteM {S : SetM} (h : SetOK S) (n v : Int) (id : ID) : SetOK (voteM S n v id).1 := by
  unfold Ytfejhekoijemdaa.voteM
  cases findI n S.l with
  | none => exact h
  | some i =>
    simp only
    cases S.l[i]? with
    | none => exact h
    | some o =>
      simp only
      split
      · exact h
      · split
        · exact h.mod i _ fun o ho => ho.take v
        · exact h.mod i _ fun o ho => ho.vote v id
theorem SetOK.new {pref conf : Int} (h1 : 1 ≤ pref) (h2 : pref ≤ conf) (h3 : conf ≤ 64) : SetOK ⟨pref, conf, 0, []⟩ := ⟨h1, h2, h3, Int.le_refl _, fun o ho => by cases ho⟩
/-! ### the run of begun, as plain data -/
def T0 : SetM := ⟨2, 3, 0, []⟩
def T1 : SetM := addS T0 [0, 1, 1, 2]
def T2 : SetM := (voteM T1 1 1 (nameP 1)).1
def T3 : SetM := (voteM (dropS T2 0) 1 0 (nameP 1)).1
def T4 : SetM := (dropM T3 1 2).1
theorem t_open : openC T0 [0, 1, 1, 2] = 0 := by decide +kernel
theorem t_vote1 : (voteM T1 1 1 (nameP 1)).2 = 0 := by decide +kernel
theorem t_done1 : doneN T2 = 0 := by decide +kernel
theorem t_vote2 : (voteM (dropS T2 0) 1 0 (nameP 1)).2 = 0 := by decide +kernel
theorem t_drop : (dropM T3 1 2).2 = 4 := by decide +kernel
theorem t_done2 : doneN T4 = 1 := by decide +kernel
theorem t_end : T4.l.take 1 = [⟨1, 4, [(2, 1)], 1, [⟨nameP 1, 3⟩]⟩] := by rfl
end Go.Proofs.Ytfejhekoijemdaa
namespace Go.Proofs.Ytfejhekoijemdaa
open Go.RowKit

theorem GrowsMV.below {w0 w w' : World} {M : Nat → Prop} (hM : ∀ n, M n → w0.heap.size ≤ n) (hb : Below w0.heap.size w0 w) (hk : Keeps M w w') : Below w0.heap.size w0 w' :=
  hb.trans (hk.below hM hb.size)
set_option maxRecDepth 100000 in
set_option maxHeartbeats 4000000 in
theorem begun_any (w : World) : Calls Try.prog 9 #[] w fun e w' => e = .returned (.bool true) ∧ Below w.heap.size w w' := by
  have HNW := Lib.hid (new_yes w 2 3 (by decide) (by decide) (by decide))
  have HNM := fun W => Lib.hid (name_any W 1 (by decide) (by decide))
  have hok0 : Hid (SetOK T0) := Lib.hid (SetOK.new (by decide) (by decide) (by decide))
  have hok1 : Hid (SetOK T1) := Lib.hid (hok0.out.add t_open)
  have hok2 : Hid (SetOK T2) := Lib.hid (hok1.out.voteM _ _ _)
  have hok2' : Hid (SetOK (dropS T2 0)) := Lib.hid (hok2.out.dropS 0)
  have hok3 : Hid (SetOK T3) := Lib.hid (hok2'.out.voteM _ _ _)
  have hok4 : Hid (SetOK T4) := Lib.hid (hok3.out.dropM _ _)
  go_enter Try.func9, Try.ntmps9
  go_wp2_with fail
  refine HNW.out.mono ?_
  rintro e w1 ⟨rfl, hw1⟩
  have S0 : Hid (SetW w1 (fun n => n = w.heap.size) (fun _ => False) w.heap.size (.slice none 0 0) [] T0) := Lib.hid (by rw [hw1]; exact new_set w 2 3)
  have B1 : Hid (Below w.heap.size w w1) := Lib.hid (by rw [hw1]; exact (Below.refl _ w).alloc (Nat.le_refl _) _)
  have hz1 : w1.heap.size = w.heap.size + 1 := by rw [hw1]; simp
  clear hw1 HNW
  generalize hb : w.heap.size = b at *
  have S0' := Lib.hid (S0.out.alloc (.cells #[.int .i64 0, .int .i64 1, .int .i64 1, .int .i64 2] 3))
  have B1' := Lib.hid (B1.out.alloc (by omega) (.cells #[.int .i64 0, .int .i64 1, .int .i64 1, .int .i64 2] 3))
  have hsl : RdAt (w1.alloc (.cells #[.int .i64 0, .int .i64 1, .int .i64 1, .int .i64 2] 3)) (fun n => n = b) (.slice (some ⟨w1.heap.size, 0, none⟩) 4 4) [0, 1, 1, 2] :=
    ⟨SlIn.of_cells (E := 3) (fr := (0, 0)) intL_length [0, 1, 1, 2] (obj_alloc_at _ _ _ rfl) (by simp [maxLen]), fun bb off len cap e _ hm => by simp at e <;> omega⟩
  have HOP := Lib.hid (open_yes _ _ _ b _ _ T0 S0'.out hok0.out (by decide) _ _ hsl t_open)
  have ht0 : T0.last + 1 = 1 := by decide
  rw [ht0] at HOP
  have HZ1 := Lib.hid hz1
  clear hsl hz1
  go_wp2_with fail
  refine HOP.out.mono ?_
  rintro e w2 ⟨rfl, M1, lv1, ps1, s1, m1, m2, k1⟩
  have S1 : Hid (SetW w2 M1 (fun _ => False) b lv1 ps1 T1) := Lib.hid s1
  have MM1 : Hid (∀ n, M1 n → b ≤ n) := Lib.hid (fun n hn => by rcases m2 n hn with h | h; exact Nat.le_of_eq h.symm; simp at h; have := HZ1.out; omega)
  have B2 : Hid (Below b w w2) := Lib.hid (B1'.out.trans (k1.below (fun n hn => Nat.le_of_eq hn.symm) (by have := B1'.out.size; omega)))
  clear s1 m1 m2 k1 HOP S0 S0' B1 B1'
  go_wp2_with fail
  refine (HNM _).out.mono ?_
  rintro e w3 ⟨rfl, b3⟩
  have S2 := Lib.hid (S1.out.below b3)
  have B3 : Hid (Below b w w3) := Lib.hid (B2.out.trans (b3.mono (by have := S1.out.lt; omega)))
  have HVO := Lib.hid ((vote_any w3 M1 _ b lv1 ps1 T1 S2.out hok1.out 1 1 (nameP 1)).mono (R' := fun e w' => e = .returned (.int .i64 0) ∧ ∃ V', SetW w' M1 V' b lv1 ps1 T2 ∧ Keeps M1 w3 w') fun e w' ⟨h1, V', h2, _, _, h3⟩ => ⟨by rw [h1, t_vote1], V', h2, h3⟩)
  clear b3 S1 B2
  go_wp2_with fail
  refine HVO.out.mono ?_
  rintro e w4 ⟨rfl, V2, s2, k2⟩
  have S3 := Lib.hid s2
  have B4 : Hid (Below b w w4) := Lib.hid (B3.out.trans (k2.below MM1.out (by have := S2.out.lt; omega)))
  have HDN := Lib.hid ((doneS_any w4 M1 V2 b lv1 ps1 T2 S3.out hok2.out (by decide +kernel)).mono (R' := fun e w' => e = .returned (.slice none 0 0) ∧ ∃ lv' ps', SetW w' M1 V2 b lv' ps' (dropS T2 0) ∧ Keeps M1 w4 w') fun e w' ⟨v, es, lv', ps', h1, h2, h3, h4, h5⟩ => by
    rw [t_done1] at h3 h4
    have h6 : es = [] := List.eq_nil_of_length_eq_zero (by rw [h4.1]; rfl)
    subst h6
    exact ⟨by rw [h1, h2.2.2 rfl], lv', ps', h3, h5⟩)
  clear s2 k2 HVO S2 B3
  go_wp2_with fail
  refine HDN.out.mono ?_
  rintro e w5 ⟨rfl, lv5, ps5, s5, k5⟩
  have S5 := Lib.hid s5
  have B5 : Hid (Below b w w5) := Lib.hid (B4.out.trans (k5.below MM1.out (by have := S3.out.lt; omega)))
  clear s5 k5 HDN S3 B4
  go_wp2_with fail
  refine (HNM _).out.mono ?_
  rintro e w6 ⟨rfl, b6⟩
  have S6 := Lib.hid (S5.out.below b6)
  have B6 : Hid (Below b w w6) := Lib.hid (B5.out.trans (b6.mono (by have := S5.out.lt; omega)))
  have HV2 := Lib.hid ((vote_any w6 M1 _ b lv5 ps5 (dropS T2 0) S6.out hok2'.out 1 0 (nameP 1)).mono (R' := fun e w' => e = .returned (.int .i64 0) ∧ ∃ V', SetW w' M1 V' b lv5 ps5 T3 ∧ Keeps M1 w6 w') fun e w' ⟨h1, V', h2, _, _, h3⟩ => ⟨by rw [h1, t_vote2], V', h2, h3⟩)
  clear b6 S5 B5
  go_wp2_with fail
  refine HV2.out.mono ?_
  rintro e w7 ⟨rfl, V7, s7, k7⟩
  have S7 := Lib.hid s7
  have B7 : Hid (Below b w w7) := Lib.hid (B6.out.trans (k7.below MM1.out (by have := S6.out.lt; omega)))
  have HDR := Lib.hid ((drop_any w7 M1 V7 b lv5 ps5 T3 S7.out hok3.out 1 2).mono (R' := fun e w' => e = .returned (.int .i64 4) ∧ ∃ V', SetW w' M1 V' b lv5 ps5 T4 ∧ Keeps M1 w7 w') fun e w' ⟨h1, V', h2, _, _, h3⟩ => ⟨by rw [h1, t_drop], V', h2, h3⟩)
  clear s7 k7 HV2 S6 B6
  go_wp2_with fail
  refine HDR.out.mono ?_
  rintro e w8 ⟨rfl, V8, s8, k8⟩
  have S8 := Lib.hid s8
  have B8 : Hid (Below b w w8) := Lib.hid (B7.out.trans (k8.below MM1.out (by have := S7.out.lt; omega)))
  have HDE := Lib.hid (doneS_any w8 M1 V8 b lv5 ps5 T4 S8.out hok4.out (by decide +kernel))
  clear s8 k8 HDR S7 B7
  go_wp2_with fail
  refine HDE.out.mono ?_
  rintro e w9 ⟨v9, es, lv9, ps9, rfl, o9, s9, e9, k9⟩
  have ht : T4.l.take (doneN T4) = [⟨1, 4, [(2, 1)], 1, [⟨nameP 1, 3⟩]⟩] := by rw [t_done2, t_end]
  rw [ht] at e9
  have B9 : Hid (Below b w w9) := Lib.hid (B8.out.trans (k9.below MM1.out (by have := S8.out.lt; omega)))
  have hb9 : b < w9.heap.size := s9.lt
  have O9 := Lib.hid (o9.slIn endL_length)
  have E9 := Lib.hid e9
  obtain ⟨va, vc, e, _⟩ := o9.slIn endL_length
  generalize es.length = vn at e
  subst e
  clear o9 s9 e9 k9 HDE S8 B8 ht
  go_wp2_with fail
  refine (HNM _).out.mono ?_
  rintro e w10 ⟨rfl, b10⟩
  have B10 : Hid (Below b w w10) := Lib.hid (B9.out.trans (b10.mono (by omega)))
  have hz10 := b10.size
  have HX : Hid (∀ W : World, W = ((w10.alloc (.cells (vtL ⟨nameP 1, 3⟩).toArray 58)).alloc (.cells #[.int .i64 1, .slice (some ⟨w10.heap.size, 0, none⟩) 1 1, .int .i64 4] 43)) →
      (Calls Try.prog 28 #[.slice va vn vc, .slice (some ⟨w10.heap.size + 1, 0, none⟩) 1 1] W fun e w' => e = .returned (.bool true) ∧ Below W.heap.size W w') ∧ Below b w W) := Lib.hid (fun W hW => by
    have hbw : Below w10.heap.size w10 W := by rw [hW]; exact ((Below.refl _ w10).alloc (Nat.le_refl _) _).alloc (by simp) _
    have o1 : obj W w10.heap.size = some (.cells (vtL ⟨nameP 1, 3⟩).toArray 58 (0, 0)) := by rw [hW, obj_alloc_past _ _ _ (by simp)]; exact obj_alloc_at _ _ _ rfl
    have o2 : obj W (w10.heap.size + 1) = some (.cells (endL ⟨1, some ⟨w10.heap.size, 0, none⟩, 1, 1, 4⟩).toArray 43 (0, 0)) := by rw [hW]; exact obj_alloc_at _ _ _ (by simp)
    have hb' : Below w9.heap.size w9 W := b10.trans (hbw.mono hz10)
    refine ⟨sameEnds_yes W V8 (fun _ => True) _ _ es [⟨1, some ⟨w10.heap.size, 0, none⟩, 1, 1, 4⟩] [⟨1, 4, [(2, 1)], 1, [⟨nameP 1, 3⟩]⟩] (O9.out.below hb') (SlIn.one (E := 43) (fr := (0, 0)) endL_length _ o2)
      (E9.out.frame hb'.size (fun n hn _ => obj_below hb' hn) (fun _ h => h)) ⟨rfl, fun i e o h1 h2 => ?_⟩, B10.out.trans (hbw.mono (by omega))⟩
    cases i with
    | zero =>
      simp at h1 h2
      subst h1 h2
      exact ⟨rfl, rfl, SlIn.one (E := 58) (fr := (0, 0)) vtL_length _ o1, fun _ _ _ _ _ _ => trivial⟩
    | succ i => simp at h1)
  clear b10 B9 O9 E9
  go_wp2_with fail
  refine (HX.out _ rfl).1.mono ?_
  rintro e w12 ⟨rfl, b12⟩
  have B12 := Lib.hid ((HX.out _ rfl).2.trans (b12.mono (by have := (HX.out _ rfl).2.size; omega)))
  clear b12
  go_wp2
  go_ret
  exact ⟨rfl, by rw [hb]; exact B12.out⟩
end Go.Proofs.Ytfejhekoijemdaa
