import Derived.Test.YtiknonljdibfgaaStep
namespace Go.Proofs.Ytiknonljdibfgaa
open Go.RowKit

/-! ### the law's own small functions -/
@[go_sem] theorem run_min_int {P : Program} (ats : Array TypeId) (ty : TypeId) (k k' : IntKind) (x y : Int) (w : World) : (Builtin.min_ ats ty #[.int k x, .int k' y]).run P w = .ok (.int k (if y < x then y else x)) w := by
  unfold Builtin.min_
  simp [Builtin.min2]
@[go_sem] theorem run_max_int {P : Program} (ats : Array TypeId) (ty : TypeId) (k k' : IntKind) (x y : Int) (w : World) : (Builtin.max_ ats ty #[.int k x, .int k' y]).run P w = .ok (.int k (if x < y then y else x)) w := by
  unfold Builtin.max_
  simp [Builtin.max2]

def fewB (l : List Vd) (n : Nat) : Bool := (l.take 100).all (fun x => decide (x.name.size ≤ 300)) && decide (l.length ≤ 50) && decide (n ≤ 50)
theorem fewB_t {l : List Vd} {n : Nat} (h : fewB l n = true) : (∀ x ∈ l, x.name.size ≤ 300) ∧ l.length ≤ 50 ∧ n ≤ 50 := by
  unfold fewB at h
  simp only [Bool.and_eq_true, decide_eq_true_eq] at h
  refine ⟨fun x hx => ?_, h.1.2, h.2⟩
  have := List.all_eq_true.1 h.1.1 x (by rw [List.take_of_length_le (by omega)]; exact hx)
  simpa using this
def fewF : List Vd → Bool
  | [] => true
  | x :: r => if 300 < x.name.size then false else fewF r
theorem fewF_cons (x : Vd) (r : List Vd) : fewF (x :: r) = if 300 < x.name.size then false else fewF r := rfl
theorem fewF_all : ∀ r : List Vd, fewF r = r.all (fun x => decide (x.name.size ≤ 300)) := by
  intro r
  induction r with
  | nil => rfl
  | cons x r ih =>
    rw [fewF_cons, List.all_cons, ← ih]
    split
    · rename_i h; simp [show ¬ x.name.size ≤ 300 by omega]
    · rename_i h; simp [show x.name.size ≤ 300 by omega]
set_option maxRecDepth 100000 in
set_option maxHeartbeats 1000000 in
theorem few_any (w : World) (v : Value) (l : List Vd) (oa2 : Option Addr) (n cap2 : Nat) (h : SlIn w v 2 vdL l) : Calls Try.prog 9 #[v, .slice oa2 n cap2] w fun e w' => e = .returned (.bool (fewB l n)) ∧ Below w.heap.size w w' := by
  have HS := Lib.hid h
  obtain ⟨oa, cap, rfl, g1, g2, g3⟩ := h
  unfold maxLen at g2
  obtain ⟨m, hm⟩ : ∃ m : Nat, m = min l.length 100 := ⟨_, rfl⟩
  have hmi : (if (100 : Int) < (l.length : Int) then (100 : Int) else (l.length : Int)) = (m : Int) := by split <;> omega
  have hmi2 : (if (l.length : Int) < 100 then (l.length : Int) else (100 : Int)) = (m : Int) := by split <;> omega
  have hmc : m ≤ cap := by omega
  have HT := Lib.hid (show fewB l n = (fewF (l.take m) && decide (l.length ≤ 50) && decide (n ≤ 50)) by
    unfold fewB
    rw [fewF_all, show l.take m = l.take 100 by rw [hm]; rcases Nat.le_total l.length 100 with h | h
                                                ; · rw [Nat.min_eq_left h, List.take_of_length_le (Nat.le_refl _), List.take_of_length_le h]
                                                · rw [Nat.min_eq_right h]])
  have HLT : (l.take m).length = m := by simp; omega
  have HSM : SlIn w (.slice oa m cap) 2 vdL (l.take m) := HS.out.take (by omega)
  have H3 : Hid (0 < m → ∃ b off, oa = some ⟨b, off, none⟩ ∧ b < w.heap.size ∧ RowAt w b off 2 vdL (l.take m)) := Lib.hid (by
    obtain ⟨_, _, e0, _, _, H3'⟩ := HSM
    rw [HLT] at H3'
    simp only [Value.slice.injEq] at e0
    obtain ⟨rfl, _, rfl⟩ := e0
    exact H3')
  clear HSM
  have HLT := Lib.hid HLT
  generalize l.take m = t at *
  clear g3 hm hmi2
  go_enter Try.func9, Try.ntmps9
  go_wp2
  go_loopw [13] (fun v13 wr => ∃ k : Nat, k ≤ m ∧ v13 = .int .i64 k ∧ Hid (Below w.heap.size w wr) ∧ Hid (fewF (t.drop k) = fewF t)) (fun i _ => m - (intOf i).toNat)
  case atStart => exact ⟨0, Nat.zero_le _, rfl, Lib.hid (Below.refl _ _), Lib.hid rfl⟩
  case round =>
    obtain ⟨k, hk, rfl, HB, HF⟩ := hrel
    by_cases hlt : k < m
    · have hlt' : k < t.length := by rw [HLT.out]; exact hlt
      obtain ⟨b, off, hoa, hbb, hrow⟩ := H3.out (by omega)
      subst hoa
      have hs1 := hrow k hlt'
      rw [← obj_below HB.out hbb] at hs1
      have hbl : b < wr.heap.size := Nat.lt_of_lt_of_le hbb HB.out.size
      have hF := HF.out
      rw [List.drop_eq_getElem_cons hlt'] at hF
      generalize t[k] = x at *
      obtain ⟨xn, xw⟩ := x
      simp only [vdL] at hs1
      rw [fewF_cons] at hF
      have HBA := Lib.hid (HB.out.alloc HB.out.size (.cells #[.string xn, .int .i64 xw] 65))
      clear hrow hlt'
      by_cases hz : 300 < xn.size
      · have hz' : (300 : Int) < (xn.size : Int) := by omega
        simp only [if_pos hz] at hF
        have HG := Lib.hid (show fewB l n = false by rw [HT.out, ← hF]; rfl)
        clear hF HF hz
        go_wp2
        go_ret
        exact ⟨ret_bool HG.out.symm, HBA.out⟩
      · have hz' : ¬ (300 : Int) < (xn.size : Int) := by omega
        simp only [if_neg hz] at hF
        have HG := Lib.hid hF
        clear hF HF hz
        go_wp2
        go_roundw
        case rel => exact ⟨k + 1, by omega, by go_num, HBA, HG⟩
        case measure => simp [intOf]; omega
    · have hF := HF.out
      rw [List.drop_eq_nil_of_le (by rw [HLT.out]; omega)] at hF
      have HG := Lib.hid (show fewB l n = (decide (l.length ≤ 50) && decide (n ≤ 50)) by rw [HT.out, ← hF]; rfl)
      clear hF HF
      by_cases h1 : l.length ≤ 50
      · have h1' : (l.length : Int) ≤ 50 := by omega
        go_wp2
        go_ret
        refine ⟨ret_bool ?_, HB.out⟩
        rw [HG.out, Bool.eq_iff_iff]
        simp
        omega
      · have h1' : ¬ (l.length : Int) ≤ 50 := by omega
        have HG2 := Lib.hid (show fewB l n = false by rw [HG.out]; simp; omega)
        clear h1
        go_wp2
        go_ret
        exact ⟨ret_bool HG2.out.symm, HB.out⟩

/-! ### an example -/
def thr : List Vd := [⟨⟨#[97]⟩, 1⟩, ⟨⟨#[98]⟩, 1⟩, ⟨⟨#[99]⟩, 2⟩]
def som : Rul := ⟨2, 3, 10, 1, 2⟩
set_option maxRecDepth 100000 in
theorem three_any (w : World) : Calls Try.prog 37 #[] w fun e w' => ∃ v, e = .returned v ∧ SlIn w' v 2 vdL thr ∧ Below w.heap.size w w' := by
  have hb : (Instr.buildSlice 24 3 #[(0, .agg #[.string ⟨#[97]⟩, .int .i64 1]), (1, .agg #[.string ⟨#[98]⟩, .int .i64 1]), (2, .agg #[.string ⟨#[99]⟩, .int .i64 2])]).run Try.prog w = .ok (.slice (some ⟨w.heap.size, 0, none⟩) 3 3) (w.alloc (.cells #[.string ⟨#[97]⟩, .int .i64 1, .string ⟨#[98]⟩, .int .i64 1, .string ⟨#[99]⟩, .int .i64 2] 65)) := by kernel_rfl
  go_enter Try.func37, Try.ntmps37
  go_wp2
  go_ret
  refine ⟨_, rfl, ?_, (Below.refl _ _).alloc (Nat.le_refl _) _⟩
  exact SlIn.of_cells (E := 65) (fr := (0, 0)) vdL_length thr (by exact obj_alloc_at _ _ _ rfl) (by simp [thr, maxLen])
set_option maxRecDepth 100000 in
theorem some_any (w : World) : Calls Try.prog 36 #[] w fun e w' => e = .returned (ruV som) ∧ Below w.heap.size w w' := by
  have hb : ∀ w, (Instr.build 23 #[(0, .int .i64 2), (1, .int .i64 3), (2, .int .i64 10), (3, .int .i64 1), (4, .int .i64 2)]).run Try.prog w = .ok (.agg #[.int .i64 2, .int .i64 3, .int .i64 10, .int .i64 1, .int .i64 2]) w := fun _ => by kernel_rfl
  go_enter Try.func36, Try.ntmps36
  go_wp2
  refine bodyPost_ret (v := ruV som) (by simp [results, Try.results36, go_sem, som]) rfl ⟨rfl, (Below.refl _ _).alloc (Nat.le_refl _) _⟩
def s0 : List St := List.replicate 3 ⟨0, 0, 0⟩
def s1 : List St := s0.set 2 ⟨1, 5, 0⟩
def s2 : List St := s0.set 2 ⟨2, 5, 0⟩
def s3 : List St := s0.set 2 ⟨0, 0, 18⟩
theorem mm0 : mayE som thr s0 = 0 := by decide +kernel
theorem mm1 : mayE som thr s1 = 0 := by decide +kernel
theorem mm2 : mayE som thr s2 = 0 := by decide +kernel
theorem live_f (w : World) (v1 v2 : Value) (s : List St) (now : Int) (h : SlIn w v1 2 vdL thr) (h2 : SlIn w v2 3 stL s) (hm : mayE som thr s = 0) (hi : 2 < s.length) (hn0 : 0 ≤ now) (hn1 : now ≤ 4611686018427387903) (hnot : isB s 2 now = false) {b : Bool} {s' : List St}
    (hb : (!stays som s[2] now (alI (tot thr) (IntKind.i64.wrap (stkI thr s now + wtA thr 2)) som.de som.nu)) = b) (hs : s.set 2 (nSeat som s[2] now (alI (tot thr) (IntKind.i64.wrap (stkI thr s now + wtA thr 2)) som.de som.nu)) = s') :
    Calls Try.prog 14 #[ruV som, v1, v2, .int .i64 2, .int .i64 now] w fun e w' => ∃ v : Value, e = .returned (.tuple #[v, .bool b, .int .i64 0]) ∧ SlIn w' v 3 stL s' ∧ Below w.heap.size w w' := by
  refine (failed_any w som v1 v2 thr s 2 now h h2 hm hi hn0 hn1 hnot (by decide)).mono ?_
  rintro e w' ⟨v, rfl, q1, q2⟩
  exact ⟨v, by rw [← hb]; rfl, by rw [← hs]; exact q1.slIn stL_length, q2⟩
set_option maxRecDepth 100000 in
set_option maxHeartbeats 1000000 in
theorem live_any (w : World) : Calls Try.prog 8 #[] w fun e w' => e = .returned (.bool true) ∧ Below w.heap.size w w' := by
  have H0 := Lib.hid (makeSeats 3 (by decide) (by decide) w)
  have HT := Lib.hid three_any
  have HM := Lib.hid some_any
  have HF := Lib.hid (fun W v1 h v0 h2 => live_f W v1 v0 s0 5 h h2 mm0 (by decide) (by decide) (by decide) (by decide +kernel) (b := false) (s' := s1) (by decide +kernel) (by kernel_rfl))
  have HG := Lib.hid (fun W v1 h v0 h2 => live_f W v1 v0 s1 6 h h2 mm1 (by decide) (by decide) (by decide) (by decide +kernel) (b := false) (s' := s2) (by decide +kernel) (by kernel_rfl))
  have HH := Lib.hid (fun W v1 h v0 h2 => live_f W v1 v0 s2 8 h h2 mm2 (by decide) (by decide) (by decide) (by decide +kernel) (b := true) (s' := s3) (by decide +kernel) (by kernel_rfl))
  have HI := Lib.hid (fun W v (h : SlIn W v 3 stL s3) => is_any W v s3 2 17 h)
  have HJ := Lib.hid (fun W v (h : SlIn W v 3 stL s3) => is_any W v s3 2 18 h)
  have HK := Lib.hid (fun W v1 (h : SlIn W v1 2 vdL thr) v (h2 : SlIn W v 3 stL s3) => stake_any W v1 v thr s3 8 h h2 (by decide))
  rw [show isB s3 2 17 = true by decide +kernel] at HI
  rw [show isB s3 2 18 = false by decide +kernel] at HJ
  rw [show stkI thr s3 8 = 2 by decide +kernel] at HK
  go_enter Try.func8, Try.ntmps8
  go_wp2_with fail
  refine H0.out.mono ?_
  rintro e w1 ⟨v0, rfl, q0, b1⟩
  have S0 := Lib.hid (q0.slIn stL_length)
  have B1 := Lib.hid b1
  clear q0 b1 H0
  go_wp2_with fail
  refine (HM.out _).mono ?_
  rintro e w2 ⟨rfl, b2⟩
  have B2 := Lib.hid (B1.out.trans (b2.mono B1.out.size))
  have S0b := Lib.hid (S0.out.below b2)
  clear b2 B1 S0
  go_wp2_with fail
  refine (HT.out _).mono ?_
  rintro e w3 ⟨v3, rfl, q3, b3⟩
  have B3 := Lib.hid (B2.out.trans (b3.mono B2.out.size))
  have H0 := Lib.hid (HF.out w3 v3 q3 _ (S0b.out.below b3))
  clear b3 B2 S0b q3 HF
  go_wp2_with fail
  refine H0.out.mono ?_
  rintro e w1 ⟨v0, rfl, q0, b1⟩
  have S0 := Lib.hid q0
  have B1 := Lib.hid (B3.out.trans (b1.mono B3.out.size))
  clear q0 b1 H0 B3
  go_wp2_with fail
  refine (HM.out _).mono ?_
  rintro e w2 ⟨rfl, b2⟩
  have B2 := Lib.hid (B1.out.trans (b2.mono B1.out.size))
  have S0b := Lib.hid (S0.out.below b2)
  clear b2 B1 S0
  go_wp2_with fail
  refine (HT.out _).mono ?_
  rintro e w3 ⟨v3, rfl, q3, b3⟩
  have B3 := Lib.hid (B2.out.trans (b3.mono B2.out.size))
  have H0 := Lib.hid (HG.out w3 v3 q3 _ (S0b.out.below b3))
  clear b3 B2 S0b q3 HG
  go_wp2_with fail
  refine H0.out.mono ?_
  rintro e w1 ⟨v0, rfl, q0, b1⟩
  have S0 := Lib.hid q0
  have B1 := Lib.hid (B3.out.trans (b1.mono B3.out.size))
  clear q0 b1 H0 B3
  go_wp2_with fail
  refine (HM.out _).mono ?_
  rintro e w2 ⟨rfl, b2⟩
  have B2 := Lib.hid (B1.out.trans (b2.mono B1.out.size))
  have S0b := Lib.hid (S0.out.below b2)
  clear b2 B1 S0
  go_wp2_with fail
  refine (HT.out _).mono ?_
  rintro e w3 ⟨v3, rfl, q3, b3⟩
  have B3 := Lib.hid (B2.out.trans (b3.mono B2.out.size))
  have H0 := Lib.hid (HH.out w3 v3 q3 _ (S0b.out.below b3))
  clear b3 B2 S0b q3 HH
  go_wp2_with fail
  refine H0.out.mono ?_
  rintro e w1 ⟨v0, rfl, q0, b1⟩
  have S0 := Lib.hid q0
  have B1 := Lib.hid (B3.out.trans (b1.mono B3.out.size))
  clear q0 b1 H0 B3
  go_wp2_with fail
  refine (HI.out _ _ S0.out).mono ?_
  rintro e w2 ⟨rfl, rfl⟩
  go_wp2_with fail
  refine (HJ.out _ _ S0.out).mono ?_
  rintro e w2 ⟨rfl, rfl⟩
  go_wp2_with fail
  refine (HT.out _).mono ?_
  rintro e w3 ⟨v3, rfl, q3, b3⟩
  have B3 := Lib.hid (B1.out.trans (b3.mono B1.out.size))
  have H0 := Lib.hid (HK.out w3 v3 q3 _ (S0.out.below b3))
  clear b3 B1 S0 q3 HK
  go_wp2_with fail
  refine H0.out.mono ?_
  rintro e w1 ⟨rfl, b1⟩
  have B1 := Lib.hid (B3.out.trans (b1.mono B3.out.size))
  clear b1 H0
  go_wp2
  go_ret
  exact ⟨rfl, B1.out⟩
end Go.Proofs.Ytiknonljdibfgaa
