import Derived.Test.YtagpclgappcnbaaBeStep
namespace Go.Proofs.Ytagpclgappcnbaa.Be

/-! ### plain: what is benched, in time and behind a turn -/
theorem stk_later {l : List Vd} (h : ∀ x ∈ l, 1 ≤ x.wt) {now now' : Int} (h0 : 0 ≤ now) (hn : now ≤ now') : ∀ (r : List St) (i : Nat), stkF l (blF now' r i) ≤ stkF l (blF now r i) := by
  intro r
  induction r with
  | nil => intro i; exact Int.le_refl _
  | cons x r ih =>
    intro i
    have := ih (i + 1)
    have hw := wtA_pos h (i : Int)
    rw [blF_cons, blF_cons]
    by_cases h1 : 0 ≤ now' ∧ now' < x.u
    · rw [if_pos h1, if_pos (by omega)]; simp only [stkF]; omega
    · rw [if_neg h1]
      split
      · simp only [stkF]; omega
      · exact this
theorem stk_set {l : List Vd} (h : ∀ x ∈ l, 1 ≤ x.wt) (now : Int) (y : St) : ∀ (r : List St) (i j : Nat), stkF l (blF now (r.set j y) i) ≤ stkF l (blF now r i) + wtA l ((i + j : Nat) : Int) := by
  intro r
  induction r with
  | nil => intro i j; simp only [List.set_nil, blF, stkF]; have := wtA_pos h ((i + j : Nat) : Int); omega
  | cons x r ih =>
    intro i j
    cases j with
    | zero =>
      rw [List.set_cons_zero, blF_cons, blF_cons]
      have hw := wtA_pos h ((i : Nat) : Int)
      have he : wtA l ((i + 0 : Nat) : Int) = wtA l (i : Int) := rfl
      split <;> split <;> (try simp only [stkF]) <;> omega
    | succ j =>
      have := ih (i + 1) j
      rw [show i + 1 + j = i + (j + 1) by omega] at this
      rw [List.set_cons_succ, blF_cons, blF_cons]
      split
      · simp only [stkF]; omega
      · exact this
theorem bl_same (now : Int) : ∀ (r : List St) (i j : Nat) (y : St) (hj : j < r.length), y.u = r[j].u → blF now (r.set j y) i = blF now r i := by
  intro r
  induction r with
  | nil => intro i j y hj; simp at hj
  | cons x r ih =>
    intro i j y hj hu
    cases j with
    | zero =>
      rw [List.set_cons_zero, blF_cons, blF_cons]
      simp only [List.getElem_cons_zero] at hu
      rw [hu]
    | succ j =>
      rw [List.set_cons_succ, blF_cons, blF_cons, ih (i + 1) j y (by simpa using hj) (by simpa using hu)]
/-- no more than the share -/
def ShareI (r : Rul) (l : List Vd) (s : List St) (now : Int) : Prop := stkI l s now * r.de ≤ tot l * r.nu
theorem share_later {r : Rul} {l : List Vd} {s : List St} {now now' : Int} (hm : mayE r l s = 0) (h0 : 0 ≤ now) (hn : now ≤ now') (h : ShareI r l s now) : ShareI r l s now' := by
  obtain ⟨hr, hc, hl, _⟩ := mayE_0 hm
  obtain ⟨_, _, _, hw⟩ := chk_32 hc
  obtain ⟨_, _, s2⟩ := wtsF_sum _ _ hw (by decide)
  unfold ShareI at *
  unfold stkI at *
  rw [if_pos ⟨hc, hl⟩] at *
  have h1 := stk_later s2 h0 hn s 0
  have h2 := ruleE_n hr
  exact Int.le_trans (Int.mul_le_mul_of_nonneg_right h1 (by omega)) h
theorem share_same {r : Rul} {l : List Vd} {s : List St} {now : Int} (i : Nat) (hi : i < s.length) {y : St} (hy : y.u = s[i].u) (h : ShareI r l s now) : ShareI r l (s.set i y) now := by
  have hb : blL (s.set i y) now = blL s now := bl_same now s 0 i y hi hy
  unfold ShareI stkI at *
  rw [List.length_set, hb]
  exact h
theorem share_ben {r : Rul} {l : List Vd} {s : List St} {now : Int} (hm : mayE r l s = 0) (i : Nat) (hi : i < s.length) (y : St) (hroom : alI (tot l) (IntKind.i64.wrap (stkI l s now + wtA l i)) r.de r.nu = true) : ShareI r l (s.set i y) now := by
  obtain ⟨hr, hc, hl, _⟩ := mayE_0 hm
  obtain ⟨_, _, _, hw⟩ := chk_32 hc
  obtain ⟨s0, s1, s2⟩ := wtsF_sum _ _ hw (by decide)
  have h2 := ruleE_n hr
  have hk := stk_set s2 now y s 0 i
  rw [Nat.zero_add] at hk
  have k0 := stkF_pos s2 (blL s now)
  have k1 := stkF_le s2 hl (List.prefix_refl (blL s now))
  have hil : i < l.length := by omega
  have hwi : wtA l (i : Int) = l[i].wt := by unfold wtA; simp [List.getD, hil]
  have w0 := wtA_pos s2 (i : Int)
  have w1 : l[i].wt ≤ sumW l := by
    have hle : ∀ (a : List Vd) (k : Nat) (hk : k < a.length), (∀ x ∈ a, 1 ≤ x.wt) → a[k].wt ≤ sumW a := by
      intro a
      induction a with
      | nil => intro k hk; simp at hk
      | cons x a ih =>
        intro k hk ha
        have hx := ha x (by simp)
        have hd := sumW_drop a 0 (fun y hy => ha y (by simp [hy]))
        rw [List.drop_zero] at hd
        cases k with
        | zero => simp only [List.getElem_cons_zero, sumW]; omega
        | succ k =>
          have := ih k (by simpa using hk) (fun y hy => ha y (by simp [hy]))
          simp only [List.getElem_cons_succ, sumW]; omega
    exact hle l i hil s2
  have hs : stkI l s now = stkF l (blL s now) := if_pos ⟨hc, hl⟩
  have hs' : stkI l (s.set i y) now = stkF l (blL (s.set i y) now) := if_pos ⟨hc, by rw [List.length_set]; exact hl⟩
  unfold alI at hroom
  rw [show IntKind.i64.wrap (stkI l s now + wtA l i) = stkI l s now + wtA l i by rw [hs]; simp [IntKind.wrap, IntKind.signed, IntKind.bits]; omega] at hroom
  simp only [Bool.and_eq_true, decide_eq_true_eq] at hroom
  unfold ShareI
  rw [hs']
  rw [hs] at hroom
  exact Int.le_trans (Int.mul_le_mul_of_nonneg_right hk (by omega)) hroom.2
theorem nSeat_u (r : Rul) (x : St) (now : Int) (room : Bool) : (stays r x now room = true → (nSeat r x now room).u = x.u) ∧ (stays r x now room = false → room = true ∧ (nSeat r x now room).u = now + min r.fo (4611686018427387903 - now)) := by
  constructor
  · intro h; unfold nSeat; rw [if_pos h]
  · intro h
    unfold nSeat
    rw [if_neg (by rw [h]; decide)]
    refine ⟨?_, rfl⟩
    unfold stays at h
    simp only [Bool.or_eq_false_iff, Bool.not_eq_false'] at h
    exact h.2
end Go.Proofs.Ytagpclgappcnbaa.Be
