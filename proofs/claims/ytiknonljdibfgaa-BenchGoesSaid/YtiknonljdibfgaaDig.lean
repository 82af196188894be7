import Derived.Test.YtiknonljdibfgaaAct
namespace Go.Proofs.Ytiknonljdibfgaa
open Go.RowKit

/-! ### plain: numbers in words of 31 bits -/
def val : List Int → Int
  | [] => 0
  | d :: r => d + 2147483648 * val r
def pw : Nat → Int
  | 0 => 1
  | n + 1 => 2147483648 * pw n
theorem val_set : ∀ (L : List Int) (j : Nat) (d : Int) (h : j < L.length), val (L.set j d) = val L + (d - L[j]) * pw j := by
  intro L
  induction L with
  | nil => intro j d h; simp at h
  | cons x L ih =>
    intro j d h
    cases j with
    | zero => simp only [List.set_cons_zero, val, List.getElem_cons_zero, pw]; omega
    | succ j =>
      have := ih j d (by simpa using h)
      simp only [List.set_cons_succ, val, List.getElem_cons_succ, pw, this]
      grind
/-- all words are words -/
def DigOK (L : List Int) : Prop := ∀ x ∈ L, 0 ≤ x ∧ x < 2147483648
theorem DigOK.set {L : List Int} (h : DigOK L) (j : Nat) {d : Int} (h0 : 0 ≤ d) (h1 : d < 2147483648) : DigOK (L.set j d) := fun x hx => by
  rcases List.mem_or_eq_of_mem_set hx with hx | rfl
  · exact h x hx
  · exact ⟨h0, h1⟩
theorem DigOK.at {L : List Int} (h : DigOK L) {j : Nat} (hj : j < L.length) : 0 ≤ L[j] ∧ L[j] < 2147483648 := h _ (List.getElem_mem hj)
theorem val_drop (L : List Int) (j : Nat) (h : j < L.length) : val (L.drop j) = L[j] + 2147483648 * val (L.drop (j + 1)) := by
  rw [List.drop_eq_getElem_cons h]; rfl
theorem val_gt {L M : List Int} (hl : DigOK L) (hm : DigOK M) (he : L.length = M.length) : ∀ (j : Nat), j ≤ L.length → val (M.drop j) < val (L.drop j) → val M < val L := by
  intro j
  induction j with
  | zero => intro _ h; simpa using h
  | succ j ih =>
    intro hj h
    refine ih (by omega) ?_
    rw [val_drop L j (by omega), val_drop M j (by omega)]
    have h1 := hl.at (show j < L.length by omega)
    have h2 := hm.at (show j < M.length by omega)
    omega
/-- the words of a number -/
def dig3 (a : Int) : List Int := [a % 2147483648, a / 2147483648 % 2147483648, a / 4611686018427387904]
theorem dig3_ok {a : Int} (h0 : 0 ≤ a) (h1 : a < 9223372036854775808) : DigOK (dig3 a) ∧ val (dig3 a) = a := by
  constructor
  · intro x hx
    simp only [dig3, List.mem_cons, List.not_mem_nil, or_false] at hx
    rcases hx with rfl | rfl | rfl <;> omega
  · simp only [dig3, val]; omega
/-- one step of the long product -/
theorem step_val {L X Y : List Int} {i k : Nat} {c v P : Int} (hi : i + k < L.length) (hx : i < X.length) (hy : k < Y.length) (hv : v = L[i + k] + c + X[i] * Y[k])
    (h : val L + c * pw (i + k) = P + X[i] * pw i * val (Y.take k)) : val (L.set (i + k) (v % 2147483648)) + v / 2147483648 * pw (i + k + 1) = P + X[i] * pw i * val (Y.take (k + 1)) := by
  have hp : pw (i + k + 1) = 2147483648 * pw (i + k) := rfl
  have hpa : ∀ i k, pw (i + k) = pw i * pw k := by
    intro i k
    induction k with
    | zero => simp [pw]
    | succ k ih => rw [show i + (k + 1) = (i + k) + 1 by omega]; simp only [pw, ih]; grind
  have hvt : ∀ (Y : List Int) (k : Nat) (hk : k < Y.length), val (Y.take (k + 1)) = val (Y.take k) + Y[k] * pw k := by
    intro Y
    induction Y with
    | nil => intro k hk; simp at hk
    | cons y Y ih =>
      intro k hk
      cases k with
      | zero => simp [val, pw]
      | succ k =>
        have := ih k (by simpa using hk)
        simp only [List.take_succ_cons, val, List.getElem_cons_succ, pw] at this ⊢
        rw [this]
        grind
  have hd : v % 2147483648 + 2147483648 * (v / 2147483648) = v := Int.emod_add_mul_ediv v 2147483648
  rw [val_set _ _ _ hi, hvt Y k hy, hp, hpa]
  rw [hpa] at h
  generalize v % 2147483648 = r at *
  generalize v / 2147483648 = q at *
  generalize pw i = p1 at *
  generalize pw k = p2 at *
  generalize L[i + k] = lk at *
  grind
end Go.Proofs.Ytiknonljdibfgaa
