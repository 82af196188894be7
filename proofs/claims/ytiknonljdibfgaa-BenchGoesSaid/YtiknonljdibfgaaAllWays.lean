import Derived.Test.YtiknonljdibfgaaFailR
import Derived.Test.YtiknonljdibfgaaFailIs
import Derived.Test.YtiknonljdibfgaaWays2
import Derived.Test.YtiknonljdibfgaaCloneZ
import Derived.Test.YtiknonljdibfgaaEqs
namespace Go.Proofs.Ytiknonljdibfgaa
open Go.RowKit

/-! ### Failed and Replied, of anything -/
def okI (s : List St) (i : Int) : Bool := decide (0 ≤ i) && decide (i < s.length)
def okN (now : Int) : Bool := decide (0 ≤ now) && decide (now ≤ 4611686018427387903)
def fS (r : Rul) (l : List Vd) (s : List St) (i now : Int) : List St := if mayE r l s = 0 ∧ okI s i = true ∧ okN now = true then stepF r l s i.toNat now else []
def fB (r : Rul) (l : List Vd) (s : List St) (i now : Int) : Bool := if mayE r l s = 0 ∧ okI s i = true ∧ okN now = true then benF r l s i.toNat now else false
def fE (r : Rul) (l : List Vd) (s : List St) (i now : Int) : Int := if mayE r l s = 150 then 150 else if okI s i = false then 4 else if okN now = false then 131 else 0
def pS (r : Rul) (l : List Vd) (s : List St) (i : Int) : List St := if mayE r l s = 0 ∧ okI s i = true then s.set i.toNat ⟨0, 0, (s.getD i.toNat ⟨0, 0, 0⟩).u⟩ else []
def pE (r : Rul) (l : List Vd) (s : List St) (i : Int) : Int := if mayE r l s = 150 then 150 else if okI s i = false then 4 else 0
theorem failedR_step (w : World) (r : Rul) (v1 v2 : Value) (l : List Vd) (s : List St) (i : Nat) (now : Int) (h : SlIn w v1 2 vdL l) (h2 : SlIn w v2 3 stL s) (hN : ∀ x ∈ l, x.name.size ≤ 300) (hm : mayE r l s = 0) (hi : i < s.length) (hn0 : 0 ≤ now) (hn1 : now ≤ 4611686018427387903) (hde : r.de < 9223372036854775808) :
    Calls Try.prog 33 #[ruV r, v1, v2, .int .i64 i, .int .i64 now] w fun e w' => ∃ v : Value, e = .returned (.tuple #[v, .bool (benF r l s i now), .int .i64 0]) ∧ OwnS w' w.heap.size 50 3 stL v (stepF r l s i now) ∧ Below w.heap.size w w' := by
  by_cases hb : isB s (i : Int) now = true
  · have e1 : benF r l s i now = false := if_pos hb
    have e2 : stepF r l s i now = s := if_pos hb
    rw [e1, e2]
    exact failedR_is w r v1 v2 l s i now h h2 hN hm hi hn0 hn1 hb
  · have e1 : benF r l s i now = !stays r (s.getD i ⟨0, 0, 0⟩) now (roomF r l s i now) := if_neg hb
    have e2 : stepF r l s i now = s.set i (nSeat r (s.getD i ⟨0, 0, 0⟩) now (roomF r l s i now)) := if_neg hb
    have hg : s.getD i ⟨0, 0, 0⟩ = s[i] := by simp [List.getD, hi]
    rw [e1, e2, hg]
    exact failedR_any w r v1 v2 l s i now h h2 hN hm hi hn0 hn1 (by simpa using hb) hde
section
variable (w : World) (r : Rul) (v1 v2 : Value) (l : List Vd) (s : List St) (i now : Int) (h : SlIn w v1 2 vdL l) (h2 : SlIn w v2 3 stL s)
include h h2
theorem failedA_all (hde : r.de < 9223372036854775808) : Calls Try.prog 14 #[ruV r, v1, v2, .int .i64 i, .int .i64 now] w fun e w' => ∃ v : Value, e = .returned (.tuple #[v, .bool (fB r l s i now), .int .i64 (fE r l s i now)]) ∧ OwnS w' w.heap.size 50 3 stL v (fS r l s i now) ∧ Below w.heap.size w w' := by
  unfold fB fE fS
  have bad : ∀ {E : Int} {w' : World} {e : Ending}, e = .returned (.tuple #[.slice none 0 0, .bool false, .int .i64 E]) ∧ Below w.heap.size w w' → ∃ v : Value, e = .returned (.tuple #[v, .bool false, .int .i64 E]) ∧ OwnS w' w.heap.size 50 3 stL v [] ∧ Below w.heap.size w w' := fun hh => ⟨_, hh.1, OwnS.nil _ _ _ _ _, hh.2⟩
  rcases mayE_cases r l s with hm | hm
  · cases hi : okI s i with
    | false =>
      rw [if_neg (by simp), if_neg (by rw [hm]; decide), if_pos rfl, if_neg (by simp)]
      exact (failedA_4 w r v1 v2 l s i now h h2 hm (by unfold okI at hi; simp at hi; omega)).mono fun _ _ hh => bad hh
    | true =>
      have hi' : 0 ≤ i ∧ i < s.length := by unfold okI at hi; simpa using hi
      cases hn : okN now with
      | false =>
        rw [if_neg (by simp), if_neg (by rw [hm]; decide), if_neg (by simp), if_pos rfl, if_neg (by simp)]
        exact (failedA_131 w r v1 v2 l s i now h h2 hm hi' (by unfold okN at hn; simp at hn; omega)).mono fun _ _ hh => bad hh
      | true =>
        have hn' : 0 ≤ now ∧ now ≤ 4611686018427387903 := by unfold okN at hn; simpa using hn
        rw [if_pos ⟨hm, rfl, rfl⟩, if_neg (by rw [hm]; decide), if_neg (by simp), if_neg (by simp), if_pos ⟨hm, rfl, rfl⟩]
        obtain ⟨k, rfl⟩ := Int.eq_ofNat_of_zero_le hi'.1
        exact failed_step w r v1 v2 l s k now h h2 hm (by omega) hn'.1 hn'.2 hde
  · rw [if_neg (by rw [hm]; simp), if_pos hm, if_neg (by rw [hm]; simp)]
    exact (failedA_150 w r v1 v2 l s i now h h2 hm).mono fun _ _ hh => bad hh
theorem failedR_all (hN : ∀ x ∈ l, x.name.size ≤ 300) (hde : r.de < 9223372036854775808) : Calls Try.prog 33 #[ruV r, v1, v2, .int .i64 i, .int .i64 now] w fun e w' => ∃ v : Value, e = .returned (.tuple #[v, .bool (fB r l s i now), .int .i64 (fE r l s i now)]) ∧ OwnS w' w.heap.size 50 3 stL v (fS r l s i now) ∧ Below w.heap.size w w' := by
  unfold fB fE fS
  have bad : ∀ {E : Int} {w' : World} {e : Ending}, e = .returned (.tuple #[.slice none 0 0, .bool false, .int .i64 E]) ∧ Below w.heap.size w w' → ∃ v : Value, e = .returned (.tuple #[v, .bool false, .int .i64 E]) ∧ OwnS w' w.heap.size 50 3 stL v [] ∧ Below w.heap.size w w' := fun hh => ⟨_, hh.1, OwnS.nil _ _ _ _ _, hh.2⟩
  rcases mayE_cases r l s with hm | hm
  · cases hi : okI s i with
    | false =>
      rw [if_neg (by simp), if_neg (by rw [hm]; decide), if_pos rfl, if_neg (by simp)]
      exact (failedR_4 w r v1 v2 l s i now h h2 hN hm (by unfold okI at hi; simp at hi; omega)).mono fun _ _ hh => bad hh
    | true =>
      have hi' : 0 ≤ i ∧ i < s.length := by unfold okI at hi; simpa using hi
      cases hn : okN now with
      | false =>
        rw [if_neg (by simp), if_neg (by rw [hm]; decide), if_neg (by simp), if_pos rfl, if_neg (by simp)]
        exact (failedR_131 w r v1 v2 l s i now h h2 hN hm hi' (by unfold okN at hn; simp at hn; omega)).mono fun _ _ hh => bad hh
      | true =>
        have hn' : 0 ≤ now ∧ now ≤ 4611686018427387903 := by unfold okN at hn; simpa using hn
        rw [if_pos ⟨hm, rfl, rfl⟩, if_neg (by rw [hm]; decide), if_neg (by simp), if_neg (by simp), if_pos ⟨hm, rfl, rfl⟩]
        obtain ⟨k, rfl⟩ := Int.eq_ofNat_of_zero_le hi'.1
        exact failedR_step w r v1 v2 l s k now h h2 hN hm (by omega) hn'.1 hn'.2 hde
  · rw [if_neg (by rw [hm]; simp), if_pos hm, if_neg (by rw [hm]; simp)]
    exact (failedR_150 w r v1 v2 l s i now h h2 hN hm).mono fun _ _ hh => bad hh
theorem repliedA_all : Calls Try.prog 13 #[ruV r, v1, v2, .int .i64 i] w fun e w' => ∃ v : Value, e = .returned (.tuple #[v, .int .i64 (pE r l s i)]) ∧ OwnS w' w.heap.size 50 3 stL v (pS r l s i) ∧ Below w.heap.size w w' := by
  unfold pE pS
  have bad : ∀ {E : Int} {w' : World} {e : Ending}, e = .returned (.tuple #[.slice none 0 0, .int .i64 E]) ∧ Below w.heap.size w w' → ∃ v : Value, e = .returned (.tuple #[v, .int .i64 E]) ∧ OwnS w' w.heap.size 50 3 stL v [] ∧ Below w.heap.size w w' := fun hh => ⟨_, hh.1, OwnS.nil _ _ _ _ _, hh.2⟩
  rcases mayE_cases r l s with hm | hm
  · cases hi : okI s i with
    | false =>
      rw [if_neg (by rw [hm]; decide), if_pos rfl, if_neg (by simp)]
      exact (repliedA_4 w r v1 v2 l s i h h2 hm (by unfold okI at hi; simp at hi; omega)).mono fun _ _ hh => bad hh
    | true =>
      have hi' : 0 ≤ i ∧ i < s.length := by unfold okI at hi; simpa using hi
      rw [if_neg (by rw [hm]; decide), if_neg (by simp), if_pos ⟨hm, rfl⟩]
      obtain ⟨k, rfl⟩ := Int.eq_ofNat_of_zero_le hi'.1
      have hk : k < s.length := by omega
      have hg : s.getD k ⟨0, 0, 0⟩ = s[k] := by simp [List.getD, hk]
      rw [Int.toNat_natCast, hg]
      exact replied_any w r v1 v2 l s k h h2 hm hk
  · rw [if_pos hm, if_neg (by rw [hm]; simp)]
    exact (repliedA_150 w r v1 v2 l s i h h2 hm).mono fun _ _ hh => bad hh
theorem repliedR_all (hN : ∀ x ∈ l, x.name.size ≤ 300) : Calls Try.prog 34 #[ruV r, v1, v2, .int .i64 i] w fun e w' => ∃ v : Value, e = .returned (.tuple #[v, .int .i64 (pE r l s i)]) ∧ OwnS w' w.heap.size 50 3 stL v (pS r l s i) ∧ Below w.heap.size w w' := by
  unfold pE pS
  have bad : ∀ {E : Int} {w' : World} {e : Ending}, e = .returned (.tuple #[.slice none 0 0, .int .i64 E]) ∧ Below w.heap.size w w' → ∃ v : Value, e = .returned (.tuple #[v, .int .i64 E]) ∧ OwnS w' w.heap.size 50 3 stL v [] ∧ Below w.heap.size w w' := fun hh => ⟨_, hh.1, OwnS.nil _ _ _ _ _, hh.2⟩
  rcases mayE_cases r l s with hm | hm
  · cases hi : okI s i with
    | false =>
      rw [if_neg (by rw [hm]; decide), if_pos rfl, if_neg (by simp)]
      exact (repliedR_4 w r v1 v2 l s i h h2 hN hm (by unfold okI at hi; simp at hi; omega)).mono fun _ _ hh => bad hh
    | true =>
      have hi' : 0 ≤ i ∧ i < s.length := by unfold okI at hi; simpa using hi
      rw [if_neg (by rw [hm]; decide), if_neg (by simp), if_pos ⟨hm, rfl⟩]
      obtain ⟨k, rfl⟩ := Int.eq_ofNat_of_zero_le hi'.1
      have hk : k < s.length := by omega
      have hg : s.getD k ⟨0, 0, 0⟩ = s[k] := by simp [List.getD, hk]
      rw [Int.toNat_natCast, hg]
      exact repliedR_any w r v1 v2 l s k h h2 hN hm hk
  · rw [if_pos hm, if_neg (by rw [hm]; simp)]
    exact (repliedR_150 w r v1 v2 l s i h h2 hN hm).mono fun _ _ hh => bad hh
end
end Go.Proofs.Ytiknonljdibfgaa
