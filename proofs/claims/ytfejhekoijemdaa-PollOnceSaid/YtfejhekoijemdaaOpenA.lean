import Derived.Test.YtfejhekoijemdaaVoteF
namespace Go.Proofs.Ytfejhekoijemdaa
open Go.RowKit

def wrongB (v : Int) : Bool := decide (v < 0) || decide (32 ≤ v)
def idxW : List Int → Int → Int
  | [], _ => -1
  | v :: r, k => if wrongB v = true then k else idxW r (k + 1)
theorem idxW_any : ∀ (l : List Int) (k : Int), 0 ≤ k → decide (0 ≤ idxW l k) = l.any wrongB
  | [], k, _ => by simp [idxW]
  | v :: r, k, hk => by
    unfold idxW
    cases h : wrongB v
    · simp [h, idxW_any r (k + 1) (by omega)]
    · simp [h, hk]
theorem eg30 : ∀ args w, (callFunc 30 args).run Try.prog w = .ok (.enter 30 args) w := enters_of Try.func30 (by kernel_rfl) rfl
set_option maxRecDepth 100000 in
theorem wrong_any (w : World) (v : Int) : Calls Try.prog 30 #[.int .i64 v] w fun e w' => e = .returned (.bool (wrongB v)) ∧ w' = w := by
  have HB : Hid (wrongB v = (decide (v < 0) || decide (32 ≤ v))) := Lib.hid rfl
  by_cases h1 : v < 0
  · have d1 : decide (v < 0) = true := by simpa using h1
    rw [d1, Bool.true_or] at HB
    go_enter Try.func30, Try.ntmps30
    go_wp2
    go_ret
    exact ⟨ret_bool HB.out.symm, rfl⟩
  · have d1 : decide (v < 0) = false := by simpa using h1
    rw [d1, Bool.false_or] at HB
    go_enter Try.func30, Try.ntmps30
    go_wp2
    go_ret
    exact ⟨ret_bool HB.out.symm, rfl⟩
set_option maxRecDepth 100000 in
set_option maxHeartbeats 1000000 in
theorem index_wrong (w : World) (sv : Value) (xs : List Int) (h : SlIn w sv 1 intL xs) :
    Calls Try.prog 49 #[sv, .func (.func 30) #[] #[]] w fun e w' => e = .returned (.int .i64 (idxW xs 0)) ∧ w' = w := by
  obtain ⟨oa, cap, rfl, h1, h2, h3⟩ := h
  have H3 := Lib.hid h3
  unfold maxLen at h2
  have eg := eg30
  clear h3
  go_enter Try.func49, Try.ntmps49
  go_wp2
  go_loopw [5, 8] (fun _ v8 wr => ∃ k : Nat, k ≤ xs.length ∧ v8 = .int .i64 k ∧ Hid (idxW xs 0 = idxW (xs.drop k) k) ∧ wr = w) (fun _ i _ => xs.length - (intOf i).toNat)
  case atStart => exact ⟨0, Nat.zero_le _, rfl, Lib.hid rfl, rfl⟩
  case round =>
    obtain ⟨k, hk, rfl, HK, hwr⟩ := hrel
    subst hwr
    by_cases hlt : k < xs.length
    · obtain ⟨bb, off, hoa, hbb, hrow⟩ := H3.out (by omega)
      subst hoa
      have hs1 := hrow k hlt
      have c1 : wr.cell? ⟨bb, off + k * 1, none⟩ = some (.int .i64 xs[k]) := by
        have := subOf_cell hs1 (j := 0) (by decide)
        simpa [intL] using this
      rw [Nat.mul_one] at c1
      have HC := Lib.hid (wrong_any wr xs[k])
      have HK2 := HK.out
      rw [List.drop_eq_getElem_cons hlt] at HK2
      have NX : Hid (idxW xs 0 = if wrongB xs[k] = true then (k : Int) else idxW (xs.drop (k + 1)) ((k : Int) + 1)) := Lib.hid HK2
      clear hrow hs1 HK2
      generalize xs[k] = x at *
      generalize wrongB x = r at *
      cases r
      · go_wp2_with (go_at_fn 30; refine HC.out.mono ?_; rintro e w' ⟨rfl, rfl⟩)
        go_roundw
        case rel => exact ⟨k + 1, by omega, by go_num, Lib.hid (by rw [NX.out]; simp), by first | rfl | trivial⟩
        case measure => simp [intOf]; omega
      · go_wp2_with (go_at_fn 30; refine HC.out.mono ?_; rintro e w' ⟨rfl, rfl⟩)
        go_ret
        exact ⟨ret_int (by rw [NX.out]; simp), rfl⟩
    · have NO : Hid (idxW xs 0 = -1) := Lib.hid (by rw [HK.out, List.drop_eq_nil_of_le (by omega)]; rfl)
      go_wp2
      go_ret
      exact ⟨ret_int NO.out.symm, rfl⟩
set_option maxRecDepth 100000 in
theorem contains_wrong (w : World) (sv : Value) (xs : List Int) (h : SlIn w sv 1 intL xs) :
    Calls Try.prog 32 #[sv, .func (.func 30) #[] #[]] w fun e w' => e = .returned (.bool (xs.any wrongB)) ∧ w' = w := by
  have HI := Lib.hid (index_wrong w sv xs h)
  have HE := Lib.hid (idxW_any xs 0 (Int.le_refl _))
  clear h
  generalize idxW xs 0 = r at *
  go_enter Try.func32, Try.ntmps32
  go_wp2_with fail
  refine HI.out.mono ?_
  rintro e w1 ⟨rfl, rfl⟩
  go_wp2
  go_ret
  exact ⟨ret_bool HE.out, rfl⟩
end Go.Proofs.Ytfejhekoijemdaa
