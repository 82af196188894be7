import Derived.Test.YtkjaabajomigkaaEqVt
namespace Go.Proofs.Ytkjaabajomigkaa
open Go.RowKit

set_option maxRecDepth 100000 in
/-- bag.Same -/
theorem same_any (w : World) (v1 v2 : Value) (xs ys : List Vt) (h : SlIn w v1 33 vtL xs) (h' : SlIn w v2 33 vtL ys) :
    Calls Try.prog 15 #[v1, v2] w fun e w' => e = .returned (.bool (decide (xs = ys))) ∧ Below w.heap.size w w' := by
  have HE := Lib.hid (equal_votes w v1 v2 xs ys h h')
  clear h h'
  generalize decide (xs = ys) = t at *
  go_enter Try.func15, Try.ntmps15
  go_wp2_with fail
  refine HE.out.mono ?_
  rintro e w1 ⟨rfl, b1⟩
  have B1 := Lib.hid b1
  clear b1
  go_wp2
  go_ret
  exact ⟨rfl, B1.out⟩
set_option maxRecDepth 100000 in
/-- few, of two bags in a row of slices -/
theorem few_any (w : World) (b : Nat) (v1 v2 : Value) (xs ys : List Vt) (h : SlIn w v1 33 vtL xs) (h' : SlIn w v2 33 vtL ys) (T : TypeId) (fr : Nat × Nat) (ho : obj w b = some (.cells #[v1, v2] T fr)) :
    Calls Try.prog 10 #[.slice (some ⟨b, 0, none⟩) 2 2] w fun e w' => e = .returned (.bool (decide (xs.length ≤ 60 ∧ ys.length ≤ 60))) ∧ Below w.heap.size w w' := by
  obtain ⟨oa, cap, rfl, g1, g2, g3⟩ := h
  obtain ⟨oa', cap', rfl, g1', g2', g3'⟩ := h'
  clear g3 g3'
  have c0 := cell_at ho 0
  have c1 := cell_at ho 1
  have hb := lt_of_obj ho
  simp at c0 c1
  clear ho
  go_enter Try.func10, Try.ntmps10
  go_wp2
  go_loopw [4, 7] (fun _ v7 wr => ∃ k : Nat, k ≤ 2 ∧ v7 = .int .i64 k ∧ Hid ((0 < k → xs.length ≤ 60) ∧ (1 < k → ys.length ≤ 60)) ∧ wr = w) (fun _ i _ => 2 - (intOf i).toNat)
  case atStart => exact ⟨0, by omega, rfl, Lib.hid ⟨by omega, by omega⟩, rfl⟩
  case round =>
    obtain ⟨k, hk, rfl, HK, rfl⟩ := hrel
    have hks : k = 0 ∨ k = 1 ∨ k = 2 := by omega
    rcases hks with rfl | rfl | rfl
    · by_cases hx : xs.length ≤ 60
      · have d : decide (60 < (xs.length : Int)) = false := by simp; omega
        have HX := Lib.hid hx
        clear hx
        go_wp2
        go_roundw
        case rel => exact ⟨1, by omega, by simp, Lib.hid ⟨fun _ => HX.out, by omega⟩, by simp⟩
        case measure => simp [intOf]
      · have d : decide (60 < (xs.length : Int)) = true := by simp; omega
        have HX : Hid (¬ (xs.length ≤ 60 ∧ ys.length ≤ 60)) := Lib.hid (fun h => hx h.1)
        clear hx
        go_wp2
        go_ret
        exact ⟨ret_bool (by simpa using HX.out), Below.refl _ _⟩
    · by_cases hy : ys.length ≤ 60
      · have d : decide (60 < (ys.length : Int)) = false := by simp; omega
        have HY := Lib.hid hy
        clear hy
        go_wp2
        go_roundw
        case rel => exact ⟨2, by omega, by simp, Lib.hid ⟨fun _ => HK.out.1 (by omega), fun _ => HY.out⟩, by simp⟩
        case measure => simp [intOf]
      · have d : decide (60 < (ys.length : Int)) = true := by simp; omega
        have HX : Hid (¬ (xs.length ≤ 60 ∧ ys.length ≤ 60)) := Lib.hid (fun h => hy h.2)
        clear hy
        go_wp2
        go_ret
        exact ⟨ret_bool (by simpa using HX.out), Below.refl _ _⟩
    · have HX : Hid (xs.length ≤ 60 ∧ ys.length ≤ 60) := Lib.hid ⟨HK.out.1 (by omega), HK.out.2 (by omega)⟩
      go_wp2
      go_ret
      exact ⟨ret_bool (by simpa using HX.out), Below.refl _ _⟩
end Go.Proofs.Ytkjaabajomigkaa
