import Derived.Test.YtkjaabajomigkaaOf
import Derived.Test.YtkjaabajomigkaaEqVt
import Derived.Test.YtkjaabajomigkaaTot
import Derived.Test.YtkjaabajomigkaaMode
namespace Go.Proofs.Ytkjaabajomigkaa
open Go.RowKit

@[go_sem] theorem run_three23 (w : World) : (buildRow 23 3 #[(0, .agg (idL (nameID 2)).toArray), (1, .agg (idL (nameID 1)).toArray), (2, .agg (idL (nameID 2)).toArray)]).run Try.prog w = .ok (.slice (some ⟨w.heap.size, 0, none⟩) 3 3) (w.alloc (.cells ([nameID 2, nameID 1, nameID 2].flatMap idL).toArray 27)) := by kernel_rfl
@[go_sem] theorem run_two22 (w : World) : (buildRow 22 2 #[(0, .agg (vtL ⟨nameID 1, 1⟩).toArray), (1, .agg (vtL ⟨nameID 2, 2⟩).toArray)]).run Try.prog w = .ok (.slice (some ⟨w.heap.size, 0, none⟩) 2 2) (w.alloc (.cells ([(⟨nameID 1, 1⟩ : Vt), ⟨nameID 2, 2⟩].flatMap vtL).toArray 33)) := by kernel_rfl
def liveL : List Vt := [⟨nameID 1, 1⟩, ⟨nameID 2, 2⟩]
theorem live_of : ofV [] [nameID 2, nameID 1, nameID 2] = liveL := by decide
theorem live_tot : totV liveL = 3 := by decide
theorem live_mode : modeV liveL = ⟨nameID 2, 2⟩ := by decide
set_option maxRecDepth 100000 in
set_option maxHeartbeats 2000000 in
/-- flurrylaw07.live -/
theorem live_any (w : World) : Calls Try.prog 9 #[] w fun e w' => e = .returned (.bool true) ∧ Below w.heap.size w w' := by
  have b1 : Below w.heap.size w (((w.alloc (.cells (idL (nameID 1)).toArray 27)).alloc (.cells (idL (nameID 2)).toArray 27)).alloc (.cells (idL (nameID 2) ++ (idL (nameID 1) ++ idL (nameID 2))).toArray 27)) := ((((Below.refl _ w).alloc (Nat.le_refl _) _).alloc (by simp) _).alloc (by simp; omega) _)
  have hz1 : (((w.alloc (.cells (idL (nameID 1)).toArray 27)).alloc (.cells (idL (nameID 2)).toArray 27)).alloc (.cells (idL (nameID 2) ++ (idL (nameID 1) ++ idL (nameID 2))).toArray 27)).heap.size = w.heap.size + 3 := by simp
  have o1 : obj (((w.alloc (.cells (idL (nameID 1)).toArray 27)).alloc (.cells (idL (nameID 2)).toArray 27)).alloc (.cells (idL (nameID 2) ++ (idL (nameID 1) ++ idL (nameID 2))).toArray 27)) w.heap.size = some (.cells (idL (nameID 1)).toArray 27 (0, 0)) := (obj_alloc_past _ _ _ (by simp; omega)).trans ((obj_alloc_past _ _ _ (by simp)).trans (obj_alloc_at _ _ _ rfl))
  have o2 : obj (((w.alloc (.cells (idL (nameID 1)).toArray 27)).alloc (.cells (idL (nameID 2)).toArray 27)).alloc (.cells (idL (nameID 2) ++ (idL (nameID 1) ++ idL (nameID 2))).toArray 27)) (w.heap.size + 1) = some (.cells (idL (nameID 2)).toArray 27 (0, 0)) := (obj_alloc_past _ _ _ (by simp)).trans (obj_alloc_at _ _ _ (by simp))
  have o3 : obj (((w.alloc (.cells (idL (nameID 1)).toArray 27)).alloc (.cells (idL (nameID 2)).toArray 27)).alloc (.cells (idL (nameID 2) ++ (idL (nameID 1) ++ idL (nameID 2))).toArray 27)) (w.heap.size + 1 + 1) = some (.cells (idL (nameID 2) ++ (idL (nameID 1) ++ idL (nameID 2))).toArray 27 (0, 0)) := obj_alloc_at _ _ _ (by simp)
  have hsl := SlIn.of_cells (enc := idL) idL_length [nameID 2, nameID 1, nameID 2] (by simpa using o3) (by simp [maxLen])
  have HOF := Lib.hid (of_any _ _ _ hsl (by decide))
  rw [live_of] at HOF
  have B1 := Lib.hid b1
  have O1 := Lib.hid o1
  have O2 := Lib.hid o2
  clear b1 o1 o2 o3 hsl
  go_enter Try.func9, Try.ntmps9
  go_wp2_with fail
  generalize ((w.alloc (.cells (idL (nameID 1)).toArray 27)).alloc (.cells (idL (nameID 2)).toArray 27)).alloc (.cells (idL (nameID 2) ++ (idL (nameID 1) ++ idL (nameID 2))).toArray 27) = w1 at *
  generalize hB : w.heap.size = B at *
  refine HOF.out.mono ?_
  rintro e w2 ⟨v2, rfl, h2, b2⟩
  have hs2 := h2.slIn vtL_length
  have HMo := Lib.hid (mode_any w2 v2 liveL hs2)
  rw [live_mode] at HMo
  have hz2 := b2.size
  have B2 := Lib.hid (B1.out.trans (b2.mono (by omega)))
  have O12 := Lib.hid ((obj_below b2 (by omega)).trans O1.out)
  have O22 := Lib.hid ((obj_below b2 (by omega)).trans O2.out)
  have HS2 := Lib.hid hs2
  clear h2 b2 hs2 HOF O1 O2
  go_wp2_with fail
  refine HMo.out.mono ?_
  rintro e w3 ⟨rfl, b3⟩
  have hz3 := b3.size
  have B3 := Lib.hid (B2.out.trans (b3.mono (by omega)))
  have O13 := Lib.hid ((obj_below b3 (by omega)).trans O12.out)
  have O23 := Lib.hid ((obj_below b3 (by omega)).trans O22.out)
  have HS3 := Lib.hid (HS2.out.below b3)
  clear b3 HMo O12 O22 HS2
  have O14 := Lib.hid ((obj_alloc_past w3 (.cells (idL (nameID 2)).toArray 27) B (by omega)).trans O13.out)
  have O24 := Lib.hid ((obj_alloc_past w3 (.cells (idL (nameID 2)).toArray 27) (B + 1) (by omega)).trans O23.out)
  have O44 : Hid (obj (w3.alloc (.cells (idL (nameID 2)).toArray 27)) w3.heap.size = some (.cells (idL (nameID 2)).toArray 27 (0, 0))) := Lib.hid (obj_alloc_at _ _ _ rfl)
  have B4 := Lib.hid (B3.out.alloc (by omega) (.cells (idL (nameID 2)).toArray 27))
  have HS4 := Lib.hid (HS3.out.below ((Below.refl _ w3).alloc (Nat.le_refl _) (.cells (idL (nameID 2)).toArray 27)))
  have hz4 : (w3.alloc (.cells (idL (nameID 2)).toArray 27)).heap.size = w3.heap.size + 1 := by simp
  have p1 : subOf (obj (w3.alloc (.cells (idL (nameID 2)).toArray 27)) B) 0 32 = some (idL (nameID 1)).toArray := by rw [O14.out, subOf_cells (by simp), subA_all (by simp)]
  have p2 : subOf (obj (w3.alloc (.cells (idL (nameID 2)).toArray 27)) (B + 1)) 0 32 = some (idL (nameID 2)).toArray := by rw [O24.out, subOf_cells (by simp), subA_all (by simp)]
  have p4 : subOf (obj (w3.alloc (.cells (idL (nameID 2)).toArray 27)) w3.heap.size) 0 32 = some (idL (nameID 2)).toArray := by rw [O44.out, subOf_cells (by simp), subA_all (by simp)]
  go_wp2_with fail
  clear p1 p2 p4
  generalize w3.alloc (.cells (idL (nameID 2)).toArray 27) = w4 at *
  have o5 : obj (w4.alloc (.cells (vtL ⟨nameID 1, 1⟩ ++ vtL ⟨nameID 2, 2⟩).toArray 33)) (w3.heap.size + 1) = some (.cells (vtL ⟨nameID 1, 1⟩ ++ vtL ⟨nameID 2, 2⟩).toArray 33 (0, 0)) := obj_alloc_at _ _ _ (by omega)
  have hb5 : Below w4.heap.size w4 (w4.alloc (.cells (vtL ⟨nameID 1, 1⟩ ++ vtL ⟨nameID 2, 2⟩).toArray 33)) := (Below.refl _ w4).alloc (Nat.le_refl _) _
  have hs5 : SlIn (w4.alloc (.cells (vtL ⟨nameID 1, 1⟩ ++ vtL ⟨nameID 2, 2⟩).toArray 33)) (.slice (some ⟨w3.heap.size + 1, 0, none⟩) 2 2) 33 vtL liveL := SlIn.of_cells (enc := vtL) vtL_length liveL (by simpa [liveL] using o5) (by simp [maxLen, liveL])
  have HEQ := Lib.hid (equal_votes _ _ _ liveL liveL (HS4.out.below hb5) hs5)
  rw [show decide (liveL = liveL) = true from decide_eq_true rfl] at HEQ
  have B5 := Lib.hid (B4.out.trans (hb5.mono (by omega)))
  have O25 := Lib.hid ((obj_below hb5 (by omega)).trans O24.out)
  have O45 := Lib.hid ((obj_below hb5 (by omega)).trans O44.out)
  have HS5 := Lib.hid (HS4.out.below hb5)
  have hz5 := hb5.size
  clear o5 hb5 hs5
  generalize w4.alloc (.cells (vtL ⟨nameID 1, 1⟩ ++ vtL ⟨nameID 2, 2⟩).toArray 33) = w5 at *
  refine HEQ.out.mono ?_
  rintro e w6 ⟨rfl, b6⟩
  have hz6 := b6.size
  have B6 := Lib.hid (B5.out.trans (b6.mono (by omega)))
  have O26 := Lib.hid ((obj_below b6 (by omega)).trans O25.out)
  have O46 := Lib.hid ((obj_below b6 (by omega)).trans O45.out)
  have HTO := Lib.hid (total_any w6 v2 liveL (HS5.out.below b6))
  rw [live_tot] at HTO
  have p2 : subOf (obj w6 (B + 1)) 0 32 = some (idL (nameID 2)).toArray := by rw [O26.out, subOf_cells (by simp), subA_all (by simp)]
  have p4 : subOf (obj w6 w3.heap.size) 0 32 = some (idL (nameID 2)).toArray := by rw [O46.out, subOf_cells (by simp), subA_all (by simp)]
  clear b6
  go_wp2_with fail
  refine HTO.out.mono ?_
  rintro e w7 ⟨rfl, b7⟩
  have B7 := Lib.hid (B6.out.trans (b7.mono (by omega)))
  clear b7
  go_wp2
  go_ret
  exact ⟨rfl, by rw [hB]; exact B7.out⟩
end Go.Proofs.Ytkjaabajomigkaa
