import Derived.Test.YtggpmepiggnnnaaActs
namespace Go.Proofs.Ytggpmepiggnnnaa
open Go.RowKit

def dropE (W : List Al) (k : Int) : Int := if hasK W k = true then 0 else 4
def dropW (W : List Al) (k : Int) : List Al := if hasK W k = true then W.erase (getK W k) else W
set_option maxRecDepth 100000 in
set_option maxHeartbeats 1000000 in
theorem drop_hp (w : World) (F : Nat → Prop) (hb : Nat) (W : List Al) (k : Int) (h : Hp w F hb W) :
    Calls Try.prog 25 #[.pointer (some ⟨hb, 0, none⟩), .int .i64 k] w fun e w' => e = .returned (.int .i64 (dropE W k)) ∧ Hp w' F hb (dropW W k) ∧ Keeps F w w' := by
  obtain ⟨m, sv, L, M, h1, h2, h3, h4⟩ := h.ex
  have HNO := Lib.hid h1.none
  have c1 : w.cell? ⟨hb, 1, none⟩ = some (.map (some m)) := cell_at h1.box 1
  have hl := run_lookup_int (P := Try.prog) (w := w) (m := m) (enc := intV) Try.underlying66 Try.underlying2 zero3' h1.map k
  have hkp := hasK_perm h4 k
  have hlen := h.len
  have hll := h4.length_eq
  rcases h2.place k with ⟨p1, p2⟩ | ⟨j, hj, p1, p2, p3⟩
  · have HE : Hid (dropE W k = 4) := Lib.hid (by unfold dropE; rw [← hkp, p1]; rfl)
    have HW : Hid (dropW W k = W) := Lib.hid (by unfold dropW; rw [← hkp, p1]; rfl)
    rw [p2] at hl
    have HH := Lib.hid h
    clear h h1 h2 h3 h4 hkp p1 p2
    go_enter Try.func25, Try.ntmps25
    go_wp2_with fail
    refine HNO.out.mono ?_
    rintro e w1 ⟨rfl, rfl⟩
    go_wp2
    go_ret
    exact ⟨ret_int HE.out.symm, by rw [HW.out]; exact HH.out, Keeps.refl _ _⟩
  · have HE : Hid (dropE W k = 0) := Lib.hid (by unfold dropE; rw [← hkp, p3]; rfl)
    have hnd := h2.keys
    have HW : Hid (dropW W k = W.erase (at' L j)) := Lib.hid (by unfold dropW; rw [← hkp, p3, if_pos rfl, ← p1, getK_perm h4 hnd hj])
    rw [p2] at hl
    have HT := Lib.hid (take_any w F hb m sv L M j h1 h2 hj (by omega))
    have HP := Lib.hid (takeOut_rep hj h4)
    have HHP := Lib.hid (takeOut_heap hj h3)
    have HS := Lib.hid (sorted_erase h.sorted (at' L j))
    have HLN : Hid ((W.erase (at' L j)).length ≤ 4096) := Lib.hid (Nat.le_trans List.length_erase_le hlen)
    simp only [intV] at hl
    clear h h1 h2 h3 h4 hkp p1 p2 p3 hnd
    go_enter Try.func25, Try.ntmps25
    go_wp2_with fail
    refine HNO.out.mono ?_
    rintro e w1 ⟨rfl, rfl⟩
    go_wp2_with fail
    refine HT.out.mono ?_
    rintro e w2 ⟨rfl, ⟨sv', M', r1, r2⟩, k2⟩
    have R1 := Lib.hid r1
    have R2 := Lib.hid r2
    have K2 := Lib.hid k2
    clear r1 r2 k2
    go_wp2
    go_ret
    exact ⟨ret_int HE.out.symm, by rw [HW.out]; exact ⟨⟨m, sv', _, M', R1.out, R2.out, HHP.out, HP.out⟩, HS.out, HLN.out⟩, K2.out⟩
def atT (W : List Al) (k : Int) : Int := if hasK W k = true then (getK W k).1 else 0
set_option maxRecDepth 100000 in
set_option maxHeartbeats 1000000 in
theorem at_hp (w : World) (F : Nat → Prop) (hb : Nat) (W : List Al) (k : Int) (h : Hp w F hb W) :
    Calls Try.prog 26 #[.pointer (some ⟨hb, 0, none⟩), .int .i64 k] w fun e w' => e = .returned (.tuple #[.int .i64 (atT W k), .int .i64 (dropE W k)]) ∧ w = w' := by
  obtain ⟨m, sv, L, M, h1, h2, h3, h4⟩ := h.ex
  have HNO := Lib.hid h1.none
  have c0 : w.cell? ⟨hb, 0, none⟩ = some sv := cell_at h1.box 0
  have c1 : w.cell? ⟨hb, 1, none⟩ = some (.map (some m)) := cell_at h1.box 1
  have hl := run_lookup_int (P := Try.prog) (w := w) (m := m) (enc := intV) Try.underlying66 Try.underlying2 zero3' h1.map k
  have hkp := hasK_perm h4 k
  rcases h2.place k with ⟨p1, p2⟩ | ⟨j, hj, p1, p2, p3⟩
  · have HE : Hid (dropE W k = 4) := Lib.hid (by unfold dropE; rw [← hkp, p1]; rfl)
    have HW : Hid (atT W k = 0) := Lib.hid (by unfold atT; rw [← hkp, p1]; rfl)
    rw [p2] at hl
    clear h h1 h2 h3 h4 hkp p1 p2
    go_enter Try.func26, Try.ntmps26
    go_wp2_with fail
    refine HNO.out.mono ?_
    rintro e w1 ⟨rfl, rfl⟩
    go_wp2
    go_ret2
    exact ⟨by rw [HE.out, HW.out]; rfl, rfl⟩
  · have HE : Hid (dropE W k = 0) := Lib.hid (by unfold dropE; rw [← hkp, p3]; rfl)
    have hnd := h2.keys
    have HW : Hid (atT W k = (at' L j).1) := Lib.hid (by unfold atT; rw [← hkp, p3, if_pos rfl, ← p1, getK_perm h4 hnd hj])
    rw [p2] at hl
    simp only [intV] at hl
    obtain ⟨oa, cap, rfl, q1, q2, q3⟩ := row_sub h1.row
    obtain ⟨g, cur, rfl, _, _, hg, hcs, htk⟩ := q3 (by omega)
    unfold maxLen at q2
    have s1 := row_get htk hcs q1 hj
    rw [← hg] at s1
    have cj := subOf_cell s1 (j := 0) (by decide)
    rw [at'_eq hj] at HW
    simp only [Nat.add_zero] at cj
    have cj' : w.cell? ⟨g, j * 2, none⟩ = some (.int .i64 (L[j].1)) := cj
    generalize L[j].1 = x1 at *
    clear h h1 h2 h3 h4 hkp p1 p2 p3 hnd q3 hg hcs htk s1 cj
    go_enter Try.func26, Try.ntmps26
    go_wp2_with fail
    refine HNO.out.mono ?_
    rintro e w1 ⟨rfl, rfl⟩
    go_wp2
    go_ret2
    exact ⟨by rw [HE.out, HW.out]; rfl, rfl⟩
def moveE (W : List Al) (t k : Int) : Int := if mayB t = false then 1 else if hasK W k = true then 0 else 4
def moveW (W : List Al) (t k : Int) : List Al := if mayB t = true ∧ hasK W k = true then insL (t, k) (W.erase (getK W k)) else W
set_option maxRecDepth 100000 in
set_option maxHeartbeats 1000000 in
theorem move_hp (w : World) (F : Nat → Prop) (hb : Nat) (W : List Al) (t k : Int) (h : Hp w F hb W) :
    Calls Try.prog 24 #[.pointer (some ⟨hb, 0, none⟩), .int .i64 t, .int .i64 k] w fun e w' => e = .returned (.int .i64 (moveE W t k)) ∧ Hp w' F hb (moveW W t k) ∧ Keeps F w w' := by
  obtain ⟨m, sv, L, M, h1, h2, h3, h4⟩ := h.ex
  have HNO := Lib.hid h1.none
  have HM := Lib.hid (may_any w t)
  have c0 : w.cell? ⟨hb, 0, none⟩ = some sv := cell_at h1.box 0
  have c1 : w.cell? ⟨hb, 1, none⟩ = some (.map (some m)) := cell_at h1.box 1
  have hl := run_lookup_int (P := Try.prog) (w := w) (m := m) (enc := intV) Try.underlying66 Try.underlying2 zero3' h1.map k
  have hkp := hasK_perm h4 k
  have hlen := h.len
  have hll := h4.length_eq
  by_cases hmf : mayB t = false
  · have hmb : ¬ mayB t = true := by rw [hmf]; simp
    have HE : Hid (moveE W t k = 1) := Lib.hid (if_pos hmf)
    have HW : Hid (moveW W t k = W) := Lib.hid (if_neg (fun hh => hmb hh.1))
    rw [hmf] at HM
    have HH := Lib.hid h
    clear h h1 h2 h3 h4 hkp hmb hmf hl
    go_enter Try.func24, Try.ntmps24
    go_wp2_with fail
    refine HNO.out.mono ?_
    rintro e w1 ⟨rfl, rfl⟩
    go_wp2_with fail
    refine HM.out.mono ?_
    rintro e w1 ⟨rfl, rfl⟩
    go_wp2
    go_ret
    exact ⟨ret_int HE.out.symm, by rw [HW.out]; exact HH.out, Keeps.refl _ _⟩
  have hmb : mayB t = true := by simpa using hmf
  clear hmf
  rw [hmb] at HM
  rcases h2.place k with ⟨p1, p2⟩ | ⟨j, hj, p1, p2, p3⟩
  · have HE : Hid (moveE W t k = 4) := Lib.hid (by unfold moveE; rw [hmb, ← hkp, p1]; rfl)
    have HW : Hid (moveW W t k = W) := Lib.hid (by unfold moveW; rw [← hkp, p1, if_neg (fun hh => by cases hh.2)])
    rw [p2] at hl
    have HH := Lib.hid h
    clear h h1 h2 h3 h4 hkp hmb p1 p2
    go_enter Try.func24, Try.ntmps24
    go_wp2_with fail
    refine HNO.out.mono ?_
    rintro e w1 ⟨rfl, rfl⟩
    go_wp2_with fail
    refine HM.out.mono ?_
    rintro e w1 ⟨rfl, rfl⟩
    go_wp2
    go_ret
    exact ⟨ret_int HE.out.symm, by rw [HW.out]; exact HH.out, Keeps.refl _ _⟩
  · have HE : Hid (moveE W t k = 0) := Lib.hid (by unfold moveE; rw [hmb, ← hkp, p3]; rfl)
    have hnd := h2.keys
    have hgk : getK W k = at' L j := by rw [← p1, getK_perm h4 hnd hj]
    have HW : Hid (moveW W t k = insL (t, k) (W.erase (at' L j))) := Lib.hid (by unfold moveW; rw [← hkp, p3, if_pos ⟨hmb, rfl⟩, hgk])
    rw [p2] at hl
    simp only [intV] at hl
    have hjW : at' L j ∈ W := h4.mem_iff.1 (at'_mem hj)
    have hpm : (settle (L.set j (t, k)) j).Perm (insL (t, k) (W.erase (at' L j))) := by
      refine (settle_perm (by simpa using hj)).trans ?_
      refine List.Perm.trans ?_ (insL_perm _ _).symm
      have h5 := (set_perm (a := (t, k)) hj).trans (h4.cons (t, k))
      rw [← at'_eq hj] at h5
      have h6 : (at' L j :: (t, k) :: W.erase (at' L j)).Perm ((t, k) :: W) := (List.Perm.swap _ _ _).trans ((List.perm_cons_erase hjW).symm.cons _)
      exact (h5.trans h6.symm).cons_inv
    have hns : (t, k) ∉ W.erase (at' L j) := fun hm => by
      have hnW := keys_perm h4 hnd
      have hnd2 := sorted_nodup h.sorted
      have h7 := (hnd2.mem_erase_iff).1 hm
      have h8 := getK_of_mem hnW h7.2
      simp only at h8
      rw [hgk] at h8
      exact h7.1 h8.symm
    have HP := Lib.hid hpm
    have HSO := Lib.hid (insL_sorted (sorted_erase h.sorted (at' L j)) hns)
    have HLN : Hid ((insL (t, k) (W.erase (at' L j))).length ≤ 4096) := Lib.hid (by rw [insL_length, List.length_erase_of_mem hjW]; omega)
    obtain ⟨oa, cap, rfl, q1, q2, q3⟩ := row_sub h1.row
    obtain ⟨g, cur, rfl, _, _, hg, hcs, htk⟩ := q3 (by omega)
    have HR := Lib.hid (rawAt_setAt h1 hj t)
    have HSP := Lib.hid (h2.set hj t)
    rw [p1] at HR HSP
    have HBH := Lib.hid (settle_heap (by simpa using hj) (butHeap_set h3 hj (t, k)))
    have hF : F g := h1.fr g rfl
    have HK : Hid (Keeps F w (w.setCell ⟨g, j * 2, none⟩ (.int .i64 t))) := Lib.hid ((Keeps.refl F w).setCell (a := ⟨g, j * 2, none⟩) (.inl hF) _)
    have s1 := row_get htk hcs q1 hj
    rw [← hg] at s1
    have cj := subOf_cell s1 (j := 0) (by decide)
    simp only [Nat.add_zero] at cj
    have cj' : w.cell? ⟨g, j * 2, none⟩ = some (.int .i64 (L[j].1)) := cj
    have fz := frozen_at hg
    have hls : (L.set j (t, k)).length = L.length := List.length_set
    rw [← hls] at HR
    have HST := Lib.hid (settle_any _ F hb m _ _ M j HR.out HSP.out (by simpa using hj) (by rw [hls]; omega))
    unfold maxLen at q2
    rw [hls] at HST HR
    generalize L[j].1 = x1 at *
    clear h h1 h2 h3 h4 hkp p1 p2 p3 hnd q3 hg hcs htk s1 cj hmb hgk hjW hpm hns hls
    go_enter Try.func24, Try.ntmps24
    go_wp2_with fail
    refine HNO.out.mono ?_
    rintro e w1 ⟨rfl, rfl⟩
    go_wp2_with fail
    refine HM.out.mono ?_
    rintro e w1 ⟨rfl, rfl⟩
    go_wp2_with fail
    refine HST.out.mono ?_
    rintro e w2 ⟨⟨v2, rfl⟩, ⟨M', r1, r2⟩, k2⟩
    have R1 := Lib.hid r1
    have R2 := Lib.hid r2
    have K2 := Lib.hid (HK.out.trans k2)
    clear r1 r2 k2
    go_wp2
    go_ret
    exact ⟨ret_int HE.out.symm, by rw [HW.out]; exact ⟨⟨m, _, _, M', R1.out, R2.out, HBH.out, HP.out⟩, HSO.out, HLN.out⟩, K2.out⟩
end Go.Proofs.Ytggpmepiggnnnaa
