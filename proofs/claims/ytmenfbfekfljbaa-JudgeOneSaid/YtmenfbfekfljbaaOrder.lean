import Derived.Test.YtmenfbfekfljbaaLines
namespace Go.Proofs.Ytmenfbfekfljbaa
open Go.RowKit

/-! ### what is under what: an order -/
theorem under_of_path (xs : List FactD) (a b : ID) {k : Nat} (hk : itF (parM xs) k a = some b) : ∀ (n : Nat) (V : List ID) (c : ID), xs.length + 1 - V.length = n → PathInv (parM xs) a b V c → underM xs a b = true := by
  intro n
  induction n with
  | zero =>
    intro V c h hi
    have := hi.le
    omega
  | succ n ih =>
    intro V c h hi
    have hle := hi.le
    by_cases hcV : c ∈ V
    · have h1 := hi.cycle hcV (k + 1)
      have h2 := (underF_iff (parM xs) b (k + 1) a).2 ⟨k, by omega, hk⟩
      rw [h1] at h2; cases h2
    · by_cases hcb : c = b
      · subst hcb; exact hi.hit (by omega)
      · cases hp : parM xs c with
        | none =>
          have h1 := hi.ends hcb hp (k + 1)
          have h2 := (underF_iff (parM xs) b (k + 1) a).2 ⟨k, by omega, hk⟩
          rw [h1] at h2; cases h2
        | some p => exact ih (V ++ [c]) p (by simp; omega) (hi.step hcV hcb hp)
theorem underM_iff (xs : List FactD) (a b : ID) : underM xs a b = true ↔ ∃ k, itF (parM xs) k a = some b := by
  constructor
  · intro h
    obtain ⟨k, _, hk⟩ := (underF_iff (parM xs) b _ a).1 h
    exact ⟨k, hk⟩
  · rintro ⟨k, hk⟩
    exact under_of_path xs a b hk _ [] a rfl (PathInv.start _ a b)
theorem itF_add (par : ID → Option ID) (a : ID) (j : Nat) : ∀ k, itF par (j + k) a = (itF par j a).bind (itF par k)
  | 0 => by cases itF par j a <;> rfl
  | k + 1 => by
    rw [← Nat.add_assoc, itF, itF_add par a j k]
    cases itF par j a <;> rfl
theorem underM_trans {xs : List FactD} {a b c : ID} (h1 : underM xs a b = true) (h2 : underM xs b c = true) : underM xs a c = true := by
  obtain ⟨j, hj⟩ := (underM_iff xs a b).1 h1
  obtain ⟨k, hk⟩ := (underM_iff xs b c).1 h2
  refine (underM_iff xs a c).2 ⟨j + k, ?_⟩
  rw [itF_add, hj]
  exact hk

set_option maxRecDepth 100000 in
set_option maxHeartbeats 8000000 in
theorem order_any (w : World) (v : Value) (xs : List FactD) (a b c : ID) (h : SlIn w v 72 factL xs) (hw1 : ∀ x ∈ xs, x.slots.len ≤ maxLen ∧ x.votes.len ≤ maxLen) :
    Calls Try.prog 4 #[v, .agg (idL a).toArray, .agg (idL b).toArray, .agg (idL c).toArray] w fun e w' => e = .returned (.bool true) ∧ Below w.heap.size w w' := by
  have HF := Lib.hid fun W (hW : Below w.heap.size w W) => few_zero W v xs (h.below hW) hw1
  have HL := Lib.hid fun (hh : fewB xs PlanD.zero [] = true) => few_len hh
  have HU := Lib.hid fun (hl : xs.length ≤ 1000) (x y : ID) W (hW : Below w.heap.size w W) => judge_under_any W v xs x y (h.below hW) hl
  have HC := Lib.hid fun (hl : xs.length ≤ 1000) (x y : ID) W (hW : Below w.heap.size w W) => judge_conflict_any W v xs x y (h.below hW) hl
  have hT := Lib.hid (underM_trans (xs := xs) (a := a) (b := b) (c := c))
  clear h hw1
  generalize fewB xs PlanD.zero [] = fw at *
  have bw : Below w.heap.size w (((w.alloc (.cells (idL a).toArray 45)).alloc (.cells (idL b).toArray 45)).alloc (.cells (idL c).toArray 45)) := (((Below.refl _ w).alloc (Nat.le_refl _) _).alloc (by simp) _).alloc (by simp; omega) _
  have oa : obj (((w.alloc (.cells (idL a).toArray 45)).alloc (.cells (idL b).toArray 45)).alloc (.cells (idL c).toArray 45)) w.heap.size = some (.cells (idL a).toArray 45 (0, 0)) := by simp [go_sem]
  have ob : obj (((w.alloc (.cells (idL a).toArray 45)).alloc (.cells (idL b).toArray 45)).alloc (.cells (idL c).toArray 45)) (w.heap.size + 1) = some (.cells (idL b).toArray 45 (0, 0)) := by simp [go_sem]
  have oc : obj (((w.alloc (.cells (idL a).toArray 45)).alloc (.cells (idL b).toArray 45)).alloc (.cells (idL c).toArray 45)) (w.heap.size + 1 + 1) = some (.cells (idL c).toArray 45 (0, 0)) := by simp [go_sem]
  go_enter Try.func4, Try.ntmps4
  go_wp2_with fail
  generalize ((w.alloc (.cells (idL a).toArray 45)).alloc (.cells (idL b).toArray 45)).alloc (.cells (idL c).toArray 45) = w0 at *
  have hsz := bw.size
  have za := lt_of_obj oa
  have zb := lt_of_obj ob
  have zc := lt_of_obj oc
  refine (begun_any _).mono ?_
  rintro e w1 ⟨rfl, h1⟩
  go_wp2_with fail
  refine (HF.out _ (bw.trans (h1.mono hsz))).mono ?_
  rintro e w2 ⟨rfl, h2⟩
  replace h2 := h1.trans (h2.mono h1.size)
  clear h1
  cases fw
  · go_wp2_with fail
    refine (begun_any _).mono ?_
    rintro e w3 ⟨rfl, h3⟩
    replace h3 := h2.trans (h3.mono h2.size)
    go_wp2
    go_ret
    exact ⟨rfl, bw.trans (h3.mono hsz)⟩
  · have hl : xs.length ≤ 1000 := by have := HL.out (by first | rfl | trivial); omega
    have U := fun x y W (hW : Below w0.heap.size w0 W) => HU.out hl x y W (bw.trans (hW.mono hsz))
    have C := fun x y W (hW : Below w0.heap.size w0 W) => HC.out hl x y W (bw.trans (hW.mono hsz))
    have Uab := U a b
    have Uba := U b a
    have Uaa := U a a
    have Ubc := U b c
    have Uac := U a c
    have Cab := C a b
    have Cba := C b a
    have Caa := C a a
    rw [underM_self] at Uaa
    rw [conflictR_self] at Caa
    rw [← conflictR_comm] at Cba
    have HQ : Hid (conflictR xs a b = true → underM xs a b = false ∧ underM xs b a = false) := Lib.hid fun h => by
      unfold conflictR at h
      simp only [Bool.and_eq_true, Bool.not_eq_true'] at h
      exact ⟨h.1.2, h.2⟩
    generalize underM xs a b = x at *
    generalize underM xs b a = y at *
    generalize underM xs b c = z at *
    generalize underM xs a c = u at *
    generalize conflictR xs a b = t at *
    have qa := (obj_below h2 za).trans oa
    have qb := (obj_below h2 zb).trans ob
    have qc := (obj_below h2 zc).trans oc
    have ya := lt_of_obj qa
    have yb := lt_of_obj qb
    have yc := lt_of_obj qc
    clear oa ob oc za zb zc U C
    have UL1 := Lib.hid fun u : Later w2 => Calls.later (x := u) (Uab u.w (h2.trans (u.h.mono h2.size)))
    have UL2 := Lib.hid fun u : Later w2 => Calls.later (x := u) (Uba u.w (h2.trans (u.h.mono h2.size)))
    have Uaa' := Lib.hid Uaa
    have Ubc' := Lib.hid Ubc
    have Uac' := Lib.hid Uac
    have Cab' := Lib.hid Cab
    have Cba' := Lib.hid Cba
    have Caa' := Lib.hid Caa
    clear Uab Uba Uaa Ubc Uac Cab Cba Caa
    go_wp2_with fail
    refine wp_region_later w2 (Below.refl _ _) (by kernel_rfl) (by kernel_rfl) ?_
    repeat (go_big_quiet_step (first | (go_at_call 17; with_reducible exact UL1.out _) | (go_at_call 17; with_reducible exact UL2.out _)))
    refine wpQuiet_nil ?_
    rintro _ ⟨u3, rfl⟩
    have h3 := h2.trans (u3.h.mono h2.size)
    have ra := (obj_below u3.h ya).trans qa
    have rb := (obj_below u3.h yb).trans qb
    have rc := (obj_below u3.h yc).trans qc
    generalize u3.w = w3 at *
    clear h2 qa qb qc ya yb yc UL1 UL2
    have ya := lt_of_obj ra
    have yb := lt_of_obj rb
    have yc := lt_of_obj rc
    go_wp2_with fail
    refine (Uaa'.out _ h3).mono ?_
    rintro e w4 ⟨rfl, h4⟩
    have qa := (obj_below h4 ya).trans ra
    have qb := (obj_below h4 yb).trans rb
    have qc := (obj_below h4 yc).trans rc
    replace h4 := h3.trans (h4.mono h3.size)
    clear h3 ra rb rc ya yb yc
    have ya := lt_of_obj qa
    have yb := lt_of_obj qb
    have yc := lt_of_obj qc
    cases x
    · cases t
      · cases y
        · go_wp2_with fail
          refine (Cab'.out _ h4).mono ?_
          rintro e w5 ⟨rfl, h5⟩
          have ra := (obj_below h5 ya).trans qa
          have rb := (obj_below h5 yb).trans qb
          replace h5 := h4.trans (h5.mono h4.size)
          have za := lt_of_obj ra
          have zb := lt_of_obj rb
          go_wp2_with fail
          refine (Cba'.out _ h5).mono ?_
          rintro e w6 ⟨rfl, h6⟩
          have sa := (obj_below h6 za).trans ra
          have ua := lt_of_obj sa
          replace h6 := h5.trans (h6.mono h5.size)
          go_wp2_with fail
          refine (Caa'.out _ h6).mono ?_
          rintro e w7 ⟨rfl, h7⟩
          replace h7 := h6.trans (h7.mono h6.size)
          go_wp2
          go_ret
          exact ⟨rfl, bw.trans (h7.mono hsz)⟩
        · go_wp2_with fail
          refine (Cab'.out _ h4).mono ?_
          rintro e w5 ⟨rfl, h5⟩
          have ra := (obj_below h5 ya).trans qa
          have rb := (obj_below h5 yb).trans qb
          replace h5 := h4.trans (h5.mono h4.size)
          have za := lt_of_obj ra
          have zb := lt_of_obj rb
          go_wp2_with fail
          refine (Cba'.out _ h5).mono ?_
          rintro e w6 ⟨rfl, h6⟩
          have sa := (obj_below h6 za).trans ra
          have ua := lt_of_obj sa
          replace h6 := h5.trans (h6.mono h5.size)
          go_wp2_with fail
          refine (Caa'.out _ h6).mono ?_
          rintro e w7 ⟨rfl, h7⟩
          replace h7 := h6.trans (h7.mono h6.size)
          go_wp2
          go_ret
          exact ⟨rfl, bw.trans (h7.mono hsz)⟩
      · obtain ⟨_, rfl⟩ := HQ.out (by first | rfl | trivial)
        go_wp2_with fail
        refine (Cab'.out _ h4).mono ?_
        rintro e w5 ⟨rfl, h5⟩
        have ra := (obj_below h5 ya).trans qa
        have rb := (obj_below h5 yb).trans qb
        replace h5 := h4.trans (h5.mono h4.size)
        have za := lt_of_obj ra
        have zb := lt_of_obj rb
        go_wp2_with fail
        refine (Cba'.out _ h5).mono ?_
        rintro e w6 ⟨rfl, h6⟩
        have sa := (obj_below h6 za).trans ra
        have ua := lt_of_obj sa
        replace h6 := h5.trans (h6.mono h5.size)
        go_wp2_with fail
        refine (Caa'.out _ h6).mono ?_
        rintro e w7 ⟨rfl, h7⟩
        replace h7 := h6.trans (h7.mono h6.size)
        go_wp2
        go_ret
        exact ⟨rfl, bw.trans (h7.mono hsz)⟩
    · go_wp2_with fail
      refine (Ubc'.out _ h4).mono ?_
      rintro e w41 ⟨rfl, h41⟩
      have pa := (obj_below h41 ya).trans qa
      have pb := (obj_below h41 yb).trans qb
      have pc := (obj_below h41 yc).trans qc
      replace h41 := h4.trans (h41.mono h4.size)
      have va := lt_of_obj pa
      have vb := lt_of_obj pb
      have vc := lt_of_obj pc
      clear qa qb qc ya yb yc
      cases z
      · have ht : t = false := by cases t; rfl; exact absurd (HQ.out (by first | rfl | trivial)).1 (by simp)
        subst ht
        cases y
        · go_wp2_with fail
          refine (Cab'.out _ h41).mono ?_
          rintro e w5 ⟨rfl, h5⟩
          have ra := (obj_below h5 va).trans pa
          have rb := (obj_below h5 vb).trans pb
          replace h5 := h41.trans (h5.mono h41.size)
          have za := lt_of_obj ra
          have zb := lt_of_obj rb
          go_wp2_with fail
          refine (Cba'.out _ h5).mono ?_
          rintro e w6 ⟨rfl, h6⟩
          have sa := (obj_below h6 za).trans ra
          have ua := lt_of_obj sa
          replace h6 := h5.trans (h6.mono h5.size)
          go_wp2_with fail
          refine (Caa'.out _ h6).mono ?_
          rintro e w7 ⟨rfl, h7⟩
          replace h7 := h6.trans (h7.mono h6.size)
          go_wp2
          go_ret
          exact ⟨rfl, bw.trans (h7.mono hsz)⟩
        · go_wp2_with fail
          refine (Cab'.out _ h41).mono ?_
          rintro e w5 ⟨rfl, h5⟩
          have ra := (obj_below h5 va).trans pa
          have rb := (obj_below h5 vb).trans pb
          replace h5 := h41.trans (h5.mono h41.size)
          have za := lt_of_obj ra
          have zb := lt_of_obj rb
          go_wp2_with fail
          refine (Cba'.out _ h5).mono ?_
          rintro e w6 ⟨rfl, h6⟩
          have sa := (obj_below h6 za).trans ra
          have ua := lt_of_obj sa
          replace h6 := h5.trans (h6.mono h5.size)
          go_wp2_with fail
          refine (Caa'.out _ h6).mono ?_
          rintro e w7 ⟨rfl, h7⟩
          replace h7 := h6.trans (h7.mono h6.size)
          go_wp2
          go_ret
          exact ⟨rfl, bw.trans (h7.mono hsz)⟩
      · have hu : u = true := hT.out (by first | rfl | trivial) (by first | rfl | trivial)
        subst hu
        go_wp2_with fail
        refine (Uac'.out _ h41).mono ?_
        rintro e w42 ⟨rfl, h42⟩
        have qa := (obj_below h42 va).trans pa
        have qb := (obj_below h42 vb).trans pb
        replace h42 := h41.trans (h42.mono h41.size)
        have ya := lt_of_obj qa
        have yb := lt_of_obj qb
        clear pa pb pc va vb vc
        have ht : t = false := by cases t; rfl; exact absurd (HQ.out (by first | rfl | trivial)).1 (by simp)
        subst ht
        cases y
        · go_wp2_with fail
          refine (Cab'.out _ h42).mono ?_
          rintro e w5 ⟨rfl, h5⟩
          have ra := (obj_below h5 ya).trans qa
          have rb := (obj_below h5 yb).trans qb
          replace h5 := h42.trans (h5.mono h42.size)
          have za := lt_of_obj ra
          have zb := lt_of_obj rb
          go_wp2_with fail
          refine (Cba'.out _ h5).mono ?_
          rintro e w6 ⟨rfl, h6⟩
          have sa := (obj_below h6 za).trans ra
          have ua := lt_of_obj sa
          replace h6 := h5.trans (h6.mono h5.size)
          go_wp2_with fail
          refine (Caa'.out _ h6).mono ?_
          rintro e w7 ⟨rfl, h7⟩
          replace h7 := h6.trans (h7.mono h6.size)
          go_wp2
          go_ret
          exact ⟨rfl, bw.trans (h7.mono hsz)⟩
        · go_wp2_with fail
          refine (Cab'.out _ h42).mono ?_
          rintro e w5 ⟨rfl, h5⟩
          have ra := (obj_below h5 ya).trans qa
          have rb := (obj_below h5 yb).trans qb
          replace h5 := h42.trans (h5.mono h42.size)
          have za := lt_of_obj ra
          have zb := lt_of_obj rb
          go_wp2_with fail
          refine (Cba'.out _ h5).mono ?_
          rintro e w6 ⟨rfl, h6⟩
          have sa := (obj_below h6 za).trans ra
          have ua := lt_of_obj sa
          replace h6 := h5.trans (h6.mono h5.size)
          go_wp2_with fail
          refine (Caa'.out _ h6).mono ?_
          rintro e w7 ⟨rfl, h7⟩
          replace h7 := h6.trans (h7.mono h6.size)
          go_wp2
          go_ret
          exact ⟨rfl, bw.trans (h7.mono hsz)⟩
end Go.Proofs.Ytmenfbfekfljbaa
