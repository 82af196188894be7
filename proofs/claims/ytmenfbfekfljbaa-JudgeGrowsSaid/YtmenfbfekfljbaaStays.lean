import Derived.Test.YtmenfbfekfljbaaRel
namespace Go.Proofs.Ytmenfbfekfljbaa
open Go.RowKit

/-- does a fact say what conflicts with a name, from a move on -/
def badS (xs : List FactD) (fr : Int) (id : ID) (x : FactD) : Bool :=
  !decide (x.move < fr) && (if x.kind == 4 || x.kind == 8 then conflictR xs x.id id else x.kind == 2 && (conflictR xs x.id id || conflictR xs x.other id))
set_option maxRecDepth 100000 in
set_option maxHeartbeats 4000000 in
theorem stays_any (w : World) (v : Value) (xs : List FactD) (fr : Int) (id : ID) (h : SlIn w v 72 factL xs) (hlen : xs.length ≤ 1000) :
    Calls Try.prog 28 #[v, .int .i64 fr, .agg (idL id).toArray] w fun e w' => e = .returned (.bool (!xs.any (badS xs fr id))) ∧ Below w.heap.size w w' := by
  have HR := Lib.hid fun W (hb : Below w.heap.size w W) => related_any W v xs (h.below hb) hlen
  have HN : Hid (∀ k (hk : k < xs.length), badS xs fr id xs[k] = true → (!xs.any (badS xs fr id)) = false) := Lib.hid fun k hk hx => by
    rw [Bool.not_eq_false', List.any_eq_true]; exact ⟨_, List.getElem_mem hk, hx⟩
  have HY : Hid ((∀ k (hk : k < xs.length), k < xs.length → badS xs fr id xs[k] = false) → (!xs.any (badS xs fr id)) = true) := Lib.hid fun hx => by
    rw [Bool.not_eq_true', List.any_eq_false]
    intro y hy
    obtain ⟨j, hj, rfl⟩ := List.getElem_of_mem hy
    simpa using hx j hj hj
  obtain ⟨oa, cap, rfl, h1, h2, h3⟩ := h
  unfold maxLen at h2
  have H3 := Lib.hid h3
  clear h3
  generalize (!xs.any (badS xs fr id)) = r at *
  go_enter Try.func28, Try.ntmps28
  go_wp2_with fail
  have bw : Below w.heap.size w (w.alloc (.cells (idL id).toArray 45)) := (Below.refl _ w).alloc (Nat.le_refl _) _
  refine (HR.out _ bw).mono ?_
  rintro e w1 ⟨ub, m, rfl, hr1, hb1, hu, hm⟩
  have i1 : obj w1 w.heap.size = some (.cells (idL id).toArray 45 (0, 0)) := (obj_below hb1 (by simp)).trans (obj_alloc_at _ _ _ rfl)
  have b1 : Below w.heap.size w w1 := bw.trans (hb1.mono (by simp))
  clear hb1
  go_wp2_with fail
  have i2 : obj (w1.alloc (.cells #[.map (some m), .func (.func 63) #[] #[.pointer (some ⟨ub, 0, none⟩)]] 85)) w.heap.size = some (.cells (idL id).toArray 45 (0, 0)) := (obj_alloc_past _ _ _ (lt_of_obj i1)).trans i1
  have p1 : obj (w1.alloc (.cells #[.map (some m), .func (.func 63) #[] #[.pointer (some ⟨ub, 0, none⟩)]] 85)) w1.heap.size = some (.cells #[.map (some m), .func (.func 63) #[] #[.pointer (some ⟨ub, 0, none⟩)]] 85 (0, 0)) := obj_alloc_at _ _ _ rfl
  have b2 : Below w.heap.size w (w1.alloc (.cells #[.map (some m), .func (.func 63) #[] #[.pointer (some ⟨ub, 0, none⟩)]] 85)) := b1.alloc b1.size _
  have r1 := hr1.below ((Below.refl _ w1).alloc (Nat.le_refl _) (.cells #[.map (some m), .func (.func 63) #[] #[.pointer (some ⟨ub, 0, none⟩)]] 85))
  generalize w1.heap.size = rb at *
  generalize w1.alloc (.cells #[.map (some m), .func (.func 63) #[] #[.pointer (some ⟨ub, 0, none⟩)]] 85) = w2 at *
  clear hr1 b1 i1
  go_loopw [9, 14] (fun _ v14 wr => ∃ (k : Nat), k ≤ xs.length ∧ v14 = .int .i64 k ∧ Hid (∀ j (hj : j < xs.length), j < k → badS xs fr id xs[j] = false) ∧ Below w.heap.size w wr ∧ Hid (RelAt wr ub m xs) ∧
    Hid (obj wr rb = some (.cells #[.map (some m), .func (.func 63) #[] #[.pointer (some ⟨ub, 0, none⟩)]] 85 (0, 0))) ∧ Hid (obj wr w.heap.size = some (.cells (idL id).toArray 45 (0, 0)))) (fun _ i _ => xs.length - (intOf i).toNat)
  case atStart => exact ⟨0, Nat.zero_le _, rfl, Lib.hid (by omega), b2, Lib.hid r1, Lib.hid p1, Lib.hid i2⟩
  case round =>
    clear b2 r1 p1 i2
    obtain ⟨k, hk, rfl, HG, hb, HRel, HB, HI⟩ := hrel
    have hz := hb.size
    by_cases hlt : k < xs.length
    · obtain ⟨b, off, hoa, hbb, hrow⟩ := H3.out (by omega)
      subst hoa
      have hsub := hrow k hlt
      have hob : obj wr b = obj w b := obj_below hb hbb
      have hbr : b < wr.heap.size := Nat.lt_of_lt_of_le hbb hb.size
      have NX : Hid (badS xs fr id xs[k] = false → ∀ j (h1 : j < xs.length), j < k + 1 → badS xs fr id xs[j] = false) := Lib.hid (fun h j h1 hlt' => by
          by_cases e : j = k
          · subst e; exact h
          · exact HG.out j h1 (by omega))
      have NO := Lib.hid (HN.out k hlt)
      have BD : Hid (badS xs fr id xs[k] = (!decide (xs[k].move < fr) && (if xs[k].kind == 4 || xs[k].kind == 8 then conflictR xs xs[k].id id else xs[k].kind == 2 && (conflictR xs xs[k].id id || conflictR xs xs[k].other id)))) := Lib.hid rfl
      generalize badS xs fr id xs[k] = c at *
      generalize xs[k] = x at *
      clear hrow
      have bA : Below wr.heap.size wr (wr.alloc (.cells (factL x).toArray 54)) := (Below.refl _ _).alloc (Nat.le_refl _) _
      have f1 : obj (wr.alloc (.cells (factL x).toArray 54)) wr.heap.size = some (.cells (factL x).toArray 54 (0, 0)) := obj_alloc_at _ _ _ rfl
      have ob := HB.out
      have oi := HI.out
      have zb := lt_of_obj ob
      have zi := lt_of_obj oi
      have C10 := fun W (hW : Below wr.heap.size wr W) => conflict_any W ub m xs x.id id (HRel.out.below hW)
      have C20 := fun W (hW : Below wr.heap.size wr W) => conflict_any W ub m xs x.other id (HRel.out.below hW)
      unfold relV at C10 C20
      generalize conflictR xs x.id id = c1 at *
      generalize conflictR xs x.other id = c2 at *
      have C1 := Lib.hid C10
      have C2 := Lib.hid C20
      clear C10 C20
      have REST : Hid (∀ W, Below wr.heap.size wr W → c = false → (k + 1 ≤ xs.length ∧ Hid (∀ j (hj : j < xs.length), j < k + 1 → badS xs fr id xs[j] = false) ∧ Below w.heap.size w W ∧ Hid (RelAt W ub m xs) ∧
          Hid (obj W rb = some (.cells #[.map (some m), .func (.func 63) #[] #[.pointer (some ⟨ub, 0, none⟩)]] 85 (0, 0))) ∧ Hid (obj W w.heap.size = some (.cells (idL id).toArray 45 (0, 0))))) := Lib.hid fun W hW hc =>
        ⟨by omega, Lib.hid (NX.out hc), hb.trans (hW.mono hz), Lib.hid (HRel.out.below hW), Lib.hid ((obj_below hW zb).trans ob), Lib.hid ((obj_below hW zi).trans oi)⟩
      clear NX
      by_cases hm : x.move < fr
      · have d0 : decide (x.move < fr) = true := by simpa using hm
        have hc : Hid (c = false) := Lib.hid (by rw [BD.out, d0]; rfl)
        clear BD hm
        go_wp2
        go_roundw
        case rel => obtain ⟨g1, g2, g3, g4, g5, g6⟩ := REST.out _ bA hc.out; exact ⟨k + 1, g1, by go_num, g2, g3, g4, g5, g6⟩
        case measure => simp [intOf]; omega
      · have d0 : decide (x.move < fr) = false := by simpa using hm
        cases e4 : x.kind == 4
        · cases e8 : x.kind == 8
          · cases e2 : x.kind == 2
            · have hc : Hid (c = false) := Lib.hid (by rw [BD.out, e4, e8, e2]; simp)
              clear BD hm
              go_wp2
              go_roundw
              case rel => obtain ⟨g1, g2, g3, g4, g5, g6⟩ := REST.out _ bA hc.out; exact ⟨k + 1, g1, by go_num, g2, g3, g4, g5, g6⟩
              case measure => simp [intOf]; omega
            · have hc : Hid (c = (c1 || c2)) := Lib.hid (by rw [BD.out, d0, e4, e8, e2]; rfl)
              clear BD hm
              go_wp2_with fail
              refine (C1.out _ bA).mono ?_
              rintro e w3 ⟨rfl, hb3⟩
              have bB : Below wr.heap.size wr w3 := bA.trans (hb3.mono (by simp))
              have f3 := (obj_below hb3 (lt_of_obj f1)).trans f1
              have ob3 := (obj_below bB zb).trans ob
              have oi3 := (obj_below bB zi).trans oi
              have z3 := bB.size
              clear hb3 f1 bA
              cases c1
              · go_wp2_with fail
                refine (C2.out _ bB).mono ?_
                rintro e w4 ⟨rfl, hb4⟩
                have bC : Below wr.heap.size wr w4 := bB.trans (hb4.mono bB.size)
                cases c2
                · go_wp2
                  go_roundw
                  case rel => obtain ⟨g1, g2, g3, g4, g5, g6⟩ := REST.out _ bC hc.out; exact ⟨k + 1, g1, by go_num, g2, g3, g4, g5, g6⟩
                  case measure => simp [intOf]; omega
                · go_wp2
                  go_ret
                  exact ⟨ret_bool (NO.out hc.out).symm, hb.trans (bC.mono hz)⟩
              · go_wp2
                go_ret
                exact ⟨ret_bool (NO.out hc.out).symm, hb.trans (bB.mono hz)⟩
          · have hc : Hid (c = c1) := Lib.hid (by rw [BD.out, d0, e4, e8]; rfl)
            clear BD hm
            go_wp2_with fail
            refine (C1.out _ bA).mono ?_
            rintro e w3 ⟨rfl, hb3⟩
            have bB : Below wr.heap.size wr w3 := bA.trans (hb3.mono (by simp))
            cases c1
            · go_wp2
              go_roundw
              case rel => obtain ⟨g1, g2, g3, g4, g5, g6⟩ := REST.out _ bB hc.out; exact ⟨k + 1, g1, by go_num, g2, g3, g4, g5, g6⟩
              case measure => simp [intOf]; omega
            · go_wp2
              go_ret
              exact ⟨ret_bool (NO.out hc.out).symm, hb.trans (bB.mono hz)⟩
        · have hc : Hid (c = c1) := Lib.hid (by rw [BD.out, d0, e4]; rfl)
          clear BD hm
          go_wp2_with fail
          refine (C1.out _ bA).mono ?_
          rintro e w3 ⟨rfl, hb3⟩
          have bB : Below wr.heap.size wr w3 := bA.trans (hb3.mono (by simp))
          cases c1
          · go_wp2
            go_roundw
            case rel => obtain ⟨g1, g2, g3, g4, g5, g6⟩ := REST.out _ bB hc.out; exact ⟨k + 1, g1, by go_num, g2, g3, g4, g5, g6⟩
            case measure => simp [intOf]; omega
          · go_wp2
            go_ret
            exact ⟨ret_bool (NO.out hc.out).symm, hb.trans (bB.mono hz)⟩
    · have hk' : k = xs.length := by omega
      subst hk'
      go_wp2
      go_ret
      exact ⟨ret_bool (HY.out HG.out).symm, hb⟩
end Go.Proofs.Ytmenfbfekfljbaa
