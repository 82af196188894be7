import Derived.Test.YtkjaabajomigkaaAdd
namespace Go.Proofs.Ytkjaabajomigkaa
open Go.RowKit

set_option maxRecDepth 100000 in
set_option maxHeartbeats 2000000 in
/-- flurryref07.Add -/
theorem addR_any (w : World) (v : Value) (l : List Vt) (id : ID) (n : Int) (h : SlIn w v 33 vtL l) (hlen : l.length ≤ 1048575) : Calls Try.prog 35 #[v, .agg (idL id).toArray, .int .i64 n] w (RetBag w (addE l n) (addV l id n)) := by
  have hb : Below w.heap.size w (w.alloc (.cells (idL id).toArray 27)) := (Below.refl _ w).alloc (Nat.le_refl _) _
  have hob : obj (w.alloc (.cells (idL id).toArray 27)) w.heap.size = some (.cells (idL id).toArray 27 (0, 0)) := obj_alloc_at _ _ _ rfl
  have hz : (w.alloc (.cells (idL id).toArray 27)).heap.size = w.heap.size + 1 := by simp
  have HSL := Lib.hid h
  have HB := Lib.hid hb
  have HO := Lib.hid hob
  have HC := Lib.hid (checkR_any _ v l (h.below hb))
  have HT := totV_bd l
  obtain ⟨oa, cap, rfl, g1, g2, g3⟩ := h
  clear g3 hb hob
  rcases bagE_cases l with hE | hE
  · rw [hE] at HC
    have hN := fun w' => Lib.hid (totalR_any w' (.slice oa l.length cap) l)
    by_cases hn0 : n < 0
    · have d0 : decide (n < 0) = true := by simpa using hn0
      have HA : Hid (addE l n = 1) := Lib.hid (by unfold addE; rw [if_pos hE, if_pos hn0])
      have HV : Hid (addV l id n = []) := Lib.hid (by unfold addV; rw [HA.out]; rfl)
      clear hn0 hE hN HT
      go_enter Try.func35, Try.ntmps35
      go_wp2_with fail
      refine HC.out.mono ?_
      rintro e w1 ⟨rfl, b1⟩
      have B1 := Lib.hid (HB.out.trans (b1.mono (by simp)))
      clear b1
      go_wp2
      go_ret2
      exact RetBag.err HA.out HV.out B1.out
    · have d0 : decide (n < 0) = false := by simpa using hn0
      have hwr : IntKind.i64.wrap (1048576 - totV l) = 1048576 - totV l := by simp [IntKind.wrap, IntKind.signed, IntKind.bits]; omega
      by_cases hn1 : 1048576 - totV l < n
      · have d1 : decide (1048576 - totV l < n) = true := by simpa using hn1
        have HA : Hid (addE l n = 6) := Lib.hid (by unfold addE; rw [if_pos hE, if_neg hn0, if_pos hn1])
        have HV : Hid (addV l id n = []) := Lib.hid (by unfold addV; rw [HA.out]; rfl)
        clear hn0 hE hn1 HT
        generalize totV l = T at *
        go_enter Try.func35, Try.ntmps35
        go_wp2_with fail
        refine HC.out.mono ?_
        rintro e w1 ⟨rfl, b1⟩
        have B1 := Lib.hid (HB.out.trans (b1.mono (by simp)))
        have HT1 := Lib.hid ((hN w1).out (HSL.out.below B1.out))
        clear b1
        go_wp2_with fail
        refine HT1.out.mono ?_
        rintro e w2 ⟨rfl, b2⟩
        have B2 := Lib.hid (B1.out.trans (b2.mono B1.out.size))
        clear b2 HT1
        go_wp2
        go_ret2
        exact RetBag.err HA.out HV.out B2.out
      · have d1 : decide (1048576 - totV l < n) = false := by simpa using hn1
        have HA : Hid (addE l n = 0) := Lib.hid (by unfold addE; rw [if_pos hE, if_neg hn0, if_neg hn1])
        have HV : Hid (addV l id n = putV l id n) := Lib.hid (by unfold addV; rw [if_pos HA.out])
        obtain ⟨ha, hp, hs⟩ := bagE_0 hE
        have HPUT : ∀ w, Hid (SlIn w (.slice oa l.length cap) 33 vtL l → Calls Try.prog 40 #[.slice oa l.length cap, .agg (idL id).toArray, .int .i64 n] w (RetOwn w 33 33 vtL (putV l id n))) := fun w => Lib.hid (fun hs' => by
          unfold putV
          by_cases h0 : n = 0
          · rw [if_pos h0, h0]
            exact put_none w _ l id hs' (by omega)
          · rw [if_neg h0]
            refine put_some w _ l id n hs' hlen h0 (by omega) (by omega) (fun x hx => ?_)
            have e1 := hp x hx
            have e2 := sumN_mem hp hx
            omega)
        clear hn0 hE hn1 HT ha hp hs
        generalize totV l = T at *
        go_enter Try.func35, Try.ntmps35
        go_wp2_with fail
        generalize hw0 : w.alloc (.cells (idL id).toArray 27) = w0 at *
        clear hw0
        generalize hBB : w.heap.size = B at *
        refine HC.out.mono ?_
        rintro e w1 ⟨rfl, b1⟩
        have hz1 := b1.size
        have B1 := Lib.hid (HB.out.trans (b1.mono (by omega)))
        have O1 := Lib.hid ((obj_below b1 (by omega)).trans HO.out)
        have HT1 := Lib.hid ((hN w1).out (HSL.out.below (by rw [hBB]; exact B1.out)))
        clear b1
        go_wp2_with fail
        refine HT1.out.mono ?_
        rintro e w2 ⟨rfl, b2⟩
        have hz2 := b2.size
        have B2 := Lib.hid (B1.out.trans (b2.mono (by omega)))
        have O2 := Lib.hid ((obj_below b2 (by omega)).trans O1.out)
        have p1 : subOf (obj w2 B) 0 32 = some (idL id).toArray := by rw [O2.out, subOf_cells (by simp), subA_all (by simp)]
        have HP := Lib.hid ((HPUT w2).out (HSL.out.below (by rw [hBB]; exact B2.out)))
        clear b2 HT1
        go_wp2_with fail
        refine HP.out.mono ?_
        rintro e w3 ⟨v3, rfl, o3, b3⟩
        have HO3 := Lib.hid (o3.rebase (b' := B) (by omega))
        have B3 := Lib.hid (B2.out.trans (b3.mono (by omega)))
        clear o3 b3 HP
        go_wp2
        go_ret2
        exact RetBag.ok HA.out HV.out (by rw [hBB]; exact HO3.out) (by rw [hBB]; exact B3.out)
  · rw [hE] at HC
    have HA : Hid (addE l n = 70) := Lib.hid (by unfold addE; rw [if_neg (by omega)])
    have HV : Hid (addV l id n = []) := Lib.hid (by unfold addV; rw [HA.out]; rfl)
    clear hE HT
    go_enter Try.func35, Try.ntmps35
    go_wp2_with fail
    refine HC.out.mono ?_
    rintro e w1 ⟨rfl, b1⟩
    have B1 := Lib.hid (HB.out.trans (b1.mono (by simp)))
    clear b1
    go_wp2
    go_ret2
    exact RetBag.err HA.out HV.out B1.out
end Go.Proofs.Ytkjaabajomigkaa
