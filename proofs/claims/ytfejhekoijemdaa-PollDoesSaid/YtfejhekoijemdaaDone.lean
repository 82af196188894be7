import Derived.Test.YtfejhekoijemdaaFindS
namespace Go.Proofs.Ytfejhekoijemdaa
open Go.RowKit


set_option maxRecDepth 100000 in
set_option maxHeartbeats 2000000 in
/-- (*Set).done -/
theorem done_raw (w : World) (b p m : Nat) (pref conf last : Int) (lv v : Value) (V : Nat → Prop) (o : OneM) (hb : obj w b = some (.cells #[.int .i64 pref, .int .i64 conf, .int .i64 last, lv] 78 (0, 0))) (ho : OneW w V p m v o) (hok : OneOK o) :
    Calls Try.prog 34 #[.pointer (some ⟨b, 0, none⟩), .pointer (some ⟨p, 0, none⟩)] w fun e w' => e = .returned (.bool (decide (o.left = 0 ∨ totV o.votes + o.left < pref ∨ conf ≤ mostN o.votes ∨ (pref ≤ mostN o.votes ∧ mostN o.votes + o.left < conf)))) ∧ Below w.heap.size w w' := by
  have HM := Lib.hid (mode_any w v o.votes ho.vt.1)
  have HV := Lib.hid ho.vt.1
  have c4 : w.cell? ⟨p, 4, none⟩ = some v := cell_at ho.at_ 4
  have HF := fun (W : World) (h : Below w.heap.size w W) => Lib.hid ((total_any W v o.votes (ho.vt.1.below h)))
  have HC : Hid (∀ W : World, Below w.heap.size w W → W.cell? ⟨b, 0, none⟩ = some (.int .i64 pref) ∧ W.cell? ⟨b, 1, none⟩ = some (.int .i64 conf) ∧ W.cell? ⟨p, 3, none⟩ = some (.int .i64 o.left) ∧ W.cell? ⟨p, 4, none⟩ = some v) := Lib.hid (fun W h => by
    have h1 := (obj_below h (lt_of_obj hb)).trans hb
    have h2 := (obj_below h (lt_of_obj ho.at_)).trans ho.at_
    exact ⟨cell_at h1 0, cell_at h1 1, cell_at h2 3, cell_at h2 4⟩)
  have h1 := hok.left0
  have h2 := hok.most
  have h3 := hok.sum0
  have h4 := hok.tot
  have h5 := hok.hi
  rw [← hok.totV] at h2 h3 h4
  have hpl := lt_of_obj ho.at_
  have hbl := lt_of_obj hb
  have w1 : IntKind.i64.wrap (totV o.votes + o.left) = totV o.votes + o.left := by simp [IntKind.wrap, IntKind.signed, IntKind.bits]; omega
  have w2 : IntKind.i64.wrap (mostN o.votes + o.left) = mostN o.votes + o.left := by simp [IntKind.wrap, IntKind.signed, IntKind.bits]; omega
  have hmn : (modeV o.votes).n = mostN o.votes := rfl
  rw [hmn] at HM
  clear ho hok hb h2 h3 h4 h5
  generalize mostN o.votes = X at *
  generalize totV o.votes = T at *
  generalize o.left = L at *
  generalize modeV o.votes = md at *
  -- ways
  by_cases h0 : L = 0
  · subst h0
    have RR : Hid ((decide ((0 : Int) = 0 ∨ T + 0 < pref ∨ conf ≤ X ∨ (pref ≤ X ∧ X + 0 < conf))) = true) := Lib.hid (by simp)
    go_enter Try.func34, Try.ntmps34
    go_wp2_with fail
    refine HM.out.mono ?_
    rintro e w1 ⟨rfl, b1⟩
    obtain ⟨c0, c1, c3, c5⟩ := HC.out w1 b1
    have hz1 := b1.size
    have hpl1 : p < w1.heap.size := by omega
    have hbl1 : b < w1.heap.size := by omega
    have B1 := Lib.hid b1
    clear b1
    have B2 : Hid (Below w.heap.size w (w1.alloc (.cells (idL md.id).toArray 37))) := Lib.hid (B1.out.alloc (by omega) _)
    go_wp2
    go_ret
    exact ⟨ret_bool RR.out.symm, B2.out⟩
  · have d0 : (L == 0) = false := by simpa using h0
    by_cases h1 : T + L < pref
    · have d1 : decide (T + L < pref) = true := by simpa using h1
      have RR : Hid (decide (L = 0 ∨ T + L < pref ∨ conf ≤ X ∨ (pref ≤ X ∧ X + L < conf)) = true) := Lib.hid (by simp [h1])
      clear h0 h1
      go_enter Try.func34, Try.ntmps34
      go_wp2_with fail
      refine HM.out.mono ?_
      rintro e w1 ⟨rfl, b1⟩
      obtain ⟨c0, c1, c3, c5⟩ := HC.out w1 b1
      have hz1 := b1.size
      have hpl1 : p < w1.heap.size := by omega
      have hbl1 : b < w1.heap.size := by omega
      have B1 := Lib.hid b1
      clear b1
      go_wp2_with fail
      have B2 : Hid (Below w.heap.size w (w1.alloc (.cells (idL md.id).toArray 37))) := Lib.hid (B1.out.alloc (by omega) _)
      obtain ⟨e0, e1, e3, e5⟩ := HC.out _ B2.out
      have hz2 : (w1.alloc (.cells (idL md.id).toArray 37)).heap.size = w1.heap.size + 1 := by simp
      have hpl2 : p < (w1.alloc (.cells (idL md.id).toArray 37)).heap.size := by omega
      have hbl2 : b < (w1.alloc (.cells (idL md.id).toArray 37)).heap.size := by omega
      have HT := Lib.hid (fun x : Later (w1.alloc (.cells (idL md.id).toArray 37)) => (HF x.w (B2.out.trans (x.h.mono (by omega)))).out)
      clear c0 c1 c3 c5 HM HF hz2
      generalize w1.alloc (.cells (idL md.id).toArray 37) = W2 at *
      refine wp_region_later W2 (Below.refl _ _) (by kernel_rfl) (by kernel_rfl) ?_
      repeat (go_big_quiet_step (first | (go_at_call 53; with_reducible exact Calls.later (HT.out _))))
      refine wpQuiet_nil ?_
      intro _ hx
      obtain ⟨⟨w3, b3⟩, hx⟩ := hx
      subst hx
      rename_i w3
      have B3 := Lib.hid (B2.out.trans (b3.mono B2.out.size))
      obtain ⟨f0, f1, f3, f5⟩ := HC.out _ B3.out
      clear e0 e1 e3 e5 b3
      go_wp2
      go_ret
      exact ⟨ret_bool RR.out.symm, B3.out⟩
    · have d1 : decide (T + L < pref) = false := by simpa using h1
      by_cases h2 : conf ≤ X
      · have d2 : decide (conf ≤ X) = true := by simpa using h2
        have RR : Hid (decide (L = 0 ∨ T + L < pref ∨ conf ≤ X ∨ (pref ≤ X ∧ X + L < conf)) = true) := Lib.hid (by simp [h2])
        clear h0 h1
        go_enter Try.func34, Try.ntmps34
        go_wp2_with fail
        refine HM.out.mono ?_
        rintro e w1 ⟨rfl, b1⟩
        obtain ⟨c0, c1, c3, c5⟩ := HC.out w1 b1
        have hz1 := b1.size
        have hpl1 : p < w1.heap.size := by omega
        have hbl1 : b < w1.heap.size := by omega
        have B1 := Lib.hid b1
        clear b1
        go_wp2_with fail
        have B2 : Hid (Below w.heap.size w (w1.alloc (.cells (idL md.id).toArray 37))) := Lib.hid (B1.out.alloc (by omega) _)
        obtain ⟨e0, e1, e3, e5⟩ := HC.out _ B2.out
        have hz2 : (w1.alloc (.cells (idL md.id).toArray 37)).heap.size = w1.heap.size + 1 := by simp
        have hpl2 : p < (w1.alloc (.cells (idL md.id).toArray 37)).heap.size := by omega
        have hbl2 : b < (w1.alloc (.cells (idL md.id).toArray 37)).heap.size := by omega
        have HT := Lib.hid (fun x : Later (w1.alloc (.cells (idL md.id).toArray 37)) => (HF x.w (B2.out.trans (x.h.mono (by omega)))).out)
        clear c0 c1 c3 c5 HM HF hz2
        generalize w1.alloc (.cells (idL md.id).toArray 37) = W2 at *
        refine wp_region_later W2 (Below.refl _ _) (by kernel_rfl) (by kernel_rfl) ?_
        repeat (go_big_quiet_step (first | (go_at_call 53; with_reducible exact Calls.later (HT.out _))))
        refine wpQuiet_nil ?_
        intro _ hx
        obtain ⟨⟨w3, b3⟩, hx⟩ := hx
        subst hx
        rename_i w3
        have B3 := Lib.hid (B2.out.trans (b3.mono B2.out.size))
        obtain ⟨f0, f1, f3, f5⟩ := HC.out _ B3.out
        clear e0 e1 e3 e5 b3
        go_wp2
        go_ret
        exact ⟨ret_bool RR.out.symm, B3.out⟩
      · have d2 : decide (conf ≤ X) = false := by simpa using h2
        by_cases h3 : pref ≤ X
        · have d3 : decide (pref ≤ X) = true := by simpa using h3
          cases h4 : decide (X + L < conf)
          · have RR : Hid (decide (L = 0 ∨ T + L < pref ∨ conf ≤ X ∨ (pref ≤ X ∧ X + L < conf)) = false) := Lib.hid (by simp at h4; simp [h0, h1, h2, h4])
            clear h0 h1
            go_enter Try.func34, Try.ntmps34
            go_wp2_with fail
            refine HM.out.mono ?_
            rintro e w1 ⟨rfl, b1⟩
            obtain ⟨c0, c1, c3, c5⟩ := HC.out w1 b1
            have hz1 := b1.size
            have hpl1 : p < w1.heap.size := by omega
            have hbl1 : b < w1.heap.size := by omega
            have B1 := Lib.hid b1
            clear b1
            go_wp2_with fail
            have B2 : Hid (Below w.heap.size w (w1.alloc (.cells (idL md.id).toArray 37))) := Lib.hid (B1.out.alloc (by omega) _)
            obtain ⟨e0, e1, e3, e5⟩ := HC.out _ B2.out
            have hz2 : (w1.alloc (.cells (idL md.id).toArray 37)).heap.size = w1.heap.size + 1 := by simp
            have hpl2 : p < (w1.alloc (.cells (idL md.id).toArray 37)).heap.size := by omega
            have hbl2 : b < (w1.alloc (.cells (idL md.id).toArray 37)).heap.size := by omega
            have HT := Lib.hid (fun x : Later (w1.alloc (.cells (idL md.id).toArray 37)) => (HF x.w (B2.out.trans (x.h.mono (by omega)))).out)
            clear c0 c1 c3 c5 HM HF hz2
            generalize w1.alloc (.cells (idL md.id).toArray 37) = W2 at *
            refine wp_region_later W2 (Below.refl _ _) (by kernel_rfl) (by kernel_rfl) ?_
            repeat (go_big_quiet_step (first | (go_at_call 53; with_reducible exact Calls.later (HT.out _))))
            refine wpQuiet_nil ?_
            intro _ hx
            obtain ⟨⟨w3, b3⟩, hx⟩ := hx
            subst hx
            rename_i w3
            have B3 := Lib.hid (B2.out.trans (b3.mono B2.out.size))
            obtain ⟨f0, f1, f3, f5⟩ := HC.out _ B3.out
            clear e0 e1 e3 e5 b3
            go_wp2
            go_quiet (fail)
            go_wp2
            go_ret
            exact ⟨ret_bool RR.out.symm, below_drewN B3.out _⟩
          · have RR : Hid (decide (L = 0 ∨ T + L < pref ∨ conf ≤ X ∨ (pref ≤ X ∧ X + L < conf)) = true) := Lib.hid (by simp at h4; simp [h3, h4])
            clear h0 h1
            go_enter Try.func34, Try.ntmps34
            go_wp2_with fail
            refine HM.out.mono ?_
            rintro e w1 ⟨rfl, b1⟩
            obtain ⟨c0, c1, c3, c5⟩ := HC.out w1 b1
            have hz1 := b1.size
            have hpl1 : p < w1.heap.size := by omega
            have hbl1 : b < w1.heap.size := by omega
            have B1 := Lib.hid b1
            clear b1
            go_wp2_with fail
            have B2 : Hid (Below w.heap.size w (w1.alloc (.cells (idL md.id).toArray 37))) := Lib.hid (B1.out.alloc (by omega) _)
            obtain ⟨e0, e1, e3, e5⟩ := HC.out _ B2.out
            have hz2 : (w1.alloc (.cells (idL md.id).toArray 37)).heap.size = w1.heap.size + 1 := by simp
            have hpl2 : p < (w1.alloc (.cells (idL md.id).toArray 37)).heap.size := by omega
            have hbl2 : b < (w1.alloc (.cells (idL md.id).toArray 37)).heap.size := by omega
            have HT := Lib.hid (fun x : Later (w1.alloc (.cells (idL md.id).toArray 37)) => (HF x.w (B2.out.trans (x.h.mono (by omega)))).out)
            clear c0 c1 c3 c5 HM HF hz2
            generalize w1.alloc (.cells (idL md.id).toArray 37) = W2 at *
            refine wp_region_later W2 (Below.refl _ _) (by kernel_rfl) (by kernel_rfl) ?_
            repeat (go_big_quiet_step (first | (go_at_call 53; with_reducible exact Calls.later (HT.out _))))
            refine wpQuiet_nil ?_
            intro _ hx
            obtain ⟨⟨w3, b3⟩, hx⟩ := hx
            subst hx
            rename_i w3
            have B3 := Lib.hid (B2.out.trans (b3.mono B2.out.size))
            obtain ⟨f0, f1, f3, f5⟩ := HC.out _ B3.out
            clear e0 e1 e3 e5 b3
            go_wp2
            go_quiet (fail)
            go_wp2
            go_ret
            exact ⟨ret_bool RR.out.symm, below_drewN B3.out _⟩
        · have d3 : decide (pref ≤ X) = false := by simpa using h3
          have RR : Hid (decide (L = 0 ∨ T + L < pref ∨ conf ≤ X ∨ (pref ≤ X ∧ X + L < conf)) = false) := Lib.hid (by simp [h0, h1, h2, h3])
          clear h0 h1
          go_enter Try.func34, Try.ntmps34
          go_wp2_with fail
          refine HM.out.mono ?_
          rintro e w1 ⟨rfl, b1⟩
          obtain ⟨c0, c1, c3, c5⟩ := HC.out w1 b1
          have hz1 := b1.size
          have hpl1 : p < w1.heap.size := by omega
          have hbl1 : b < w1.heap.size := by omega
          have B1 := Lib.hid b1
          clear b1
          go_wp2_with fail
          have B2 : Hid (Below w.heap.size w (w1.alloc (.cells (idL md.id).toArray 37))) := Lib.hid (B1.out.alloc (by omega) _)
          obtain ⟨e0, e1, e3, e5⟩ := HC.out _ B2.out
          have hz2 : (w1.alloc (.cells (idL md.id).toArray 37)).heap.size = w1.heap.size + 1 := by simp
          have hpl2 : p < (w1.alloc (.cells (idL md.id).toArray 37)).heap.size := by omega
          have hbl2 : b < (w1.alloc (.cells (idL md.id).toArray 37)).heap.size := by omega
          have HT := Lib.hid (fun x : Later (w1.alloc (.cells (idL md.id).toArray 37)) => (HF x.w (B2.out.trans (x.h.mono (by omega)))).out)
          clear c0 c1 c3 c5 HM HF hz2
          generalize w1.alloc (.cells (idL md.id).toArray 37) = W2 at *
          refine wp_region_later W2 (Below.refl _ _) (by kernel_rfl) (by kernel_rfl) ?_
          repeat (go_big_quiet_step (first | (go_at_call 53; with_reducible exact Calls.later (HT.out _))))
          refine wpQuiet_nil ?_
          intro _ hx
          obtain ⟨⟨w3, b3⟩, hx⟩ := hx
          subst hx
          rename_i w3
          have B3 := Lib.hid (B2.out.trans (b3.mono B2.out.size))
          obtain ⟨f0, f1, f3, f5⟩ := HC.out _ B3.out
          clear e0 e1 e3 e5 b3
          go_wp2
          go_quiet (fail)
          go_wp2
          go_ret
          exact ⟨ret_bool RR.out.symm, below_drewN B3.out _⟩
theorem done_any (w : World) (M V : Nat → Prop) (b : Nat) (lv : Value) (ps : List (Nat × Nat)) (S : SetM) (h : SetW w M V b lv ps S) (i : Nat) (p : Nat × Nat) (o : OneM) (hp : ps[i]? = some p) (ho : S.l[i]? = some o) (hok : OneOK o) :
    Calls Try.prog 34 #[.pointer (some ⟨b, 0, none⟩), .pointer (some ⟨p.1, 0, none⟩)] w fun e w' => e = .returned (.bool (isDone S o)) ∧ Below w.heap.size w w' := by
  obtain ⟨v, h1⟩ := h.one i p o hp ho
  exact done_raw w b p.1 p.2 S.pref S.conf S.last lv v V o h.box h1 hok
end Go.Proofs.Ytfejhekoijemdaa
