import Derived.Test.YtfejhekoijemdaaRpH
import Derived.Test.YtfejhekoijemdaaSplM
namespace Go.Proofs.Ytfejhekoijemdaa
open Go.RowKit

/-! ### Vote -/
theorem RPollW.setVotes {w2 w3 : World} {G G' : Nat → Prop} {q : PB} {o : OneM} {sl : List Int} {v' : Value} {vs : List Vt} (h : RPollW w2 G q o sl) (hb : Below w2.heap.size w2 w3) (ho : OwnS w3 w2.heap.size 58 33 vtL v' vs) (hG : ∀ n, G n → G' n) (hN : ∀ n, w2.heap.size ≤ n → G' n) :
    RPollW (w3.setCell ⟨q.p, 3, none⟩ v') G' { q with vv := v' } { o with votes := vs } sl := by
  have h3 := h.below hb
  obtain ⟨c, f1, f2⟩ := h3.fl
  have q1 : ∀ n, n ≠ q.p → obj (w3.setCell ⟨q.p, 3, none⟩ v') n = obj w3 n := fun n hn => obj_setCell_ne _ ⟨q.p, 3, none⟩ _ _ hn
  have lp := lt_of_obj h.box
  refine ⟨obj_setCell_at v' (i := 3) h3.box, h3.so.keeps fun g eg => q1 g (fun e => h3.so.ne h3.box (fun cur hc => by cases hc) (by rw [eg, e])), ⟨c, (q1 _ (fun e => by have := h3.box; rw [← e, f1] at this; simp at this)).trans f1, f2⟩, h3.fc, ?_, hG _ h.gp, hG _ h.gf, fun n e => hG n (h.gs n e), fun n e => hN n ((ho.1.lt n e).1)⟩
  refine OwnS.rebase (ho.keeps fun g eg => q1 g (fun e => ?_)) (Nat.zero_le _)
  have := (ho.1.lt g eg).1
  omega
set_option maxRecDepth 100000 in
set_option maxHeartbeats 4000000 in
theorem rvote_any (w : World) (G : Nat → Prop) (rb : Nat) (lv : Value) (ps : List PB) (S : SetM) (R : List (List Int)) (n v : Int) (id : ID) (hS : RSetW w G rb lv ps S R) (hok : SetOK S) (hrel : RelS S R) (hlen : ps.length ≤ 100000) :
    Calls Try.prog 41 #[.pointer (some ⟨rb, 0, none⟩), .int .i64 n, .int .i64 v, .agg (idL id).toArray] w fun e w' => e = .returned (.int .i64 (voteM S n v id).2) ∧ RAct w G rb (voteM S n v id).1 R w' := by
  have hb : Below w.heap.size w (w.alloc (.cells (idL id).toArray 37)) := (Below.refl _ w).alloc (Nat.le_refl _) _
  have S1 := hS.below hb
  have HW := Lib.hid (rwaits_any _ G rb lv ps S R n v S1 hok hrel hlen)
  have O1 := Lib.hid (show obj (w.alloc (.cells (idL id).toArray 37)) w.heap.size = some (.cells (idL id).toArray 37 (0, 0)) from obj_alloc_at _ _ _ rfl)
  have HB := Lib.hid hb
  cases hw : waitsM S n v with
  | false =>
    obtain ⟨-, e1⟩ := waitsM_no hok hw
    have HS : Hid (RAct w G rb (voteM S n v id).1 R (w.alloc (.cells (idL id).toArray 37))) := Lib.hid (by rw [e1 id]; exact ⟨⟨lv, ps, S1.of_G (fun _ _ _ => rfl) (Nat.le_refl _) fun n h _ => .inl h⟩, Keeps.of_below hb⟩)
    have HE : Hid ((voteM S n v id).2 = 4) := Lib.hid (by rw [e1 id])
    rw [hw] at HW
    generalize voteM S n v id = r at *
    clear hS hok hrel e1 hw S1 hb
    go_enter Try.func41, Try.ntmps41
    go_wp2_with fail
    refine HW.out.mono ?_
    rintro e w2 ⟨rfl, hw⟩
    cases hw
    go_wp2_with fail
    go_ret
    exact ⟨by rw [HE.out]; rfl, HS.out⟩
  | true =>
    obtain ⟨i, o, hf, ho, hd, hwv⟩ := waitsM_yes hw
    obtain ⟨hi, _⟩ := findI_lt hf
    obtain ⟨q, o', sl, h⟩ := found S1 hok hrel hi
    have : o' = o := by have := h.ho; rw [ho] at this; exact (Option.some.inj this).symm
    subst this
    have HF := Lib.hid (rfind_any _ G rb lv ps S R n S1 hlen)
    rw [hf, h.ptr] at HF
    have hvm := voteM_yes (id := id) hf ho hd hwv
    have HE : Hid ((voteM S n v id).2 = 0) := Lib.hid (by rw [hvm])
    have HD1 : Hid ((voteM S n v id).1 = modS S i (voteO v id)) := Lib.hid (by rw [hvm])
    have hki : keyIn o' v = true := by
      have := h.rel.waits v
      cases hk : keyIn o' v with
      | true => rfl
      | false => rw [hk] at this; simp at this; rw [this] at hwv; simp at hwv
    have hwc : waitsOf o' v = cntI v sl := by rw [h.rel.waits v, if_pos hki]
    have hc1 := h.rel.pos h.ok hki
    have hc2 := cntI_le v sl
    have HVO : Hid (voteO v id o' = { takeO v o' with votes := insV id (cntI v sl) o'.votes }) := Lib.hid (by
      unfold voteO putV
      rw [hwc, if_neg (by omega)])
    have hvl := h.ok.len
    have HADD := Lib.hid (fun (W : World) (hsl : SlIn W q.vv 33 vtL o'.votes) => radd_any W q.vv o'.votes id (cntI v sl) hsl (by omega) h.ok.asc (fun x hx => by
      have h1 := h.ok.vpos x hx
      have h2 := cnt_at h.ok.asc hx
      have h3 := OneOK.most.cnt_le' h.ok.vpos x.id
      have h4 := h.ok.tot
      have h5 := h.ok.hi
      have h6 := h.ok.left0
      omega) (by omega) (by have := h.hi; omega))
    have HSS := Lib.hid S1
    have HH := Lib.hid h
    have p0 : subOf (obj (w.alloc (.cells (idL id).toArray 37)) w.heap.size) 0 32 = some (idL id).toArray := by rw [O1.out, subOf_cells (by simp), subA_all (by simp)]
    rw [hw] at HW
    generalize voteM S n v id = r at *
    have HT := Lib.hid (fun (W : World) (hp : RPollW W G q o' sl) => rtakes_any W G q o' sl v hp h.ok h.hi)
    generalize hcn : cntI v sl = cn at *
    have HCN := Lib.hid hcn
    clear hcn
    have hz1 : (w.alloc (.cells (idL id).toArray 37)).heap.size = w.heap.size + 1 := by simp
    have HZ1 := Lib.hid hz1
    clear hS hok hrel hw hf ho hd hwv hvm h S1 hb hki hwc hc1 hc2 hvl hz1
    go_enter Try.func41, Try.ntmps41
    go_wp2_with fail
    generalize w.alloc (.cells (idL id).toArray 37) = w1 at *
    refine HW.out.mono ?_
    rintro e w2 ⟨rfl, hw⟩
    cases hw
    go_wp2_with fail
    refine HF.out.mono ?_
    rintro e w2 ⟨rfl, hw⟩
    cases hw
    clear HW HF
    have HPD := Lib.hid (HH.out.pw.below (Below.refl _ w1).drew)
    obtain ⟨so, sc, esl⟩ := HH.out.pw.vt.slice
    have c3 : w1.cell? ⟨q.p, 3, none⟩ = some (.slice so o'.votes.length sc) := by rw [← esl]; exact HH.out.pw.cells.2.2.2
    rw [esl] at HADD
    have ESL := Lib.hid esl
    clear esl
    have lq1 := lt_of_obj HH.out.pw.box
    have hne : w.heap.size ≠ q.fb := fun e => by
      obtain ⟨c, f1, -⟩ := HH.out.pw.fl
      rw [← e, O1.out] at f1
      simp at f1
    go_wp2_with fail
    have hln := lt_of_obj O1.out
    have hnp : w.heap.size ≠ q.p := fun e => by
      have := HH.out.pw.box
      rw [← e, O1.out] at this
      simp at this
    refine wp_region_last' 12 (S := fun W => subOf (obj W w.heap.size) 0 32 = some (idL id).toArray ∧ W.cell? ⟨q.p, 3, none⟩ = some (.slice so o'.votes.length sc)) (by kernel_rfl) rfl (by rfl) (by kernel_rfl) (by kernel_rfl) ⟨p0, c3⟩ ?_
    intro hHeld
    refine wpAnyH_take (i := 0) (v := ?_) rfl (by kernel_rfl) (by kernel_rfl) (by kernel_rfl) (fun _ _ _ h => h) (Or.inl ⟨by rfl, ?_⟩) (by assumption) ?_
    rotate_left
    · (intro w hSw; (try dsimp only at hSw); go_simp; try with_reducible rfl)
    (try simp only [Act.put, List.setIfInBounds_toArray, List.set_cons_zero, List.set_cons_succ])
    refine wpAnyH_take (i := 1) (v := ?_) rfl (by kernel_rfl) (by kernel_rfl) (by kernel_rfl) (fun _ _ _ h => h) (Or.inl ⟨by rfl, ?_⟩) (by assumption) ?_
    rotate_left
    · (intro w hSw; (try dsimp only at hSw); go_simp; try with_reducible rfl)
    (try simp only [Act.put, List.setIfInBounds_toArray, List.set_cons_zero, List.set_cons_succ])
    refine wpAnyH_take (i := 2) (v := ?_) rfl (by kernel_rfl) (by kernel_rfl) (by kernel_rfl) (fun _ _ _ h => h) (Or.inl ⟨by rfl, ?_⟩) (by assumption) ?_
    rotate_left
    · (intro w hSw; (try dsimp only at hSw); go_simp; try with_reducible rfl)
    (try simp only [Act.put, List.setIfInBounds_toArray, List.set_cons_zero, List.set_cons_succ])
    refine wpAnyH_take (i := 3) (v := ?_) rfl (by kernel_rfl) (by kernel_rfl) (by kernel_rfl) (fun _ _ _ h => h) (Or.inl ⟨by rfl, ?_⟩) (by assumption) ?_
    rotate_left
    · (intro w hSw; (try dsimp only at hSw); go_simp; try with_reducible rfl)
    (try simp only [Act.put, List.setIfInBounds_toArray, List.set_cons_zero, List.set_cons_succ])
    refine wpAnyH_take (i := 4) (v := ?_) rfl (by kernel_rfl) (by kernel_rfl) (by kernel_rfl) (fun _ _ _ h => h) (Or.inl ⟨by rfl, ?_⟩) (by assumption) ?_
    rotate_left
    · (intro w hSw; (try dsimp only at hSw); go_simp; try with_reducible rfl)
    (try simp only [Act.put, List.setIfInBounds_toArray, List.set_cons_zero, List.set_cons_succ])
    refine wpAnyH_take (i := 5) (v := ?_) rfl (by kernel_rfl) (by kernel_rfl) (by kernel_rfl) (fun _ _ _ h => h) (Or.inl ⟨by rfl, ?_⟩) (by assumption) ?_
    rotate_left
    · (intro w hSw; (try dsimp only at hSw); go_simp; try with_reducible rfl)
    (try simp only [Act.put, List.setIfInBounds_toArray, List.set_cons_zero, List.set_cons_succ])
    refine wpAnyH_take (i := 6) (v := ?_) rfl (by kernel_rfl) (by kernel_rfl) (by kernel_rfl) (fun _ _ _ h => h) (Or.inl ⟨by rfl, ?_⟩) (by assumption) ?_
    rotate_left
    · (intro w hSw; (try dsimp only at hSw); go_simp; try with_reducible rfl)
    (try simp only [Act.put, List.setIfInBounds_toArray, List.set_cons_zero, List.set_cons_succ])
    refine wpAnyH_take (i := 7) (v := ?_) rfl (by kernel_rfl) (by kernel_rfl) (by kernel_rfl) (fun _ _ _ h => h) (Or.inl ⟨by rfl, ?_⟩) (by assumption) ?_
    rotate_left
    · (intro w hSw; (try dsimp only at hSw); go_simp; try with_reducible rfl)
    (try simp only [Act.put, List.setIfInBounds_toArray, List.set_cons_zero, List.set_cons_succ])
    refine wpAnyH_ready (rs := [8]) (by kernel_rfl) (by simp) ?_
    refine AllReadyH.cons (o := { dst := some 26, op := .call { callee := .value (.func 60), args := #[.tmp 24, .tmp 25], argTypes := #[103, 3] }, type := _, pos := _, after := _, guard := none }) rfl (fun K hK => ?_) AllReadyH.nil
    go_simp
    go_at_call 60
    refine (HT.out _ HPD.out).mono ?_
    rintro e w2 ⟨rfl, hp2, hk2⟩
    have HP2 := Lib.hid hp2
    have HK2 := Lib.hid hk2
    have OB2 : Hid (obj w2 w.heap.size = some (.cells (idL id).toArray 37 (0, 0))) := Lib.hid ((hk2.block _ hln hne).trans O1.out)
    have d3 : w2.cell? ⟨q.p, 3, none⟩ = some (.slice so o'.votes.length sc) := by rw [← ESL.out]; exact hp2.cells.2.2.2
    have lq2 := lt_of_obj hp2.box
    have hz2 := hk2.size
    refine hK.out _ _ ⟨by rw [OB2.out, subOf_cells (by simp), subA_all (by simp)], d3⟩ (fun hHeld => ?_)
    clear hK K hp2 hk2
    (try simp only [Act.put, List.setIfInBounds_toArray, List.set_cons_zero, List.set_cons_succ])
    refine wpAnyH_ready (rs := [9]) (by kernel_rfl) (by simp) ?_
    refine AllReadyH.cons (o := { dst := some 27, op := .call { callee := .value (.func 59), args := #[.tmp 22, .tmp 23, .tmp 26], argTypes := #[41, 37, 3] }, type := _, pos := _, after := _, guard := none }) rfl (fun K hK => ?_) AllReadyH.nil
    go_simp
    go_at_call 59
    refine (HADD.out _ (by rw [← ESL.out]; exact HP2.out.vt.slIn vtL_length)).mono ?_
    rintro e w3 ⟨v3, rfl, ho3, b3⟩
    have HO3 := Lib.hid ho3
    have B3 := Lib.hid b3
    have OB3 : Hid (obj w3 w.heap.size = some (.cells (idL id).toArray 37 (0, 0))) := Lib.hid ((obj_below b3 (lt_of_obj OB2.out)).trans OB2.out)
    have ob3 := (obj_below b3 lq2).trans HP2.out.box
    have e3 : w3.cell? ⟨q.p, 3, none⟩ = some (.slice so o'.votes.length sc) := by rw [← ESL.out]; exact cell_at ob3 3
    have f3 := frozen_at ob3 3
    have l3 := lt_of_obj ob3
    obtain ⟨so3, sc3, ev3⟩ := ho3.slice
    refine hK.out _ _ ⟨by rw [OB3.out, subOf_cells (by simp), subA_all (by simp)], e3⟩ (fun hHeld => ?_)
    clear hK K ho3 b3 ob3
    have EV3 := Lib.hid ev3
    subst ev3
    (try simp only [Act.put, List.setIfInBounds_toArray, List.set_cons_zero, List.set_cons_succ])
    refine wpAnyH_take (i := 10) (v := ?_) rfl (by kernel_rfl) (by kernel_rfl) (by kernel_rfl) (fun _ _ _ h => h) (Or.inl ⟨by rfl, ?_⟩) (by assumption) ?_
    rotate_left
    · (intro w hSw; (try dsimp only at hSw); go_simp; try with_reducible rfl)
    (try simp only [Act.put, List.setIfInBounds_toArray, List.set_cons_zero, List.set_cons_succ])
    refine wpAnyH_take (i := 11) (v := ?_) rfl (by kernel_rfl) (by kernel_rfl) (by kernel_rfl) (fun _ _ _ h => h) (Or.inl ⟨by rfl, ?_⟩) (by assumption) ?_
    rotate_left
    · (intro w hSw; (try dsimp only at hSw); go_simp; try with_reducible rfl)
    (try simp only [Act.put, List.setIfInBounds_toArray, List.set_cons_zero, List.set_cons_succ])
    refine wpAnyH_done (by kernel_rfl) ?_ _
    unfold lastQ
    refine wpOp_step rfl (fun K' hK' => ?_)
    go_simp
    refine hK' _ _ ?_
    clear hK'
    have FIN : Hid (RAct w G rb r.1 R (w3.setCell ⟨q.p, 3, none⟩ (.slice so3 (insV id cn o'.votes).length sc3))) := Lib.hid (by
        have hp' := HP2.out.setVotes B3.out HO3.out (G' := fun n => G n ∨ w.heap.size ≤ n) (fun n hn => .inl hn) (fun n hn => .inr (by have h9 : w1.heap.size ≤ w2.heap.size := hz2; have h8 := HZ1.out; omega))
        rw [← HVO.out] at hp'
        have hk1 : Keeps (fun n => n = q.fb ∨ n = q.p) w1 (w3.setCell ⟨q.p, 3, none⟩ (.slice so3 (insV id cn o'.votes).length sc3)) := ((((Keeps.refl (fun n => n = q.fb) w1).drew.trans HK2.out).mono fun n hn => .inl hn).trans (Keeps.of_below B3.out)).setCell (a := ⟨q.p, 3, none⟩) (.inl (.inr rfl)) _
        have hs := HSS.out.setPoll HH.out (q' := { q with vv := .slice so3 (insV id cn o'.votes).length sc3 }) rfl rfl (voteO v id) hp' hk1 (fun n hn => .inl hn)
        rw [HD1.out]
        exact ⟨⟨lv, _, hs⟩, (Keeps.of_below HB.out).trans (hk1.mono fun n hn => by rcases hn with e | e <;> rw [e]; exact HH.out.pw.gf; exact HH.out.pw.gp)⟩)
    go_wp2_with fail
    go_ret
    exact ⟨by rw [HE.out]; rfl, FIN.out⟩
end Go.Proofs.Ytfejhekoijemdaa
