import Derived.Test.YtagpclgappcnbaaGreatRbD
import Derived.Test.YtagpclgappcnbaaGreatMrg
namespace Go.Proofs.YtagpclgappcnbaaGreat
open Go.RowKit

/-! ### Got -/
theorem RefP.setFresh {W : World} {G : Nat → Prop} {rb : Nat} {p : RD} {M : PM} {Q : List (Int × Int)} (h : RefP W G rb p M Q) {n : Nat} (hn : ¬ G n) (i : Nat) (v : Value) : RefP (W.setCell ⟨n, i, none⟩ v) G rb p M Q :=
  h.of_G (fun k hk _ => obj_setCell_ne _ ⟨n, i, none⟩ _ _ (fun e => hn (by have e' : k = n := e; rw [← e']; exact hk))) (by simp) fun _ hg _ => hg
theorem RefP.setFresh3 {W : World} {G : Nat → Prop} {rb : Nat} {p : RD} {M : PM} {Q : List (Int × Int)} (h : RefP W G rb p M Q) {n : Nat} (hn : ¬ G n) (v0 v1 v2 : Value) : RefP (((W.setCell ⟨n, 0, none⟩ v0).setCell ⟨n, 1, none⟩ v1).setCell ⟨n, 2, none⟩ v2) G rb p M Q :=
  ((h.setFresh hn 0 v0).setFresh hn 1 v1).setFresh hn 2 v2
theorem RefP.widen {W : World} {G G' : Nat → Prop} {rb : Nat} {p : RD} {M : PM} {Q : List (Int × Int)} (h : RefP W G rb p M Q) (hg : ∀ n, G n → n < W.heap.size → G' n) : RefP W G' rb p M Q :=
  h.of_G (fun _ _ _ => rfl) (Nat.le_refl _) hg
theorem robj_own {w w1 W : World} {G : Nat → Prop} {rb : Nat} {p : RD} {M : PM} {Q : List (Int × Int)} (h : RefP w G rb p M Q) (hk : Keeps (ROwn rb p) w1 W) {n : Nat} {o : Obj} (hn : w.heap.size ≤ n) (ho : obj w1 n = some o) : obj W n = some o :=
  (hk.block n (lt_of_obj ho) (fun hh => by
    have h1 := h.lt
    have h2 := h.a.lt
    have h3 := h.h.lt
    rcases hh with e | e | e <;> omega)).trans ho
theorem RefP.setWait {w : World} {G : Nat → Prop} {rb : Nat} {p : RD} {M : PM} {Q : List (Int × Int)} (h : RefP w G rb p M Q) (m : Me.MeanD) : RefP ((w.setCell ⟨rb, 14, none⟩ (.int .i64 m.value)).setCell ⟨rb, 15, none⟩ (.int .i64 m.at_)) G rb p { M with wait := m } Q := by
  have h1 : RefP (w.setCell ⟨rb, 14, none⟩ (.int .i64 m.value)) G rb p { M with wait := ⟨m.value, M.wait.at_⟩ } Q := h.setBox rfl rfl rfl rfl rfl h.l h.s h.q h.gl h.gs h.gq
  exact h1.setBox rfl rfl rfl rfl rfl h1.l h1.s h1.q h1.gl h1.gs h1.gq
theorem RefP.setS {w : World} {G : Nat → Prop} {rb : Nat} {p : RD} {M : PM} {Q : List (Int × Int)} (h : RefP w G rb p M Q) {oa : Option Addr} {c : Nat} {s' : List Be.St} (hs : OwnS w 0 138 3 Be.stL (.slice oa s'.length c) s') (gs : ∀ a, oa = some a → G a.block) :
    RefP (w.setCell ⟨rb, 16, none⟩ (.slice oa s'.length c)) G rb { p with sa := oa, sc := c } { M with seats := s' } Q :=
  h.setBox rfl rfl rfl rfl rfl h.l hs h.q h.gl gs h.gq
theorem RefP.bench {w : World} {G : Nat → Prop} {rb : Nat} {p : RD} {M : PM} {Q : List (Int × Int)} (h : RefP w G rb p M Q) : w.cell? ⟨rb, 6, none⟩ = some (.int .i64 M.cfg.q.f) ∧ w.cell? ⟨rb, 7, none⟩ = some (.int .i64 M.cfg.q.lo) ∧ w.cell? ⟨rb, 8, none⟩ = some (.int .i64 M.cfg.q.fo) ∧ w.cell? ⟨rb, 9, none⟩ = some (.int .i64 M.cfg.q.nu) ∧ w.cell? ⟨rb, 10, none⟩ = some (.int .i64 M.cfg.q.de) :=
  ⟨cell_at h.box 6, cell_at h.box 7, cell_at h.box 8, cell_at h.box 9, cell_at h.box 10⟩
theorem RefP.putFresh {W : World} {G : Nat → Prop} {rb : Nat} {p : RD} {M : PM} {Q : List (Int × Int)} (h : RefP W G rb p M Q) {n : Nat} (hn : ¬ G n) (o : Obj) : RefP (putObj W n o) G rb p M Q :=
  h.of_G (fun k hk _ => obj_putObj_ne _ _ _ _ (fun e => hn (by rw [← e]; exact hk))) (by rw [size_putObj]; exact Nat.le_refl _) fun _ hg _ => hg
theorem keepsPut {w w1 : World} {G : Nat → Prop} (h : Keeps G w w1) {n : Nat} (hn : w.heap.size ≤ n) (o : Obj) : Keeps G w (putObj w1 n o) :=
  ⟨h.os, h.tape, h.output, by rw [size_putObj]; exact h.size, fun k hk hg => (obj_putObj_ne _ _ _ _ (by omega)).trans (h.block k hk hg)⟩
def RGotR (w : World) (G : Nat → Prop) (rb : Nat) (p : RD) (r : PM × Ak.AskD × Int) (Q' : List (Int × Int)) (e : Ending) (w' : World) : Prop :=
  e = .returned (.tuple #[Ak.askV r.2.1, .int .i64 r.2.2]) ∧ (∃ p', RefP w' G rb p' r.1 Q' ∧ p'.ra = p.ra ∧ p'.rh = p.rh) ∧ Keeps (ROwn rb p) w w'
set_option maxRecDepth 100000 in
set_option maxHeartbeats 4000000 in
theorem rgot_any (w : World) (G : Nat → Prop) (rb : Nat) (p : RD) (M : PM) (Q : List (Int × Int)) (v id kind now : Int) (h : RefP w G rb p M Q) (hI : PInv M) (hR : RI M Q) (hQ : Q.length ≤ 100000) (hN : ∀ x ∈ M.l, x.name.size ≤ 300) (hG : ∀ n, w.heap.size ≤ n → G n) :
    Calls Tryz.prog 36 #[.pointer (some ⟨rb, 0, none⟩), .int .i64 v, .int .i64 id, .int .i64 kind, .int .i64 now] w (RGotR w G rb p (gotP M v id kind now) Q) := by
  have b0 : Below w.heap.size w (w.alloc (.cells #[.int .i64 0, .int .i64 0, .int .i64 0] 66)) := (Below.refl _ w).alloc (Nat.le_refl _) _
  have HH := Lib.hid h
  obtain ⟨G0, hG0⟩ : ∃ G0 : Nat → Prop, G0 = fun n => G n ∧ n ≠ w.heap.size := ⟨_, rfl⟩
  have HG0 : Hid (∀ n, w.heap.size + 1 ≤ n → G0 n) := Lib.hid (fun n hn => by rw [hG0]; exact ⟨hG n (by omega), by omega⟩)
  have HNG : Hid (¬ G0 w.heap.size) := Lib.hid (by rw [hG0]; exact fun hh => hh.2 rfl)
  have HGG : Hid (∀ n, G0 n → G n) := Lib.hid (by rw [hG0]; exact fun n hh => hh.1)
  have H0 : Hid (RefP (w.alloc (.cells #[.int .i64 0, .int .i64 0, .int .i64 0] 66)) G0 rb p M Q) := Lib.hid (h.of_G (fun _ _ hn => obj_below b0 hn) b0.size fun n hg hn => by rw [hG0]; exact ⟨hg, by omega⟩)
  have OR := Lib.hid (show obj (w.alloc (.cells #[.int .i64 0, .int .i64 0, .int .i64 0] 66)) w.heap.size = some (.cells #[.int .i64 0, .int .i64 0, .int .i64 0] 66 (0, 0)) from obj_alloc_at _ _ _ rfl)
  have hz0 : (w.alloc (.cells #[.int .i64 0, .int .i64 0, .int .i64 0] 66)).heap.size = w.heap.size + 1 := by simp
  have HI := Lib.hid hI
  have HRI := Lib.hid hR
  have HN := Lib.hid hN
  have HC := Lib.hid (rcomes_any _ G0 rb p M Q now H0.out)
  have HR0 : Hid (comesE M now ≠ 0 → gotP M v id kind now = (M, ⟨0, 0, 0⟩, comesE M now)) := Lib.hid (fun h => by unfold gotP; rw [if_pos h])
  have HR1 : Hid (comesE M now = 0 → Ak.ansE M.A v id kind ≠ 0 → gotP M v id kind now = ({ M with now := now, A := Ak.ansS M.A v id kind }, ⟨0, 0, 0⟩, Ak.ansE M.A v id kind)) := Lib.hid (fun h h1 => by unfold gotP; rw [if_neg (fun hh => hh h), if_pos h1])
  have HR2 : Hid (comesE M now = 0 → Ak.ansE M.A v id kind = 0 → (∃ i : Nat, v = i ∧ i < M.seats.length) ∧ (tookO { M with now := now, A := Ak.ansS M.A v id kind, W := Al.dropW M.W id } id).2 = 0 ∧ aGet id Q = aGet id M.asked ∧ gotP M v id kind now = ({ M with now := now, A := Ak.ansS M.A v id kind, W := Al.dropW M.W id, wait := (tookO { M with now := now, A := Ak.ansS M.A v id kind, W := Al.dropW M.W id } id).1, asked := aDel id M.asked, seats := repS M.seats v }, Ak.ansA M.A v id kind, 0)) := Lib.hid (fun h h1 => by
    obtain ⟨a, ha, -, -, h0, h01, hI1⟩ := (PInvW.now hI h).got h1
    have hI2 : PInvW { M with now := now, A := Ak.ansS M.A v id kind, W := Al.dropW M.W id } (Al.dropW M.W id) := ⟨hI1.may, hI1.mean, hI1.at_, hI1.now0, hI1.now1, hI1.de, hI1.node, hI1.nodup, hI1.wk, hI1.keys, hI1.times, hI1.room, hI1.len, hI1.stat, hI1.last, hI1.askl, hI1.pos⟩
    have ht := (hI2.took id).1
    have hsl := PInvW.seats_len hI
    have h02 : v < (M.l.length : Int) := h01
    refine ⟨⟨v.toNat, by omega, by omega⟩, ht, hR.same id (by have ha' : aGet id M.A.L = some a := ha; rw [ha']; rfl), ?_⟩
    unfold gotP gotM tookM
    rw [if_neg (fun hh => hh h), if_neg (fun hh => hh h1), if_pos ht])
  generalize gotP M v id kind now = R at *
  have K0 : Hid (Keeps (ROwn rb p) w (w.alloc (.cells #[.int .i64 0, .int .i64 0, .int .i64 0] 66))) := Lib.hid (Keeps.of_below b0)
  clear h hI hR hN hG hG0 b0
  go_enter Tryz.func36, Tryz.ntmps36
  go_wp2_with fail
  generalize w.alloc (.cells #[.int .i64 0, .int .i64 0, .int .i64 0] 66) = w0 at *
  refine HC.out.mono ?_
  rintro e w1 ⟨rfl, h1, k1⟩
  have k1' : Keeps (ROwn rb p) w0 w1 := k1.mono fun n hn => .inl hn
  have K1 : Hid (Keeps (ROwn rb p) w w1) := Lib.hid (K0.out.trans k1')
  have O1 := Lib.hid (robj_own HH.out k1' (Nat.le_refl _) OR.out)
  have H1 := Lib.hid h1
  have hz1 : w.heap.size + 1 ≤ w1.heap.size := by have := k1'.size; omega
  clear h1 k1 k1' HC K0 H0 OR hz0
  by_cases hE : comesE M now = 0
  case neg =>
    have HR := Lib.hid (HR0.out hE)
    have HM1 : Hid (comesM M now = M) := Lib.hid (by unfold comesM; rw [if_neg hE])
    generalize comesE M now = E at *
    have ob := O1.out
    have zob := lt_of_obj ob
    have oo : obj (putObj w1 w.heap.size (.cells #[.int .i64 0, .int .i64 0, .int .i64 0] 66)) w.heap.size = some (.cells #[.int .i64 0, .int .i64 0, .int .i64 0] 66 (0, 0)) := obj_putObj_eq _ _ _ zob
    have y0 := cell_at oo 0
    have y1 := cell_at oo 1
    have y2 := cell_at oo 2
    simp at y0 y1 y2
    have FIN : Hid (RefP (putObj w1 w.heap.size (.cells #[.int .i64 0, .int .i64 0, .int .i64 0] 66)) G rb p M Q) := Lib.hid (by rw [HM1.out] at H1; exact (H1.out.putFresh HNG.out _).widen fun n hn _ => HGG.out n hn)
    have KF : Hid (Keeps (ROwn rb p) w (putObj w1 w.heap.size (.cells #[.int .i64 0, .int .i64 0, .int .i64 0] 66))) := Lib.hid (keepsPut K1.out (Nat.le_refl w.heap.size) _)
    go_wp2_with fail
    refine bodyPost_ret (v := .tuple #[.agg #[.int .i64 0, .int .i64 0, .int .i64 0], .int .i64 E]) (by simp [results, Tryz.results36, go_sem, y0, y1, y2]) rfl ⟨by rw [HR.out]; rfl, ⟨p, (by rw [HR.out]; exact FIN.out), rfl, rfl⟩, KF.out⟩
  have HM1 : Hid (comesM M now = { M with now := now }) := Lib.hid (by unfold comesM; rw [if_pos hE])
  have HE := Lib.hid hE
  rw [HM1.out] at H1
  rw [hE]
  clear hE HM1
  obtain ⟨-, c12, -, -, -, -⟩ := H1.out.cells2
  have lb1 := H1.out.lt
  have HA := Lib.hid (Ak.ref_ans_all w1 G0 p.ra M.A v id kind H1.out.a (HRI.out.rk HI.out) (PInvW.pok HI.out).a (fun n hn => HG0.out n (by omega)))
  go_wp2_with fail
  refine HA.out.mono ?_
  rintro e w2 ⟨rfl, a1, a3⟩
  have k2 : Keeps (ROwn rb p) w1 w2 := a3.mono fun n hn => .inr (.inl hn)
  have H2 := Lib.hid (H1.out.setA a1 a3)
  have K2 : Hid (Keeps (ROwn rb p) w w2) := Lib.hid (K1.out.trans k2)
  have O2 := Lib.hid (robj_own HH.out k2 (Nat.le_refl _) O1.out)
  have hz2 : w.heap.size + 1 ≤ w2.heap.size := by have := k2.size; omega
  clear a1 a3 k2 HA c12 lb1 H1 K1 O1 hz1
  have HEQ : Hid (∀ E : Int, E = Ak.ansE M.A v id kind → E ≠ 0 → R = ({ M with now := now, A := Ak.ansS M.A v id kind }, ⟨0, 0, 0⟩, E)) := Lib.hid (fun E e hne => by subst e; exact HR1.out HE.out hne)
  have HVV := Lib.hid (fun (E : Int) (e : E = Ak.ansE M.A v id kind) (h0 : E = 0) => (HR2.out HE.out (by rw [← e]; exact h0)))
  generalize Ak.ansS M.A v id kind = A2 at *
  obtain ⟨E2, hE2⟩ : ∃ x, x = Ak.ansE M.A v id kind := ⟨_, rfl⟩
  have HQ := Lib.hid (HEQ.out E2 hE2)
  have HW := Lib.hid (HVV.out E2 hE2)
  rw [← hE2]
  clear hE2 HEQ HVV HR0 HR1 HR2
  generalize Ak.ansA M.A v id kind = a at *
  obtain ⟨ai, an, ak⟩ := a
  unfold Ak.akV
  simp only
  have hlw2 := lt_of_obj O2.out
  by_cases h20 : E2 = 0
  case neg =>
    have HR := Lib.hid (HQ.out h20)
    have ob := O2.out
    have zob := lt_of_obj ob
    have o1 : obj (putObj w2 w.heap.size (.cells #[.int .i64 0, .int .i64 0, .int .i64 0] 66)) w.heap.size = some (.cells #[.int .i64 0, .int .i64 0, .int .i64 0] 66 (0, 0)) := obj_putObj_eq _ _ _ zob
    have oo : obj ((putObj w2 w.heap.size (.cells #[.int .i64 0, .int .i64 0, .int .i64 0] 66)).alloc (.cells #[.int .i64 ai, .int .i64 an, .int .i64 ak] 66)) w.heap.size = some (.cells #[.int .i64 0, .int .i64 0, .int .i64 0] 66 (0, 0)) := (obj_alloc_past _ _ _ (lt_of_obj o1)).trans o1
    have y0 := cell_at oo 0
    have y1 := cell_at oo 1
    have y2 := cell_at oo 2
    simp only [List.getElem?_toArray, List.getElem?_cons_zero, List.getElem?_cons_succ] at y0 y1 y2
    have b3 : Below (putObj w2 w.heap.size (.cells #[.int .i64 0, .int .i64 0, .int .i64 0] 66)).heap.size (putObj w2 w.heap.size (.cells #[.int .i64 0, .int .i64 0, .int .i64 0] 66)) ((putObj w2 w.heap.size (.cells #[.int .i64 0, .int .i64 0, .int .i64 0] 66)).alloc (.cells #[.int .i64 ai, .int .i64 an, .int .i64 ak] 66)) := (Below.refl _ _).alloc (Nat.le_refl _) _
    have FIN := Lib.hid (((H2.out.putFresh HNG.out (.cells #[.int .i64 0, .int .i64 0, .int .i64 0] 66)).below b3).widen fun n hn _ => HGG.out n hn)
    have KF := Lib.hid ((keepsPut K2.out (Nat.le_refl w.heap.size) (.cells #[.int .i64 0, .int .i64 0, .int .i64 0] 66)).trans (Keeps.of_below b3))
    clear b3 oo o1
    go_wp2_with fail
    refine bodyPost_ret (v := .tuple #[.agg #[.int .i64 0, .int .i64 0, .int .i64 0], .int .i64 E2]) (by simp [results, Tryz.results36, go_sem, y0, y1, y2]) rfl ⟨by rw [HR.out]; rfl, ⟨p, (by rw [HR.out]; exact FIN.out), rfl, rfl⟩, KF.out⟩
  obtain ⟨⟨i, hvi, hi⟩, hok, hsm, hR⟩ := HW.out h20
  have HR := Lib.hid hR
  have HOK := Lib.hid hok
  have HSM := Lib.hid hsm
  subst h20
  subst hvi
  clear hR HW HQ hok hsm
  have b3 : Below w2.heap.size w2 (w2.alloc (.cells #[.int .i64 ai, .int .i64 an, .int .i64 ak] 66)) := (Below.refl _ _).alloc (Nat.le_refl _) _
  have H3 := Lib.hid (H2.out.below b3)
  have K3 : Hid (Keeps (ROwn rb p) w (w2.alloc (.cells #[.int .i64 ai, .int .i64 an, .int .i64 ak] 66))) := Lib.hid (K2.out.trans (Keeps.of_below b3))
  have O3 := Lib.hid ((obj_below b3 hlw2).trans O2.out)
  have T3 := Lib.hid (show obj (w2.alloc (.cells #[.int .i64 ai, .int .i64 an, .int .i64 ak] 66)) w2.heap.size = some (.cells #[.int .i64 ai, .int .i64 an, .int .i64 ak] 66 (0, 0)) from obj_alloc_at _ _ _ rfl)
  obtain ⟨-, -, c13, -, -, -⟩ := H2.out.cells2
  have lb2 := H2.out.lt
  have HD := Lib.hid (Al.dropR _ G0 p.rh M.W id H3.out.h (wlen_le HI.out) (fun n hn => HG0.out n (by simp at hn; omega)))
  clear b3
  go_wp2_with fail
  generalize w2.alloc (.cells #[.int .i64 ai, .int .i64 an, .int .i64 ak] 66) = w3 at *
  have htb : w.heap.size ≤ w2.heap.size := by omega
  generalize w2.heap.size = tb at *
  refine HD.out.mono ?_
  rintro e w4 ⟨rfl, hp4, k4⟩
  have k4' : Keeps (ROwn rb p) w3 w4 := k4.mono fun n hn => .inr (.inr hn)
  have H4 := Lib.hid (H3.out.setH hp4 k4)
  have K4 : Hid (Keeps (ROwn rb p) w w4) := Lib.hid (K3.out.trans k4')
  have O4 := Lib.hid (robj_own HH.out k4' (Nat.le_refl _) O3.out)
  have T4 := Lib.hid (robj_own HH.out k4' htb T3.out)
  have hz4 : w.heap.size + 1 ≤ w4.heap.size := by have := lt_of_obj O4.out; omega
  clear hp4 k4 k4' HD H3 K3 O3 T3 c13 lb2 H2 K2 O2 hlw2 hz2
  have HV0 : Hid (tookO { M with now := now, A := A2, W := Al.dropW M.W id } id = Me.obsR M.cfg.r M.wait (IntKind.i64.wrap (now - (aGet id Q).getD 0)) now) := Lib.hid (by rw [HSM.out]; rfl)
  have HST := Lib.hid (fun W (hW : Below w4.heap.size w4 W) => start_any W G0 rb p _ Q id (H4.out.below hW) hQ)
  have HOB := Lib.hid (fun W => Me.robs_any M.cfg.r M.wait (IntKind.i64.wrap (now - (aGet id Q).getD 0)) now W)
  rw [← HV0.out] at HOB
  generalize tookO { M with now := now, A := A2, W := Al.dropW M.W id } id = o at *
  obtain ⟨⟨ov, oa⟩, oe⟩ := o
  have e0 := HOK.out
  simp only at e0
  subst e0
  clear HV0 HOK HSM
  generalize (aGet id Q).getD 0 = V at *
  unfold Me.ruleV Me.meanV at HOB
  simp only at HOB
  obtain ⟨c1, c2, c3, c4, c5, c14, c15⟩ := H4.out.cells
  simp only at c1 c2 c3 c4 c5 c14 c15
  have lb4 := H4.out.lt
  go_wp2_with fail
  generalize hdif : IntKind.i64.wrap (now - V) = dif at *
  refine region_merge (fun W => ∃ w6, Below w4.heap.size w4 w6 ∧ W = (w6.setCell ⟨rb, 14, none⟩ (.int .i64 ov)).setCell ⟨rb, 15, none⟩ (.int .i64 oa)) ?_
  apply Exists.intro
  apply And.intro
  case left =>
    go_region_law (first
      | (go_simp; go_at_call 79; (with_reducible refine (HST.out _ (Below.refl _ w4).drew).mono ?_); rintro e w5 ⟨rfl, rfl⟩)
      | (go_simp; go_at_call 78; (with_reducible refine (HOB.out _).mono ?_); rintro e w6 ⟨rfl, b6⟩; have G6 : Hid (Below w4.heap.size w4 w6) := Lib.hid ((Below.refl _ w4).drew.trans b6); have H6 := Lib.hid (H4.out.below G6.out); have s6 := H6.out.cells; obtain ⟨s1, s2, s3, s4, s5, s14, s15⟩ := s6; have yf6 := frozen_at H6.out.box; have lb6 := H6.out.lt; clear b6))
    all_goals exact ⟨rfl, _, G6.out, rfl⟩
  case right =>
  rintro w7 ⟨w6, g6, rfl⟩
  have G6 := Lib.hid g6
  have H6 := Lib.hid (H4.out.below G6.out)
  clear g6
  (
    have H7 := Lib.hid (H6.out.setWait ⟨ov, oa⟩)
    have k7 : Keeps (ROwn rb p) w4 ((w6.setCell ⟨rb, 14, none⟩ (.int .i64 ov)).setCell ⟨rb, 15, none⟩ (.int .i64 oa)) := (((Keeps.of_below (F := ROwn rb p) G6.out).setCell (a := ⟨rb, 14, none⟩) (.inl (.inl rfl)) _).setCell (a := ⟨rb, 15, none⟩) (.inl (.inl rfl)) _)
    have K7 : Hid (Keeps (ROwn rb p) w ((w6.setCell ⟨rb, 14, none⟩ (.int .i64 ov)).setCell ⟨rb, 15, none⟩ (.int .i64 oa))) := Lib.hid (K4.out.trans k7)
    have O7 := Lib.hid (robj_own HH.out k7 (Nat.le_refl _) O4.out)
    have T7 := Lib.hid (robj_own HH.out k7 htb T4.out)
    have hz7 : w.heap.size + 1 ≤ ((w6.setCell ⟨rb, 14, none⟩ (.int .i64 ov)).setCell ⟨rb, 15, none⟩ (.int .i64 oa)).heap.size := by have := lt_of_obj O7.out; omega
    clear c1 c2 c3 c4 c5 c14 c15 lb4 k7 H6 G6 O4 T4 HST HOB H4 K4 hz4
    generalize ((w6.setCell ⟨rb, 14, none⟩ (.int .i64 ov)).setCell ⟨rb, 15, none⟩ (.int .i64 oa)) = w7 at *
    simp only at H7
    obtain ⟨b6, b7, b8, b9, b10⟩ := H7.out.bench
    obtain ⟨c11, -, -, c16, -, -⟩ := H7.out.cells2
    simp only at b6 b7 b8 b9 b10 c11 c16
    have lb7 := H7.out.lt
    have HRP := Lib.hid (fun W (hW : Below w7.heap.size w7 W) => Be.repliedR_any W M.cfg.q (.slice p.la M.l.length p.lc) (.slice p.sa M.seats.length p.sc) M.l M.seats i ((H7.out.l.slIn Be.vdL_length).below hW) ((H7.out.s.slIn Be.stL_length).below hW) HN.out (PInvW.may HI.out) hi)
    unfold Be.ruV at HRP
    go_wp2_with fail
    refine region_merge2 (fun (oa8 : Option Addr) (cap8 : Nat) W => ∃ w8, Below w7.heap.size w7 w8 ∧ OwnS w8 w7.heap.size 138 3 Be.stL (.slice oa8 M.seats.length cap8) (M.seats.set i ⟨0, 0, M.seats[i].u⟩) ∧ W = w8.setCell ⟨rb, 16, none⟩ (.slice oa8 M.seats.length cap8)) ?_
    apply Exists.intro
    apply And.intro
    case left =>
      go_region_law (first
        | (go_simp; go_at_call 80; (with_reducible refine (HRP.out _ (Below.refl _ w7).drew).mono ?_); rintro e w8 ⟨sv, rfl, own8, b8'⟩; have G8 : Hid (Below w7.heap.size w7 w8) := Lib.hid ((Below.refl _ w7).drew.trans b8'); obtain ⟨oa8, cap8, e8⟩ := own8.slice; rw [List.length_set] at e8; subst e8; have H8 := Lib.hid (H7.out.below G8.out); obtain ⟨u11, -, -, u16, -, -⟩ := H8.out.cells2; have OW8 := Lib.hid own8; have yf8 := frozen_at H8.out.box; have lb8 := H8.out.lt; clear own8 b8'))
      all_goals exact ⟨_, _, rfl, _, G8.out, OW8.out, rfl⟩
    case right =>
    rintro oa8 cap8 w9 ⟨w8, g8, ow8, rfl⟩
    have G8 := Lib.hid g8
    have OW8 := Lib.hid ow8
    have H8 := Lib.hid (H7.out.below G8.out)
    clear g8 ow8
    have hsl : (M.seats.set i ⟨0, 0, M.seats[i].u⟩).length = M.seats.length := List.length_set
    have HREP := Lib.hid (repS_at hi)
    generalize hs9 : M.seats.set i ⟨0, 0, M.seats[i].u⟩ = s9 at *
    rw [← hsl] at OW8
    have hgs : ∀ a, oa8 = some a → G0 a.block := fun a e => HG0.out _ (by
      have h1 := (OW8.out.1.lt a.block (by rw [e]; rfl)).1
      omega)
    have HF := Lib.hid (H8.out.setS (s' := s9) ⟨OW8.out.1.mono (Nat.zero_le _), OW8.out.2⟩ hgs)
    have k9 : Keeps (ROwn rb p) w7 (w8.setCell ⟨rb, 16, none⟩ (.slice oa8 s9.length cap8)) := (Keeps.of_below (F := ROwn rb p) G8.out).setCell (a := ⟨rb, 16, none⟩) (.inl (.inl rfl)) _
    have K9 := Lib.hid (K7.out.trans k9)
    have o9 := robj_own HH.out k9 (Nat.le_refl _) O7.out
    have t9 := robj_own HH.out k9 htb T7.out
    rw [hsl] at HF K9 o9 t9
    clear hs9 k9 hgs H8 OW8 HRP b6 b7 b8 b9 b10 c11 c16 lb7 O7 T7 K7
    generalize (w8.setCell ⟨rb, 16, none⟩ (.slice oa8 M.seats.length cap8)) = w9 at *
    have z9 := lt_of_obj o9
    have zt9 := lt_of_obj t9
    have oo : obj (putObj w9 w.heap.size (.cells #[.int .i64 ai, .int .i64 an, .int .i64 ak] 66)) w.heap.size = some (.cells #[.int .i64 ai, .int .i64 an, .int .i64 ak] 66 (0, 0)) := obj_putObj_eq _ _ _ z9
    have y0 := cell_at oo 0
    have y1 := cell_at oo 1
    have y2 := cell_at oo 2
    simp only [List.getElem?_toArray, List.getElem?_cons_zero, List.getElem?_cons_succ] at y0 y1 y2
    have FIN := Lib.hid ((HF.out.putFresh HNG.out (.cells #[.int .i64 ai, .int .i64 an, .int .i64 ak] 66)).widen fun n hn _ => HGG.out n hn)
    have KF := Lib.hid (keepsPut K9.out (Nat.le_refl w.heap.size) (.cells #[.int .i64 ai, .int .i64 an, .int .i64 ak] 66))
    clear oo HF
    go_wp2_with fail
    refine bodyPost_ret (v := .tuple #[.agg #[.int .i64 ai, .int .i64 an, .int .i64 ak], .int .i64 0]) (by simp [results, Tryz.results36, go_sem, y0, y1, y2]) rfl ⟨by rw [HR.out]; rfl, ⟨{ p with sa := oa8, sc := cap8 }, (by rw [HR.out, HREP.out]; exact FIN.out.setAsked _), rfl, rfl⟩, KF.out⟩)
end Go.Proofs.YtagpclgappcnbaaGreat
