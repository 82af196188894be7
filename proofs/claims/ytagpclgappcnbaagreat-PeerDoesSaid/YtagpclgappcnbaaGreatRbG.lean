import Derived.Test.YtagpclgappcnbaaGreatMrg
import Derived.Test.YtagpclgappcnbaaGreatRbF
import Derived.WalkMore
namespace Go.Proofs.YtagpclgappcnbaaGreat
open Go.RowKit

/-! ### Tick, walked -/
def RTickR (w : World) (G : Nat → Prop) (rb : Nat) (p : RD) (r : PM × List Ak.AskD × Int) (Q : List (Int × Int)) (e : Ending) (w' : World) : Prop :=
  ∃ v, e = .returned (.tuple #[v, .int .i64 r.2.2]) ∧ OwnS w' w.heap.size 66 3 akL v r.2.1 ∧ (∃ p', RefP w' (GX G v) rb p' r.1 Q ∧ p'.ra = p.ra ∧ p'.rh = p.rh) ∧ Keeps (ROwn rb p) w w'
set_option maxRecDepth 100000 in
set_option maxHeartbeats 4000000 in
theorem rtick_any (w : World) (G : Nat → Prop) (rb : Nat) (p : RD) (M : PM) (Q : List (Int × Int)) (now : Int) (h : RefP w G rb p M Q) (hI : PInv M) (hR : RI M Q) (hQ : Q.length ≤ 100000) (hN : ∀ x ∈ M.l, x.name.size ≤ 300) (hG : ∀ n, w.heap.size ≤ n → G n) :
    Calls Tryz.prog 37 #[.pointer (some ⟨rb, 0, none⟩), .int .i64 now] w (RTickR w G rb p (tickP M now) Q) := by
  have HH := Lib.hid h
  have H0 : Hid (∀ n, ROwn rb p n → n < w.heap.size) := Lib.hid (fun n hn => by
    have h1 := h.lt
    have h2 := h.a.lt
    have h3 := h.h.lt
    rcases hn with e | e | e <;> omega)
  have HI := Lib.hid hI
  have HRI := Lib.hid hR
  have HN := Lib.hid hN
  have HG := Lib.hid hG
  have HC := Lib.hid (rcomes_any w G rb p M Q now h)
  have HP0 : Hid (comesE M now ≠ 0 → tickP M now = (M, [], comesE M now)) := Lib.hid (fun h => by unfold tickP; rw [if_pos h])
  have HP1 : Hid (comesE M now = 0 → tickP M now = (tickF { M with now := now, W := Al.leftL now M.W } (Al.dueL now M.W), outF { M with now := now, W := Al.leftL now M.W } (Al.dueL now M.W), 0)) := Lib.hid (fun h => by unfold tickP; rw [if_neg (fun hh => hh h)])
  have HDL : Hid ((Al.dueL now M.W).length ≤ 4096) := Lib.hid (by have h1 := wlen_le hI; have h2 := congrArg List.length (Al.due_left now M.W); rw [List.length_append] at h2; omega)
  have HPW : Hid (comesE M now = 0 → PInvW { M with now := now, W := Al.leftL now M.W } (Al.dueL now M.W ++ Al.leftL now M.W)) := Lib.hid (fun h => hI.tick0 h)
  have HSM : Hid (∀ x ∈ Al.dueL now M.W, aGet x.2 Q = aGet x.2 M.asked) := Lib.hid (fun x hx => hR.same x.2 (by
    rw [hI.keys]
    have hm : x ∈ M.W := by rw [← Al.due_left now M.W]; exact List.mem_append_left _ hx
    unfold Al.hasK
    rw [List.any_eq_true]
    exact ⟨x, hm, by simp⟩))
  have hbw := h.lt
  generalize tickP M now = R at *
  clear h hI hR hN hG
  go_enter Tryz.func37, Tryz.ntmps37
  go_wp2_with fail
  refine HC.out.mono ?_
  rintro e w1 ⟨rfl, h1, k1⟩
  have K1 : Hid (Keeps (ROwn rb p) w w1) := Lib.hid (k1.mono fun n hn => .inl hn)
  have H1 := Lib.hid h1
  clear h1 k1 HC
  by_cases hE : comesE M now = 0
  case neg =>
    have HR := Lib.hid (HP0.out hE)
    have HM1 : Hid (comesM M now = M) := Lib.hid (by unfold comesM; rw [if_neg hE])
    rw [HM1.out] at H1
    generalize comesE M now = E at *
    go_wp2_with fail
    refine bodyPost_ret (v := .tuple #[.slice none 0 0, .int .i64 E]) (by simp [results, Tryz.results37, go_sem]) rfl ⟨_, by rw [HR.out], by rw [HR.out]; exact OwnS.nil _ _ _ _ _, ⟨p, (by rw [HR.out]; exact H1.out.widen fun n hn _ => ⟨hn, fun e => by cases e⟩), rfl, rfl⟩, K1.out⟩
  have HM1 : Hid (comesM M now = { M with now := now }) := Lib.hid (by unfold comesM; rw [if_pos hE])
  have HR := Lib.hid (HP1.out hE)
  have HPI := Lib.hid (HPW.out hE)
  have HNOW : Hid (0 ≤ now ∧ now ≤ 4611686018427387903) := Lib.hid ⟨HPI.out.now0, HPI.out.now1⟩
  rw [HM1.out] at H1
  rw [hE]
  clear hE HM1 HP0 HP1 HPW
  obtain ⟨-, -, c13, -, -, -⟩ := H1.out.cells2
  have lb1 := H1.out.lt
  have HD := Lib.hid (Al.dueR w1 G p.rh M.W now H1.out.h (wlen_le HI.out) (fun n hn => HG.out n (by have := K1.out.size; omega)))
  go_wp2_with fail
  refine HD.out.mono ?_
  rintro e w2 ⟨⟨dv, rfl, own2⟩, hp2, k2⟩
  have K2 : Hid (Keeps (ROwn rb p) w w2) := Lib.hid (K1.out.trans (k2.mono fun n hn => .inr (.inr hn)))
  have H2 : Hid (RefP w2 G rb p { M with now := now, W := Al.leftL now M.W } Q) := Lib.hid (H1.out.setH hp2 k2)
  have HDV : Hid (OwnS w2 w.heap.size 114 2 Al.alL dv (Al.dueL now M.W)) := Lib.hid (by
    have hz := K1.out.size
    exact ⟨own2.1.mono hz, own2.2⟩)
  obtain ⟨oad, capd, rfl⟩ := own2.slice
  have TR0 : Hid (TR w G rb p (Al.dueL now M.W) (.slice oad (Al.dueL now M.W).length capd) Q w2 p { M with now := now, W := Al.leftL now M.W } (.slice none 0 0) []) := Lib.hid ⟨H2.out.widen fun n hn _ => ⟨hn, fun e => by cases e⟩, ⟨rfl, rfl⟩, K2.out, HDV.out, OwnS.nil _ _ _ _ _⟩
  have HM0 : Hid (({ M with now := now, W := Al.leftL now M.W } : PM).now = now ∧ ({ M with now := now, W := Al.leftL now M.W } : PM).l = M.l ∧ ({ M with now := now, W := Al.leftL now M.W } : PM).cfg = M.cfg) := Lib.hid ⟨rfl, rfl, rfl⟩
  have HRS : Hid (Ak.RiseL ({ M with now := now, W := Al.leftL now M.W } : PM).A.L) := Lib.hid HRI.out.rise
  have HSM0 : Hid (∀ x ∈ Al.dueL now M.W, aGet x.2 Q = aGet x.2 ({ M with now := now, W := Al.leftL now M.W } : PM).asked) := Lib.hid HSM.out
  clear own2 hp2 k2 HD H1 H2 HDV K1 K2 c13 lb1 HSM HRI
  generalize ({ M with now := now, W := Al.leftL now M.W } : PM) = M0 at *
  generalize Al.leftL now M.W = U at *
  generalize Al.dueL now M.W = D at *
  have hdl := HDL.out
  go_wp2_with fail
  go_loopw [7, 9, 10, 11] (fun v7 v9 _ _ wr => ∃ (k : Nat) (Mk : PM) (pk : RD) (outk : List Ak.AskD), k ≤ D.length ∧ v9 = .int .i64 k ∧ Hid (TR w G rb p D (.slice oad D.length capd) Q wr pk Mk v7 outk) ∧ Hid (tickF Mk (D.drop k) = R.1 ∧ outk ++ outF Mk (D.drop k) = R.2.1) ∧ Hid (PInvW Mk (D.drop k ++ U) ∧ Ak.RiseL Mk.A.L ∧ (∀ x ∈ D.drop k, aGet x.2 Q = aGet x.2 Mk.asked)) ∧ Hid (Mk.now = now ∧ Mk.l = M.l ∧ Mk.cfg = M.cfg) ∧ Hid (outk.length = k)) (fun _ i _ _ _ => D.length - (intOf i).toNat)
  case atStart => exact ⟨0, M0, p, [], Nat.zero_le _, rfl, TR0, Lib.hid ⟨by rw [HR.out]; rfl, by rw [HR.out]; rfl⟩, Lib.hid ⟨HPI.out, HRS.out, HSM0.out⟩, HM0, Lib.hid rfl⟩
  case round =>
    obtain ⟨k, Mk, pk, outk, hk, rfl, HT, HF, HP, HMk, HO⟩ := hrel
    obtain ⟨oa7, cap7, e7⟩ := HT.out.os.slice
    subst e7
    by_cases hlt : k < D.length
    case neg =>
      obtain rfl : D.length = k := by omega
      have HFF := HF.out
      rw [List.drop_length] at HFF
      obtain ⟨f1, f2⟩ := HFF
      have FIN : Hid (R.2.2 = 0 ∧ outk = R.2.1 ∧ Mk = R.1) := Lib.hid ⟨by rw [HR.out], by rw [← f2]; simp [outF], by rw [← f1]; rfl⟩
      have hkk : ¬ (D.length : Int) < D.length := by omega
      clear f1 f2 HF HO
      go_wp2_with fail
      refine bodyPost_ret (v := .tuple #[.slice oa7 outk.length cap7, .int .i64 0]) (by simp [results, Tryz.results37, go_sem]) rfl ⟨_, by rw [FIN.out.1], by rw [← FIN.out.2.1]; exact HT.out.os, ⟨pk, (by rw [← FIN.out.2.2]; exact HT.out.at_), HT.out.sp.1, HT.out.sp.2⟩, HT.out.kp⟩
    obtain ⟨b0, off, rfl, hbb, hrow⟩ := sl_row (HT.out.ds.slIn Al.alL_length) (by omega)
    have hs := hrow k hlt
    have hdk : D.drop k = D[k] :: D.drop (k + 1) := List.drop_eq_getElem_cons hlt
    obtain ⟨hf1, hf2⟩ := HF.out
    obtain ⟨hp1, hp2, hp3⟩ := HP.out
    rw [hdk] at hf1 hf2 hp1 hp3
    clear hrow hdk
    generalize D[k] = x at *
    obtain ⟨xt, xk⟩ := x
    have hp1' : PInvW Mk ((xt, xk) :: (D.drop (k + 1) ++ U)) := hp1
    obtain ⟨rd, pin, eid, -⟩ := PInvW.tickA hp1'
    have RD := Lib.hid rd
    have PIN := Lib.hid pin
    have STP := Lib.hid (tick_step hp1')
    have PK := Lib.hid hp1'
    have RSE := Lib.hid (rise_exp hp2 xk)
    have RKK := Lib.hid (rk_of hp1' hp2)
    have SX : Hid (aGet xk Q = aGet xk Mk.asked) := Lib.hid (hp3 (xt, xk) List.mem_cons_self)
    have SN : Hid (∀ y ∈ D.drop (k + 1), aGet y.2 Q = aGet y.2 (aDel xk Mk.asked)) := Lib.hid (fun y hy => by
      have hne : y.2 ≠ xk := fun e => by
        have hw := hp1'.wk
        unfold Al.keysL at hw
        rw [List.map_cons, List.nodup_cons] at hw
        exact hw.1 (List.mem_map.2 ⟨y, List.mem_append_left _ hy, e⟩)
      rw [get_del_ne hne]
      exact hp3 y (List.mem_cons_of_mem _ hy))
    have c1 : wr.cell? ⟨b0, off + k * 2 + 1, none⟩ = some (.int .i64 xk) := by have := subOf_cell hs (j := 1) (by decide); simpa [Al.alL] using this
    have R1 : Hid (tickF (tickA Mk (xt, xk)) (D.drop (k + 1)) = R.1) := Lib.hid hf1
    have R2 : Hid (outk ++ (Ak.expA Mk.A xk :: outF (tickA Mk (xt, xk)) (D.drop (k + 1))) = R.2.1) := Lib.hid hf2
    have hki : (k : Int) < D.length := by omega
    have HE0 : Hid (Ak.expE Mk.A xk = 0) := Lib.hid (by unfold Ak.expE; rw [if_pos RD.out.got])
    have HMA : Hid (tickA Mk (xt, xk) = { tookM { Mk with A := Ak.expS Mk.A xk } (Ak.expA Mk.A xk).id with seats := Be.stepF Mk.cfg.q Mk.l Mk.seats (Ak.expA Mk.A xk).node.toNat Mk.now }) := Lib.hid rfl
    have HMN : Hid (tickA Mk (xt, xk) = { Mk with A := Ak.expS Mk.A xk, wait := (tookO { Mk with A := Ak.expS Mk.A xk } (Ak.expA Mk.A xk).id).1, asked := aDel (Ak.expA Mk.A xk).id Mk.asked, seats := Be.stepF Mk.cfg.q Mk.l Mk.seats (Ak.expA Mk.A xk).node.toNat Mk.now }) := Lib.hid (by unfold tickA tookM; rw [if_pos STP.out])
    have BT : Hid (b0 < wr.heap.size ∧ b0 ≠ pk.ra) := Lib.hid ⟨hbb, fun e => by
      have h1 := (HT.out.ds.1.lt b0 rfl).1
      have h2 := H0.out p.ra (.inr (.inl rfl))
      have h3 := HT.out.sp.1
      omega⟩
    have HX := Lib.hid (fun W (hW : Below wr.heap.size wr W) => Ak.ref_exp_all W (GX G (.slice oa7 outk.length cap7)) pk.ra Mk.A xk (HT.out.at_.below hW).a RKK.out RD.out.exp (fun n hn => HT.out.hG HG.out n (by have := hW.size; omega)))
    have HT2 : Hid (RefP wr (fun n => GX G (.slice oa7 outk.length cap7) n ∧ n ≠ wr.heap.size) rb pk Mk Q) := Lib.hid (HT.out.at_.widen fun n hn hl => ⟨hn, by omega⟩)
    have HX2 := Lib.hid (fun W (hW : Below wr.heap.size wr W) (hz : wr.heap.size + 1 ≤ W.heap.size) => Ak.ref_exp_all W (fun n => GX G (.slice oa7 outk.length cap7) n ∧ n ≠ wr.heap.size) pk.ra Mk.A xk (HT2.out.below hW).a RKK.out RD.out.exp (fun n hn => ⟨HT.out.hG HG.out n (by omega), by omega⟩))
    have EID := Lib.hid eid
    have RDN := Lib.hid (And.intro RD.out.n0 RD.out.n1)
    rw [HE0.out] at HX HX2
    simp only at RDN EID RSE STP
    clear hf1 hf2 hp1 hp2 hp3 hp1' rd pin eid HF HP hs
    generalize tickA Mk (xt, xk) = MN at *
    generalize Ak.expS Mk.A xk = A2 at *
    generalize Ak.expA Mk.A xk = ax at *
    obtain ⟨ai, an, ak⟩ := ax
    simp only at EID
    obtain rfl := EID.out
    unfold Ak.akV at HX HX2
    simp only at HX HX2 HMA RDN STP HMN
    obtain ⟨-, c12, -, -, -, -⟩ := HT.out.at_.cells2
    have lbr := HT.out.at_.lt
    have HRA : Hid (pk.ra < wr.heap.size) := Lib.hid HT.out.at_.a.lt
    have SK : Hid (∀ W, Keeps (fun n => n = pk.ra) wr W → W.cell? ⟨rb, 12, none⟩ = some (.pointer (some ⟨pk.ra, 0, none⟩)) ∧ W.cell? ⟨b0, off + k * 2 + 1, none⟩ = some (.int .i64 ai)) := Lib.hid (fun W hk => by
      obtain ⟨n1, n2, n3⟩ := HT.out.at_.ne
      exact ⟨(World.cell?_of_block (a := ⟨rb, 12, none⟩) (hk.block _ HT.out.at_.lt n1)).trans HT.out.at_.cells2.2.1, (World.cell?_of_block (a := ⟨b0, off + k * 2 + 1, none⟩) (hk.block _ BT.out.1 BT.out.2)).trans c1⟩)
    go_wp2_with fail
    refine region_merge1 (fun (tb : Nat) W => TR w G rb p D (.slice (some ⟨b0, off, none⟩) D.length capd) Q W pk { Mk with A := A2 } (.slice oa7 outk.length cap7) outk ∧ obj W tb = some (.cells #[.int .i64 ai, .int .i64 an, .int .i64 ak] 66 (0, 0)) ∧ w.heap.size ≤ tb) ?_
    apply Exists.intro
    apply And.intro
    case left =>
      go_region_held3 (fun W => W.cell? ⟨rb, 12, none⟩ = some (.pointer (some ⟨pk.ra, 0, none⟩)) ∧ W.cell? ⟨b0, off + k * 2 + 1, none⟩ = some (.int .i64 ai))
        (first | exact ⟨c12, c1⟩ | assumption | ((try dsimp only); refine SK.out _ ?_; repeat (first | exact k3 | exact Keeps.refl _ _ | refine Keeps.alloc ?_ _ | refine Keeps.drew ?_ | (refine keepsPut ?_ (by first | exact k3.size | exact Nat.le_refl _) _))))
        (first
          | (go_at_call 74; (with_reducible refine (HX2.out _ (by repeat (first | exact Below.refl _ _ | refine below_alloc' ?_ | refine Below.drew ?_)) (by simp; done)).mono ?_); rintro e w3 ⟨rfl, a1, a3⟩; have k3 : Keeps (fun n => n = pk.ra) wr w3 := (by refine Keeps.trans (Keeps.of_below ?_) a3; repeat (first | exact Below.refl _ _ | refine below_alloc' ?_ | refine Below.drew ?_)); have s3 := SK.out w3 k3; have hz3 := k3.size; have R3 := Lib.hid ((HT2.out.below (by repeat (first | exact Below.refl _ _ | refine below_alloc' ?_ | refine Below.drew ?_))).setA a1 a3); have ob3 : obj w3 wr.heap.size = some (.cells #[.int .i64 0, .int .i64 0, .int .i64 0] 66 (0, 0)) := (a3.block _ (by simp) (fun e => by have h9 := HRA.out; omega)).trans (obj_alloc_at _ _ _ (by first | rfl | simp)))
          | (go_at_call 74; (with_reducible refine (HX.out _ (by repeat (first | exact Below.refl _ _ | refine below_alloc' ?_ | refine Below.drew ?_))).mono ?_); rintro e w3 ⟨rfl, a1, a3⟩; have k3 : Keeps (fun n => n = pk.ra) wr w3 := (by refine Keeps.trans (Keeps.of_below ?_) a3; repeat (first | exact Below.refl _ _ | refine below_alloc' ?_ | refine Below.drew ?_)); have s3 := SK.out w3 k3; have hz3 := k3.size; have R3 := Lib.hid ((HT.out.at_.below (by repeat (first | exact Below.refl _ _ | refine below_alloc' ?_ | refine Below.drew ?_))).setA a1 a3)))
      all_goals (
        have kr : Keeps (ROwn rb p) wr w3 := k3.mono fun n hn => .inr (.inl (hn.trans HT.out.sp.1))
        first
          | (have b4 : Below w3.heap.size w3 (w3.alloc (.cells #[.int .i64 ai, .int .i64 an, .int .i64 ak] 66)) := (Below.refl _ _).alloc (Nat.le_refl _) _
             have T4 := Lib.hid (HT.out.keeps H0.out (R3.out.below b4) ⟨rfl, rfl⟩ (kr.trans (Keeps.of_below b4)))
             have O4 := Lib.hid (show obj (w3.alloc (.cells #[.int .i64 ai, .int .i64 an, .int .i64 ak] 66)) w3.heap.size = some (.cells #[.int .i64 ai, .int .i64 an, .int .i64 ak] 66 (0, 0)) from obj_alloc_at _ _ _ rfl)
             have ZT : Hid (w.heap.size ≤ w3.heap.size) := Lib.hid (Nat.le_trans HT.out.kp.size hz3)
             generalize w3.alloc (.cells #[.int .i64 ai, .int .i64 an, .int .i64 ak] 66) = W4 at *
             generalize w3.heap.size = tb at *
             exact ⟨tb, rfl, T4.out, O4.out, ZT.out⟩)
          | (have T4 := Lib.hid (HT.out.keeps H0.out ((R3.out.putFresh (fun hh => hh.2 rfl) (.cells #[.int .i64 ai, .int .i64 an, .int .i64 ak] 66)).widen fun n hn _ => hn.1) ⟨rfl, rfl⟩ (keepsPut kr (Nat.le_refl _) (.cells #[.int .i64 ai, .int .i64 an, .int .i64 ak] 66)))
             have O4 := Lib.hid (show obj (putObj w3 wr.heap.size (.cells #[.int .i64 ai, .int .i64 an, .int .i64 ak] 66)) wr.heap.size = some (.cells #[.int .i64 ai, .int .i64 an, .int .i64 ak] 66 (0, 0)) from obj_putObj_eq _ _ _ (lt_of_obj ob3))
             have ZT : Hid (w.heap.size ≤ wr.heap.size) := Lib.hid HT.out.kp.size
             generalize putObj w3 wr.heap.size (.cells #[.int .i64 ai, .int .i64 an, .int .i64 ak] 66) = W4 at *
             generalize wr.heap.size = tb at *
             exact ⟨tb, rfl, T4.out, O4.out, ZT.out⟩))
    case right =>
    rintro tb W4 ⟨t4, o4, z4⟩
    have T4 := Lib.hid t4
    have O4 := Lib.hid o4
    have ZT := Lib.hid z4
    clear t4 o4 z4
    (
      clear HX HX2 HT2 SK c12 c1 hbb lbr BT HMA HT HRA
      have HV0 : Hid (tookO { Mk with A := A2 } ai = Me.obsR Mk.cfg.r Mk.wait (IntKind.i64.wrap (now - (aGet ai Q).getD 0)) now) := Lib.hid (by rw [SX.out, ← HMk.out.1]; rfl)
      have HST := Lib.hid (fun W (hW : Below W4.heap.size W4 W) => start_any W _ rb pk _ Q ai (T4.out.at_.below hW) hQ)
      have HOB := Lib.hid (fun W => Me.robs_any Mk.cfg.r Mk.wait (IntKind.i64.wrap (now - (aGet ai Q).getD 0)) now W)
      rw [← HV0.out] at HOB
      generalize tookO { Mk with A := A2 } ai = o at *
      obtain ⟨⟨ov, oa⟩, oe⟩ := o
      have e0 := STP.out
      simp only at e0
      subst e0
      clear HV0 STP
      generalize (aGet ai Q).getD 0 = V at *
      unfold Me.ruleV Me.meanV at HOB
      simp only at HOB
      obtain ⟨i, rfl⟩ : ∃ i : Nat, an = i := ⟨an.toNat, by have := RDN.out.1; omega⟩
      have hi : i < Mk.seats.length := by have := RDN.out.2; omega
      obtain ⟨c1, c2, c3, c4, c5, c14, c15⟩ := T4.out.at_.cells
      simp only at c1 c2 c3 c4 c5 c14 c15
      have lb4 := T4.out.at_.lt
      have t0 : W4.cell? ⟨tb, 0, none⟩ = some (.int .i64 ai) := cell_at O4.out 0
      have lt4 := lt_of_obj O4.out
      have hbt : rb ≠ tb := by have h1 := H0.out rb (.inl rfl); have h2 := ZT.out; omega
      go_wp2_with fail
      generalize hdif : IntKind.i64.wrap (now - V) = dif at *
      refine region_merge (fun W => ∃ w6, Below W4.heap.size W4 w6 ∧ W = (w6.setCell ⟨rb, 14, none⟩ (.int .i64 ov)).setCell ⟨rb, 15, none⟩ (.int .i64 oa)) ?_
      apply Exists.intro
      apply And.intro
      case left =>
        go_region_law (first
          | (go_simp; go_at_call 79; (with_reducible refine (HST.out _ (Below.refl _ W4).drew).mono ?_); rintro e w5 ⟨rfl, rfl⟩)
          | (go_simp; go_at_call 78; (with_reducible refine (HOB.out _).mono ?_); rintro e w6 ⟨rfl, b6⟩; have G6 : Hid (Below W4.heap.size W4 w6) := Lib.hid ((Below.refl _ W4).drew.trans b6); have H6 := Lib.hid (T4.out.at_.below G6.out); have s6 := H6.out.cells; obtain ⟨s1, s2, s3, s4, s5, s14, s15⟩ := s6; have yf6 := frozen_at H6.out.box; have lb6 := H6.out.lt; have t6 : w6.cell? ⟨tb, 0, none⟩ = some (.int .i64 ai) := (G6.out.cell (p := ⟨tb, 0, none⟩) lt4).trans t0; clear b6))
        all_goals exact ⟨rfl, _, G6.out, rfl⟩
      case right =>
      rintro w7 ⟨w6, g6, rfl⟩
      have G6 := Lib.hid g6
      have H6 := Lib.hid (T4.out.at_.below G6.out)
      clear g6
      (
        have k7 : Keeps (ROwn rb p) W4 ((w6.setCell ⟨rb, 14, none⟩ (.int .i64 ov)).setCell ⟨rb, 15, none⟩ (.int .i64 oa)) := (((Keeps.of_below (F := ROwn rb p) G6.out).setCell (a := ⟨rb, 14, none⟩) (.inl (.inl rfl)) _).setCell (a := ⟨rb, 15, none⟩) (.inl (.inl rfl)) _)
        have T7 := Lib.hid (T4.out.keeps H0.out (H6.out.setWait ⟨ov, oa⟩) ⟨rfl, rfl⟩ k7)
        have O7 := Lib.hid (TR.kept H0.out k7 ZT.out O4.out)
        clear c1 c2 c3 c4 c5 c14 c15 lb4 k7 H6 G6 t0 lt4 HST HOB T4 O4
        generalize ((w6.setCell ⟨rb, 14, none⟩ (.int .i64 ov)).setCell ⟨rb, 15, none⟩ (.int .i64 oa)) = w7 at *
        simp only at T7
        obtain ⟨b6, b7, b8, b9, b10⟩ := T7.out.at_.bench
        obtain ⟨c11, -, -, c16, -, -⟩ := T7.out.at_.cells2
        simp only at b6 b7 b8 b9 b10 c11 c16
        have lb7 := T7.out.at_.lt
        have t1 : w7.cell? ⟨tb, 1, none⟩ = some (.int .i64 i) := cell_at O7.out 1
        have lt7 := lt_of_obj O7.out
        have HRP := Lib.hid (fun W (hW : Below w7.heap.size w7 W) => rfail_all W Mk.cfg.q (.slice pk.la Mk.l.length pk.lc) (.slice pk.sa Mk.seats.length pk.sc) Mk.l Mk.seats i now ((T7.out.at_.l.slIn Be.vdL_length).below hW) ((T7.out.at_.s.slIn Be.stL_length).below hW) (fun x hx => HN.out x (by rw [← HMk.out.2.1]; exact hx)) RD.out.may hi HNOW.out.1 HNOW.out.2 RD.out.de)
        unfold Be.ruV at HRP
        go_wp2_with fail
        refine region_merge3 (fun (oa8 : Option Addr) (cap8 : Nat) (bb : Bool) W => ∃ w8, Below w7.heap.size w7 w8 ∧ OwnS w8 w7.drew.heap.size 138 3 Be.stL (.slice oa8 Mk.seats.length cap8) (Be.stepF Mk.cfg.q Mk.l Mk.seats i now) ∧ W = w8.setCell ⟨rb, 16, none⟩ (.slice oa8 Mk.seats.length cap8)) ?_
        apply Exists.intro
        apply And.intro
        case left =>
          go_region_law (first
            | (go_simp; go_at_call 82; (with_reducible refine (HRP.out _ (Below.refl _ w7).drew).mono ?_); rintro e w8 ⟨sv, bb, rfl, own8, b8'⟩; have G8 : Hid (Below w7.heap.size w7 w8) := Lib.hid ((Below.refl _ w7).drew.trans b8'); obtain ⟨oa8, cap8, e8⟩ := own8.slice; rw [stepF_len] at e8; subst e8; have H8 := Lib.hid (T7.out.at_.below G8.out); obtain ⟨u6, u7, u8, u9, u10⟩ := H8.out.bench; obtain ⟨u11, -, -, u16, -, -⟩ := H8.out.cells2; have OW8 := Lib.hid own8; have yf8 := frozen_at H8.out.box; have lb8 := H8.out.lt; have t8 : w8.cell? ⟨tb, 1, none⟩ = some (.int .i64 i) := (G8.out.cell (p := ⟨tb, 1, none⟩) lt7).trans t1; clear own8 b8'))
          all_goals exact ⟨oa8, cap8, bb, rfl, _, G8.out, OW8.out, rfl⟩
        case right =>
        rintro oa8 cap8 bb w9 ⟨w8, g8, ow8, rfl⟩
        have G8 := Lib.hid g8
        have OW8 := Lib.hid ow8
        have H8 := Lib.hid (T7.out.at_.below G8.out)
        clear g8 ow8
        have hsl : (Be.stepF Mk.cfg.q Mk.l Mk.seats i now).length = Mk.seats.length := stepF_len _ _ _ _ _
        have hgs : ∀ a, oa8 = some a → GX G (.slice oa7 outk.length cap7) a.block := fun a e => T7.out.hG HG.out _ (by
          have h1 := (OW8.out.1.lt a.block (by rw [e]; rfl)).1
          have h2 : w7.drew.heap.size = w7.heap.size := rfl
          omega)
        generalize hs9 : Be.stepF Mk.cfg.q Mk.l Mk.seats i now = s9 at *
        rw [← hsl] at OW8
        have HF9 := H8.out.setS (s' := s9) ⟨OW8.out.1.mono (Nat.zero_le _), OW8.out.2⟩ hgs
        have k9 : Keeps (ROwn rb p) w7 (w8.setCell ⟨rb, 16, none⟩ (.slice oa8 s9.length cap8)) := (Keeps.of_below (F := ROwn rb p) G8.out).setCell (a := ⟨rb, 16, none⟩) (.inl (.inl rfl)) _
        have T9 := Lib.hid (T7.out.keeps H0.out HF9 ⟨rfl, rfl⟩ k9)
        have O9 := TR.kept H0.out k9 ZT.out O7.out
        have HMN9 : Hid (MN = { Mk with A := A2, wait := ⟨ov, oa⟩, asked := aDel ai Mk.asked, seats := s9 }) := Lib.hid (by rw [HMN.out, ← hs9, HMk.out.1]; rfl)
        rw [hsl] at T9 O9
        clear hsl hgs HF9 k9 hs9 H8 OW8 G8 HRP b6 b7 b8 b9 b10 c11 c16 lb7 O7 T7 t1 lt7 HMN
        generalize (w8.setCell ⟨rb, 16, none⟩ (.slice oa8 Mk.seats.length cap8)) = w9 at *
        have hrow := hide_row50 ⟨ai, i, ak⟩ w9
        simp only at hrow
        have lt9 := lt_of_obj O9
        have TT := Lib.hid (T9.out.below ((Below.refl _ w9).alloc (Nat.le_refl _) (.cells #[.int .i64 ai, .int .i64 i, .int .i64 ak] 66)))
        have HG9 : Hid (obj (w9.alloc (.cells #[.int .i64 ai, .int .i64 i, .int .i64 ak] 66)) w9.heap.size = some (.cells #[.int .i64 ai, .int .i64 i, .int .i64 ak] 66 (0, 0))) := Lib.hid (obj_alloc_at _ _ _ rfl)
        have HOL : Hid (outk.length ≤ 1048576) := Lib.hid (by have := HO.out; omega)
        have HZ9 : Hid (w.heap.size ≤ (w9.alloc (.cells #[.int .i64 ai, .int .i64 i, .int .i64 ak] 66)).heap.size) := Lib.hid TT.out.kp.size
        go_wp2_with (at_builtin; refine push50at rfl _ _ rfl w.heap.size (.slice oa7 outk.length cap7) outk ⟨ai, i, ak⟩ rfl TT.out.os w9.heap.size rfl HG9.out HOL.out HZ9.out ?_; intro v9 W9 q1 q2 q3 q4)
        have T11 := Lib.hid (TT.out.push q1 q2 q3 q4)
        clear hrow lt9 TT HG9 HZ9 O9 T9 q1 q2 q3 q4
        go_wp2_with fail
        go_roundw
        case rel => exact ⟨k + 1, MN, _, outk ++ [⟨ai, i, ak⟩], hlt, by go_num, Lib.hid (by rw [HMN9.out]; exact ⟨T11.out.at_.setAsked _, T11.out.sp, T11.out.kp, T11.out.ds, T11.out.os⟩), Lib.hid ⟨R1.out, by rw [List.append_assoc]; exact R2.out⟩, Lib.hid ⟨PIN.out, by rw [HMN9.out]; exact RSE.out, by rw [HMN9.out]; exact SN.out⟩, Lib.hid (by rw [HMN9.out]; exact HMk.out), Lib.hid (by rw [List.length_append, HO.out]; rfl)⟩
        case measure => first | exact meas_step' hlt | (simp [intOf]; omega)))
end Go.Proofs.YtagpclgappcnbaaGreat
