import Derived.Test.YtagpclgappcnbaaGreatRbX
import Derived.Test.YtagpclgappcnbaaGreatBkVV
import Derived.Test.YtagpclgappcnbaaGreatBeR
namespace Go.Proofs.YtagpclgappcnbaaGreat
open Go.RowKit

/-! ### what the two books say alike of the starts -/
structure RI (M : PM) (Q : List (Int × Int)) : Prop where
  rise : Ak.RiseL M.A.L
  same : ∀ id, (aGet id M.A.L).isSome = true → aGet id Q = aGet id M.asked
  old : ∀ x ∈ Q, x.1 ≤ M.A.last
  nd : (M.asked.map (·.1)).Nodup
theorem RI.rk {M : PM} {Q : List (Int × Int)} (h : RI M Q) (hI : PInv M) : Ak.RK M.A :=
  ⟨h.rise, fun x hx => (hI.node x hx).2.2.2, by have := hI.room; have := hI.len; omega⟩
theorem wlen_le {M : PM} (hI : PInv M) : M.W.length ≤ 4096 := by
  have := PInvW.wlen hI
  have := hI.room
  have := hI.len
  omega
theorem RefP.setAsked {w : World} {G : Nat → Prop} {rb : Nat} {p : RD} {M : PM} {Q : List (Int × Int)} (h : RefP w G rb p M Q) (q : List (Int × Int)) : RefP w G rb p { M with asked := q } Q :=
  ⟨h.box, h.a, h.h, h.l, h.s, h.q, h.gb, h.ga, h.gh, h.gl, h.gs, h.gq⟩
theorem RefP.cells {w : World} {G : Nat → Prop} {rb : Nat} {p : RD} {M : PM} {Q : List (Int × Int)} (h : RefP w G rb p M Q) : w.cell? ⟨rb, 1, none⟩ = some (.int .i64 M.cfg.r.first) ∧ w.cell? ⟨rb, 2, none⟩ = some (.int .i64 M.cfg.r.min) ∧ w.cell? ⟨rb, 3, none⟩ = some (.int .i64 M.cfg.r.max) ∧ w.cell? ⟨rb, 4, none⟩ = some (.int .i64 M.cfg.r.half) ∧ w.cell? ⟨rb, 5, none⟩ = some (.int .i64 M.cfg.r.quart) ∧
    w.cell? ⟨rb, 14, none⟩ = some (.int .i64 M.wait.value) ∧ w.cell? ⟨rb, 15, none⟩ = some (.int .i64 M.wait.at_) :=
  ⟨cell_at h.box 1, cell_at h.box 2, cell_at h.box 3, cell_at h.box 4, cell_at h.box 5, cell_at h.box 14, cell_at h.box 15⟩
theorem RefP.cells2 {w : World} {G : Nat → Prop} {rb : Nat} {p : RD} {M : PM} {Q : List (Int × Int)} (h : RefP w G rb p M Q) : w.cell? ⟨rb, 11, none⟩ = some (.slice p.la M.l.length p.lc) ∧ w.cell? ⟨rb, 12, none⟩ = some (.pointer (some ⟨p.ra, 0, none⟩)) ∧ w.cell? ⟨rb, 13, none⟩ = some (.pointer (some ⟨p.rh, 0, none⟩)) ∧ w.cell? ⟨rb, 16, none⟩ = some (.slice p.sa M.seats.length p.sc) ∧ w.cell? ⟨rb, 17, none⟩ = some (.int .i64 M.now) ∧ w.cell? ⟨rb, 18, none⟩ = some (.slice p.qa Q.length p.qc) :=
  ⟨cell_at h.box 11, cell_at h.box 12, cell_at h.box 13, cell_at h.box 16, cell_at h.box 17, cell_at h.box 18⟩
theorem info131 : (Tryz.prog.info? 131).map (fun i => (i.zero, i.size, i.bytes)) = some (some (.agg #[.int .i64 0, .int .i64 0]), 2, 16) := by kernel_rfl
/-! ### Ask -/
noncomputable def askQ (M : PM) (Q : List (Int × Int)) (v kind now : Int) : List (Int × Int) :=
  if comesE M now ≠ 0 then Q else if v < 0 ∨ (M.l.length : Int) ≤ v then Q else if Ak.askE M.A v kind ≠ 0 then Q else if Be.isB M.seats v now = true then Q else Q ++ [(Ak.askI M.A v kind, now)]
def RAskR (w : World) (G : Nat → Prop) (rb : Nat) (p : RD) (r : PM × Int × Bool × Int) (Q' : List (Int × Int)) (e : Ending) (w' : World) : Prop :=
  e = .returned (.tuple #[.int .i64 r.2.1, .bool r.2.2.1, .int .i64 r.2.2.2]) ∧ (∃ p', RefP w' G rb p' r.1 Q' ∧ p'.ra = p.ra ∧ p'.rh = p.rh) ∧ Keeps (ROwn rb p) w w'
theorem wpList_pushSg {ops : Array Oper} {rest : List Oper} {o : Oper} {a : Act} {w : World} {Q : Exit → Act → World → Prop} (hgd : o.guard = none) (s x : Operand) (ho : o.op = .call { callee := .builtin .append, args := #[s, x], argTypes := #[56, 56] })
    (base : Nat) (v : Value) (xs : List (Int × Int)) (y : Int × Int) (hs : a.eval s = v) (hown : OwnS w base 131 2 sgL v xs) (g : Nat) (hx : a.eval x = .slice (some ⟨g, 0, none⟩) 1 1) (hg : obj w g = some (.cells #[.int .i64 y.1, .int .i64 y.2] 131 (0, 0)))
    (hlen : xs.length ≤ 1048576) (hbase : base ≤ w.heap.size)
    (h : ∀ v' w', OwnS w' base 131 2 sgL v' (xs ++ [y]) → Below base w w' → (∀ k, k < w.heap.size → v.ownBlock ≠ some k → obj w' k = obj w k) → wpList Tryz.prog ops Q rest (a.put o.dst v') w') : wpList Tryz.prog ops Q (o :: rest) a w := by
  obtain ⟨i0, hi, hz0, hz1, hz2⟩ := info_parts info131
  exact wpList_push (i := i0) (z := .agg #[.int .i64 0, .int .i64 0]) (bytes := 16) (show Tryz.prog.underlying 56 = some (.slice 131) by kernel_rfl) hi hz0 hz1 hz2 (by simp [Value.cells]) (by decide) sgL sgL_length sgL_one hgd s x ho base v xs y hs hown g hx hg hlen (by decide) hbase h
theorem wpList_allSg {ops : Array Oper} {rest : List Oper} {o : Oper} {a : Act} {w : World} {Q : Exit → Act → World → Prop} (hgd : o.guard = none) (s x : Operand) (ho : o.op = .call { callee := .builtin .append, args := #[s, x], argTypes := #[56, 56] })
    (base : Nat) (v : Value) (xs ys : List (Int × Int)) (hs : a.eval s = v) (hown : OwnS w base 131 2 sgL v xs) (sv : Value) (hx : a.eval x = sv) (hsl : SlIn w sv 2 sgL ys)
    (hlen : xs.length + ys.length ≤ 1048577) (hbase : base ≤ w.heap.size)
    (h : ∀ v' w', OwnS w' base 131 2 sgL v' (xs ++ ys) → Below base w w' → (∀ k, k < w.heap.size → v.ownBlock ≠ some k → obj w' k = obj w k) → wpList Tryz.prog ops Q rest (a.put o.dst v') w') : wpList Tryz.prog ops Q (o :: rest) a w := by
  obtain ⟨i0, hi, hz0, hz1, hz2⟩ := info_parts info131
  exact wpList_pushAll (i := i0) (z := .agg #[.int .i64 0, .int .i64 0]) (bytes := 16) (show Tryz.prog.underlying 56 = some (.slice 131) by kernel_rfl) hi hz0 hz1 hz2 (by simp [Value.cells]) (by decide) sgL_length sgL_one hgd s x ho base v xs ys hs hown sv hx hsl hlen (by decide) hbase h
theorem OwnS.slice_eq {α : Type} {W : World} {base E k : Nat} {enc : α → List Value} {v : Value} {xs : List α} (h : OwnS W base E k enc v xs) : ∃ oa c, v = .slice oa xs.length c ∧ xs.length ≤ c := by
  rcases h.1.2 with ⟨e, h0⟩ | ⟨g, cap, cur, e, _, _, h1, _⟩
  · exact ⟨none, 0, by rw [e, h0], by omega⟩
  · exact ⟨_, _, e, h1⟩
/-- another list of starts -/
theorem RefP.setQ {w : World} {G : Nat → Prop} {rb : Nat} {p : RD} {M : PM} {Q Q' : List (Int × Int)} (h : RefP w G rb p M Q) {oa : Option Addr} {c : Nat} (hq : OwnS w 0 131 2 sgL (.slice oa Q'.length c) Q') (gq : ∀ a, oa = some a → G a.block) :
    RefP (w.setCell ⟨rb, 18, none⟩ (.slice oa Q'.length c)) G rb { p with qa := oa, qc := c } M Q' :=
  h.setBox rfl rfl rfl rfl rfl h.l h.s hq h.gl h.gs gq
set_option maxRecDepth 100000 in
set_option maxHeartbeats 4000000 in
theorem rask_any (w : World) (G : Nat → Prop) (rb : Nat) (p : RD) (M : PM) (Q : List (Int × Int)) (v kind now : Int) (h : RefP w G rb p M Q) (hI : PInv M) (hR : RI M Q) (hQ : Q.length ≤ 100000) (hG : ∀ n, w.heap.size ≤ n → G n) :
    Calls Tryz.prog 35 #[.pointer (some ⟨rb, 0, none⟩), .int .i64 v, .int .i64 kind, .int .i64 now] w (RAskR w G rb p (askP M v kind now) (askQ M Q v kind now)) := by
  have HC := Lib.hid (rcomes_any w G rb p M Q now h)
  have HI := Lib.hid hI
  have HR := Lib.hid hR
  have HG := Lib.hid hG
  have HR0 : Hid (comesE M now ≠ 0 → askP M v kind now = (M, 0, false, comesE M now) ∧ askQ M Q v kind now = Q) := Lib.hid (fun h => by exact ⟨by unfold askP; rw [if_pos h], by unfold askQ; rw [if_pos h]⟩)
  have HR1 : Hid (comesE M now = 0 → (v < 0 ∨ (M.l.length : Int) ≤ v) → askP M v kind now = ({ M with now := now }, 0, false, 4) ∧ askQ M Q v kind now = Q) := Lib.hid (fun h h1 => by exact ⟨by unfold askP; rw [if_neg (fun hh => hh h), if_pos h1], by unfold askQ; rw [if_neg (fun hh => hh h), if_pos h1]⟩)
  have HR2 : Hid (comesE M now = 0 → ¬ (v < 0 ∨ (M.l.length : Int) ≤ v) → Ak.askE M.A v kind ≠ 0 → askP M v kind now = ({ M with now := now, A := Ak.askS M.A v kind }, 0, false, Ak.askE M.A v kind) ∧ askQ M Q v kind now = Q) := Lib.hid (fun h h1 h2 => by exact ⟨by unfold askP; rw [if_neg (fun hh => hh h), if_neg h1, if_pos h2], by unfold askQ; rw [if_neg (fun hh => hh h), if_neg h1, if_pos h2]⟩)
  have HR3 : Hid (comesE M now = 0 → ¬ (v < 0 ∨ (M.l.length : Int) ≤ v) → Ak.askE M.A v kind = 0 → Be.isB M.seats v now = true → askP M v kind now = ({ M with now := now, A := Ak.expS (Ak.askS M.A v kind) (Ak.askI M.A v kind) }, Ak.askI M.A v kind, true, 0) ∧ askQ M Q v kind now = Q) := Lib.hid (fun h h1 h2 h3 => by
    have := (PInvW.askB hI h2).1
    exact ⟨by unfold askP; rw [if_neg (fun hh => hh h), if_neg h1, if_neg (fun hh => hh h2), if_pos h3, this], by unfold askQ; rw [if_neg (fun hh => hh h), if_neg h1, if_neg (fun hh => hh h2), if_pos h3]⟩)
  have HR4 : Hid (comesE M now = 0 → ¬ (v < 0 ∨ (M.l.length : Int) ≤ v) → Ak.askE M.A v kind = 0 → Be.isB M.seats v now = false → askP M v kind now = ({ M with now := now, A := Ak.askS M.A v kind, asked := aPut (Ak.askI M.A v kind) now M.asked, W := Al.pushW M.W (askAt M now) (Ak.askI M.A v kind) }, Ak.askI M.A v kind, false, 0) ∧ askQ M Q v kind now = Q ++ [(Ak.askI M.A v kind, now)]) := Lib.hid (fun h h1 h2 h3 => by
    have hn := PInvW.now hI h
    have h0 : 0 ≤ now := hn.now0
    have h00 : now ≤ 4611686018427387903 := hn.now1
    have hat := askAt_eq hI h0 h00
    have := (PInvW.ask hI h2 (by omega) (t := askAt M now) (by omega) (by omega) []).2.1
    exact ⟨by unfold askP; rw [if_neg (fun hh => hh h), if_neg h1, if_neg (fun hh => hh h2), if_neg (by rw [h3]; decide), this], by unfold askQ; rw [if_neg (fun hh => hh h), if_neg h1, if_neg (fun hh => hh h2), if_neg (by rw [h3]; decide)]⟩)
  have HT : Hid (comesE M now = 0 → now ≤ 4611686018427387903 ∧ 0 ≤ now ∧ 1 ≤ Me.tmoR M.cfg.r M.wait ∧ Me.tmoR M.cfg.r M.wait ≤ 1099511627776 ∧ askAt M now = min (now + Me.tmoR M.cfg.r M.wait) 4611686018427387903) := Lib.hid (fun h => by
    have hn := PInvW.now hI h
    have h0 : 0 ≤ now := hn.now0
    have h00 : now ≤ 4611686018427387903 := hn.now1
    obtain ⟨e1, e2, e3⟩ := askAt_eq hI h0 h00
    exact ⟨h00, h0, e2, e3, e1⟩)
  have HLL : Hid (M.l.length ≤ p.lc) := Lib.hid (by obtain ⟨oa, c, e, h1⟩ := h.l.slice_eq; simp only [Value.slice.injEq] at e; obtain ⟨-, -, rfl⟩ := e; exact h1)
  generalize askP M v kind now = R at *
  generalize askQ M Q v kind now = R' at *
  clear h hI hR hG
  go_enter Tryz.func35, Tryz.ntmps35
  go_wp2_with fail
  refine HC.out.mono ?_
  rintro e w1 ⟨rfl, h1, k1⟩
  have K1 : Hid (Keeps (ROwn rb p) w w1) := Lib.hid (k1.mono fun n hn => .inl hn)
  have H1 := Lib.hid h1
  clear h1 k1 HC
  by_cases hE : comesE M now = 0
  case neg =>
    have HR := Lib.hid (HR0.out hE)
    have HM1 : Hid (comesM M now = M) := Lib.hid (by unfold comesM; rw [if_neg hE])
    rw [HM1.out] at H1
    generalize comesE M now = E at *
    go_wp2_with fail
    refine bodyPost_ret (v := .tuple #[.int .i64 0, .bool false, .int .i64 E]) (by simp [results, Tryz.results35, go_sem]) rfl ⟨by rw [HR.out.1], ⟨p, (by rw [HR.out.1, HR.out.2]; exact H1.out), rfl, rfl⟩, K1.out⟩
  have HM1 : Hid (comesM M now = { M with now := now }) := Lib.hid (by unfold comesM; rw [if_pos hE])
  have HE := Lib.hid hE
  rw [HM1.out] at H1
  rw [hE]
  clear hE HM1
  obtain ⟨c11, c12, c13, c16, c17, c18⟩ := H1.out.cells2
  have hbl := H1.out.lt
  simp only at c11 c12 c13 c16 c17 c18
  by_cases hv : v < 0 ∨ (M.l.length : Int) ≤ v
  case pos =>
    have HR := Lib.hid (HR1.out HE.out hv)
    by_cases hv0 : v < 0
    · clear hv
      go_wp2_with fail
      refine bodyPost_ret (v := .tuple #[.int .i64 0, .bool false, .int .i64 4]) (by simp [results, Tryz.results35, go_sem]) rfl ⟨by rw [HR.out.1], ⟨p, (by rw [HR.out.1, HR.out.2]; exact H1.out), rfl, rfl⟩, K1.out⟩
    · have hv1 : (M.l.length : Int) ≤ v := by omega
      clear hv
      go_wp2_with fail
      refine bodyPost_ret (v := .tuple #[.int .i64 0, .bool false, .int .i64 4]) (by simp [results, Tryz.results35, go_sem]) rfl ⟨by rw [HR.out.1], ⟨p, (by rw [HR.out.1, HR.out.2]; exact H1.out), rfl, rfl⟩, K1.out⟩
  have hv0 : ¬ v < 0 := by omega
  have hv1 : ¬ (M.l.length : Int) ≤ v := by omega
  have HV := Lib.hid hv
  clear hv
  have HG1 : Hid (∀ n, w1.heap.size ≤ n → G n) := Lib.hid (fun n hn => HG.out n (by have := K1.out.size; omega))
  have HA := Lib.hid (Ak.ref_ask_all w1 G p.ra M.A v kind H1.out.a (HR.out.rk HI.out) (PInvW.pok HI.out).a HG1.out)
  go_wp2_with fail
  refine HA.out.mono ?_
  rintro e w2 ⟨rfl, a1, a3⟩
  have H2 := Lib.hid (H1.out.setA a1 a3)
  have K2 : Hid (Keeps (ROwn rb p) w w2) := Lib.hid (K1.out.trans (a3.mono fun n hn => .inr (.inl hn)))
  have HG2 : Hid (∀ n, w2.heap.size ≤ n → G n) := Lib.hid (fun n hn => HG.out n (by have := K2.out.size; omega))
  clear a1 a3 HA c11 c12 c13 c16 c17 c18 hbl HG1
  by_cases hAE : Ak.askE M.A v kind = 0
  case neg =>
    have HR := Lib.hid (HR2.out HE.out HV.out hAE)
    have HI0 : Hid (Ak.askI M.A v kind = 0) := Lib.hid (by unfold Ak.askI; rw [if_neg hAE])
    generalize Ak.askE M.A v kind = E at *
    go_wp2_with fail
    refine bodyPost_ret (v := .tuple #[.int .i64 0, .bool false, .int .i64 E]) (by simp [results, Tryz.results35, go_sem]) rfl ⟨by rw [HR.out.1], ⟨p, (by rw [HR.out.1, HR.out.2]; exact H2.out), rfl, rfl⟩, K2.out⟩
  have HAE := Lib.hid hAE
  rw [hAE]
  clear hAE
  obtain ⟨c11, c12, c13, c16, c17, c18⟩ := H2.out.cells2
  simp only at c11 c12 c13 c16 c17 c18
  have HIB := Lib.hid (Be.isR_any w2 (.slice p.sa M.seats.length p.sc) M.seats v now (H2.out.s.slIn Be.stL_length))
  go_wp2_with fail
  refine HIB.out.mono ?_
  rintro e w3 ⟨rfl, rfl⟩
  clear HIB
  have HRK : Hid (Ak.RK (Ak.askS M.A v kind)) := Lib.hid (by
    have hrk := HR.out.rk HI.out
    have e4 := askE_0 HAE.out
    have hpn := Ak.aPut_fresh (M.A.last + 1) (⟨M.A.last + 1, v, kind⟩ : Ak.AskD) M.A.L (fun p hp => by have := hrk.top p hp; omega)
    have hro := HI.out.room
    unfold Ak.askS
    rw [if_pos HAE.out, hpn]
    refine ⟨hrk.rise.snoc hrk.top v kind, fun x hx => ?_, ?_⟩
    · rcases List.mem_append.1 hx with hx | hx
      · have := hrk.top x hx; show x.1 ≤ M.A.last + 1; omega
      · simp at hx; subst hx; exact Int.le_refl _
    · simp only [List.length_append, List.length_cons, List.length_nil]; omega)
  cases hIs : Be.isB M.seats v now with
  | true =>
    have HR5 := Lib.hid (HR3.out HE.out HV.out HAE.out hIs)
    have HX := Lib.hid (Ak.ref_exp_all w2 G p.ra (Ak.askS M.A v kind) (Ak.askI M.A v kind) H2.out.a HRK.out (by rw [Ak.askS_exp]; exact (PInvW.pok HI.out).a.exp) HG2.out)
    generalize Ak.expS (Ak.askS M.A v kind) (Ak.askI M.A v kind) = A2 at *
    generalize Ak.expE (Ak.askS M.A v kind) (Ak.askI M.A v kind) = E2 at *
    generalize Ak.expA (Ak.askS M.A v kind) (Ak.askI M.A v kind) = a2 at *
    generalize Ak.askI M.A v kind = id at *
    clear HR0 HR1 HR2 HR3 HR4 hIs
    go_wp2_with fail
    refine HX.out.mono ?_
    rintro e w4 ⟨rfl, a1, a3⟩
    have H4 := Lib.hid (H2.out.setA a1 a3)
    have K4 : Hid (Keeps (ROwn rb p) w w4) := Lib.hid (K2.out.trans (a3.mono fun n hn => .inr (.inl hn)))
    clear a1 a3 HX c11 c12 c13 c16 c17 c18
    go_wp2_with fail
    refine bodyPost_ret (v := .tuple #[.int .i64 id, .bool true, .int .i64 0]) (by simp [results, Tryz.results35, go_sem]) rfl ⟨by rw [HR5.out.1], ⟨p, (by rw [HR5.out.1, HR5.out.2]; exact H4.out), rfl, rfl⟩, K4.out⟩
  | false =>
  have HR5 := Lib.hid (HR4.out HE.out HV.out HAE.out hIs)
  obtain ⟨t1, t0, t2, t3, t4⟩ := HT.out HE.out
  have HAT := Lib.hid t4
  have HTM := Lib.hid (fun W => Me.rtmo_any M.cfg.r M.wait W)
  have HWL := Lib.hid (wlen_le HI.out)
  clear HT t4
  generalize askAt M now = at' at *
  generalize Me.tmoR M.cfg.r M.wait = T at *
  generalize Ak.askI M.A v kind = id at *
  clear HR0 HR1 HR2 HR3 HR4 hIs
  obtain ⟨c1, c2, c3, c4, c5, c14, c15⟩ := H2.out.cells
  simp only at c1 c2 c3 c4 c5 c14 c15
  unfold Me.ruleV Me.meanV at HTM
  have hs : IntKind.i64.wrap (4611686018427387903 - now) = 4611686018427387903 - now := wrap_id (by omega) (by omega)
  have ha : IntKind.i64.wrap (now + T) = now + T := wrap_id (by omega) (by omega)
  go_wp2_with fail
  go_region_held3 (fun W => (W.cell? ⟨rb, 1, none⟩ = some (.int .i64 M.cfg.r.first) ∧ W.cell? ⟨rb, 2, none⟩ = some (.int .i64 M.cfg.r.min) ∧ W.cell? ⟨rb, 3, none⟩ = some (.int .i64 M.cfg.r.max) ∧ W.cell? ⟨rb, 4, none⟩ = some (.int .i64 M.cfg.r.half) ∧ W.cell? ⟨rb, 5, none⟩ = some (.int .i64 M.cfg.r.quart) ∧ W.cell? ⟨rb, 14, none⟩ = some (.int .i64 M.wait.value) ∧ W.cell? ⟨rb, 15, none⟩ = some (.int .i64 M.wait.at_)))
    (first | exact ⟨c1, c2, c3, c4, c5, c14, c15⟩ | assumption)
    (first
      | (go_at_call 47; (with_reducible refine (HTM.out _).mono ?_); rintro e w5 ⟨rfl, b5⟩; have H5 := Lib.hid (H2.out.below ((Below.refl _ w2).drew.trans b5)); have G5 : Hid (Below w2.heap.size w2 w5) := Lib.hid ((Below.refl _ w2).drew.trans b5); have s5 := H5.out.cells; clear b5))
  have K5 : Hid (Keeps (ROwn rb p) w w5) := Lib.hid (K2.out.trans (Keeps.of_below G5.out))
  clear c11 c12 c13 c16 c17 c18 c1 c2 c3 c4 c5 c14 c15 H2 G5 s5
  obtain ⟨c11, c12, c13, c16, c17, c18⟩ := H5.out.cells2
  simp only at c11 c12 c13 c16 c17 c18
  have HG5 : Hid (∀ n, w5.heap.size ≤ n → G n) := Lib.hid (fun n hn => HG.out n (by have := K5.out.size; omega))
  have HP := Lib.hid (Al.pushR w5 G p.rh M.W at' id H5.out.h HWL.out HG5.out)
  have tail : ∀ w6 : World, Al.RefAt w6 G p.rh (Al.pushW M.W at' id) → Keeps (fun n => n = p.rh) w5 w6 → True := fun _ _ _ => trivial
  clear tail
  by_cases hle : T ≤ 4611686018427387903 - now
  all_goals (
    first
      | (have e9 : at' = now + T := by have := HAT.out; omega)
      | (have e9 : at' = 4611686018427387903 := by have := HAT.out; omega)
    subst e9
    go_wp2_with fail
    refine HP.out.mono ?_
    rintro e w6 ⟨rfl, q1, q2⟩
    have H6 := Lib.hid (H5.out.setH q1 q2)
    have K6 : Hid (Keeps (ROwn rb p) w w6) := Lib.hid (K5.out.trans (q2.mono fun n hn => .inr (.inr hn)))
    clear q1 q2 c11 c12 c13 c16 c17 c18
    obtain ⟨c11, c12, c13, c16, c17, c18⟩ := H6.out.cells2
    simp only at c11 c12 c13 c16 c17 c18
    have hz6 : w.heap.size ≤ w6.heap.size := K6.out.size
    have hbl6 := H6.out.lt
    have SQ := Lib.hid (H6.out.q.slIn sgL_length)
    go_wp2_with (at_builtin; first
      | (refine wpList_allSg rfl _ _ rfl w6.heap.size (.slice none 0 0) [] Q rfl (OwnS.nil _ _ _ _ _) _ rfl SQ.out (by simp; omega) (Nat.le_refl _) ?_
         intro v7 w7 o7 b7 _
         rw [List.nil_append] at o7
         have O7 := Lib.hid o7
         have B7 := Lib.hid b7
         have hz7 := b7.size
         have HB7 : Hid (w6.heap.size ≤ w7.heap.size) := Lib.hid b7.size
         obtain ⟨oa7, cc7, rfl, hcc7⟩ := O7.out.slice_eq
         clear o7 b7)
      | (refine wpList_pushSg rfl _ _ rfl w6.heap.size (.slice oa7 Q.length cc7) Q (id, now) rfl (O7.out.alloc _) w7.heap.size rfl (obj_alloc_at _ _ _ rfl) (by omega) (by simp; omega) ?_
         intro v8 w8 o8 b8 _
         obtain ⟨oa, cc, rfl, hcc⟩ := o8.slice_eq
         have B8 : Hid (Below w6.heap.size w6 w8) := Lib.hid ((B7.out.alloc B7.out.size _).trans b8)
         have H8 := Lib.hid (H6.out.below B8.out)
         have hbl8 := H8.out.lt
         have yf := frozen_at H8.out.box
         have d18 := H8.out.cells2.2.2.2.2.2
         have O8 := Lib.hid o8
         clear o8 b8))
    have hgq : ∀ a, oa = some a → G a.block := fun a e => HG.out _ (by
      have := (O8.out.1.lt a.block (by rw [e]; rfl)).1
      omega)
    have HF := Lib.hid (H8.out.setQ ⟨O8.out.1.mono (Nat.zero_le _), O8.out.2⟩ hgq)
    have KF : Hid (Keeps (ROwn rb p) w (w8.setCell ⟨rb, 18, none⟩ (.slice oa (Q ++ [(id, now)]).length cc))) := Lib.hid ((K6.out.trans (Keeps.of_below B8.out)).setCell (a := ⟨rb, 18, none⟩) (.inl (.inl rfl)) _)
    rw [show (Q ++ [(id, now)]).length = Q.length + 1 from by simp] at HF KF
    go_wp2_with fail
    refine bodyPost_ret (v := .tuple #[.int .i64 id, .bool false, .int .i64 0]) (by simp [results, Tryz.results35, go_sem]) rfl ⟨by rw [HR5.out.1], ⟨{ p with qa := oa, qc := cc }, (by rw [HR5.out.1, HR5.out.2]; exact HF.out.setAsked _), rfl, rfl⟩, KF.out⟩)
end Go.Proofs.YtagpclgappcnbaaGreat
