import Derived.Test.YtagpclgappcnbaaGreatRbIJ
import Derived.Test.YtagpclgappcnbaaGreatAtY
import Derived.Test.YtagpclgappcnbaaGreatBkVV
namespace Go.Proofs.YtagpclgappcnbaaGreat
open Go.RowKit

/-! ### does: one act of both -/
noncomputable def doesM (M : PM) (x : OpM) : PM := if x.d = 0 then (askP M x.v x.kind (atE x M.now)).1 else if x.d = 1 then (gotP M x.v x.id x.kind (atE x M.now)).1 else if x.d = 2 then (tickP M (atE x M.now)).1 else M
noncomputable def doesQ (M : PM) (Q : List (Int × Int)) (x : OpM) : List (Int × Int) := if x.d = 0 then askQ M Q x.v x.kind (atE x M.now) else Q
def opCells (x : OpM) : Array Value := #[.int .i64 x.d, .int .i64 x.v, .int .i64 x.id, .int .i64 x.kind, .int .u16 x.ticks, .bool x.past, .int .i64 x.now]
theorem Mid.more {W W' : World} {X P : Nat → Prop} {b rb : Nat} {M' M : PM} {Q : List (Int × Int)} (h : Mid W X P b rb M' M Q) (hb : Below W.heap.size W W') : Mid W' (XN X W W') P b rb M' M Q := by
  obtain ⟨p, hp, h3⟩ := h.ex
  exact ⟨h.bk.more hb, p, (hp.below hb).widen fun n hn _ => .inl hn, h3⟩
def DoesR (W : World) (X P : Nat → Prop) (b rb : Nat) (M : PM) (Q : List (Int × Int)) (e : Ending) (w' : World) : Prop :=
  e = .returned (.bool true) ∧ (∃ X', (∀ n, X n → X' n) ∧ (∀ n, X' n → X n ∨ W.heap.size ≤ n) ∧ Mid w' X' P b rb M M Q) ∧ Keeps (fun n => P n ∨ ¬ X n) W w'
theorem does_end {W w2 w3 w4 : World} {X P : Nat → Prop} {b rb : Nat} {M : PM} {Q : List (Int × Int)} (hb : Below W.heap.size W w2) (k3 : Keeps (fun n => ¬ XN X W w2 n) w2 w3) (k4 : Keeps P w3 w4) (m4 : Mid w4 (XN (XN X W w2) w3 w4) P b rb M M Q) : DoesR W X P b rb M Q (.returned (.bool true)) w4 := by
  refine ⟨rfl, ⟨_, fun n hn => .inl (.inl hn), fun n hn => ?_, m4⟩, ((Keeps.of_below hb).trans (k3.mono fun n hn => .inr fun hx => hn (.inl hx))).trans (k4.mono fun n hn => .inl hn)⟩
  have h1 := hb.size
  have h2 := k3.size
  rcases hn with (hn | hn) | hn
  · exact .inl hn
  · exact .inr hn.1
  · exact .inr (by omega)
theorem does_none {W w2 : World} {X P : Nat → Prop} {b rb : Nat} {M : PM} {Q : List (Int × Int)} (hb : Below W.heap.size W w2) (m : Mid w2 (XN X W w2) P b rb M M Q) : DoesR W X P b rb M Q (.returned (.bool true)) w2 :=
  ⟨rfl, ⟨_, fun n hn => .inl hn, fun n hn => hn.imp (fun h => h) fun h => h.1, m⟩, Keeps.of_below hb⟩
theorem DoesR.below {W w4 w5 : World} {X P : Nat → Prop} {b rb : Nat} {M : PM} {Q : List (Int × Int)} {e : Ending} (h : DoesR W X P b rb M Q e w4) (hb : Below w4.heap.size w4 w5) : DoesR W X P b rb M Q e w5 := by
  obtain ⟨h1, ⟨X', h2, h3, h4⟩, h5⟩ := h
  exact ⟨h1, ⟨X', h2, h3, h4.below hb⟩, h5.trans (Keeps.of_below hb)⟩
set_option maxRecDepth 100000 in
set_option maxHeartbeats 4000000 in
theorem does_any (W : World) (X P : Nat → Prop) (b rb : Nat) (M : PM) (Q : List (Int × Int)) (x : OpM) (h : Mid W X P b rb M M Q) (hR : RI M Q) (hQ : Q.length ≤ 100000) (hN : ∀ y ∈ M.l, y.name.size ≤ 300) (hx : OpOK x) (hP : ∀ n, P n → n < W.heap.size) :
    Calls Tryz.prog 11 #[.pointer (some ⟨b, 0, none⟩), .pointer (some ⟨rb, 0, none⟩), .agg (opCells x)] W (DoesR W X P b rb (doesM M x) (doesQ M Q x)) := by
  have HI := Lib.hid h.bk.inv
  have b1 : Below W.heap.size W (W.alloc (.cells (opCells x) 45)) := (Below.refl _ W).alloc (Nat.le_refl _) _
  have OB := Lib.hid (show obj (W.alloc (.cells (opCells x) 45)) W.heap.size = some (.cells (opCells x) 45 (0, 0)) from obj_alloc_at _ _ _ rfl)
  have H1 := Lib.hid (h.below b1)
  have HA := Lib.hid (fun W' => at_any W' x M.now hx HI.out.now0 HI.out.now1)
  obtain ⟨p, hp, h0⟩ := H1.out.ex
  have c17 : (W.alloc (.cells (opCells x) 45)).cell? ⟨rb, 17, none⟩ = some (.int .i64 M.now) := hp.cells2.2.2.2.2.1
  have lb1 := hp.lt
  unfold opCells at *
  have lo1 := lt_of_obj OB.out
  have B1 := Lib.hid b1
  clear b1
  go_enter Tryz.func11, Tryz.ntmps11
  go_wp2_with fail
  generalize W.alloc (.cells #[.int .i64 x.d, .int .i64 x.v, .int .i64 x.id, .int .i64 x.kind, .int .u16 x.ticks, .bool x.past, .int .i64 x.now] 45) = w1 at *
  have x0 : w1.cell? ⟨W.heap.size, 0, none⟩ = some (.int .i64 x.d) := cell_at OB.out 0
  have x1 : w1.cell? ⟨W.heap.size, 1, none⟩ = some (.int .i64 x.v) := cell_at OB.out 1
  have x2 : w1.cell? ⟨W.heap.size, 2, none⟩ = some (.int .i64 x.id) := cell_at OB.out 2
  have x3 : w1.cell? ⟨W.heap.size, 3, none⟩ = some (.int .i64 x.kind) := cell_at OB.out 3
  have x4 : w1.cell? ⟨W.heap.size, 4, none⟩ = some (.int .u16 x.ticks) := cell_at OB.out 4
  have x5 : w1.cell? ⟨W.heap.size, 5, none⟩ = some (.bool x.past) := cell_at OB.out 5
  have x6 : w1.cell? ⟨W.heap.size, 6, none⟩ = some (.int .i64 x.now) := cell_at OB.out 6
  go_region_held3 (fun W' => W'.cell? ⟨W.heap.size, 0, none⟩ = some (.int .i64 x.d) ∧ W'.cell? ⟨W.heap.size, 1, none⟩ = some (.int .i64 x.v) ∧ W'.cell? ⟨W.heap.size, 2, none⟩ = some (.int .i64 x.id) ∧ W'.cell? ⟨W.heap.size, 3, none⟩ = some (.int .i64 x.kind) ∧ W'.cell? ⟨W.heap.size, 4, none⟩ = some (.int .u16 x.ticks) ∧ W'.cell? ⟨W.heap.size, 5, none⟩ = some (.bool x.past) ∧ W'.cell? ⟨W.heap.size, 6, none⟩ = some (.int .i64 x.now) ∧ W'.cell? ⟨rb, 17, none⟩ = some (.int .i64 M.now))
    (first | exact ⟨x0, x1, x2, x3, x4, x5, x6, c17⟩ | assumption)
    (first
      | (go_at_call 34; (with_reducible refine (HA.out _).mono ?_); rintro e w2 ⟨rfl, b2⟩; have G2 : Hid (Below w1.heap.size w1 w2) := Lib.hid ((Below.refl _ w1).drew.trans b2); have O2 := (obj_below G2.out lo1).trans OB.out; have s2 : w2.cell? ⟨W.heap.size, 0, none⟩ = some (.int .i64 x.d) ∧ w2.cell? ⟨W.heap.size, 1, none⟩ = some (.int .i64 x.v) ∧ w2.cell? ⟨W.heap.size, 2, none⟩ = some (.int .i64 x.id) ∧ w2.cell? ⟨W.heap.size, 3, none⟩ = some (.int .i64 x.kind) ∧ w2.cell? ⟨W.heap.size, 4, none⟩ = some (.int .u16 x.ticks) ∧ w2.cell? ⟨W.heap.size, 5, none⟩ = some (.bool x.past) ∧ w2.cell? ⟨W.heap.size, 6, none⟩ = some (.int .i64 x.now) ∧ w2.cell? ⟨rb, 17, none⟩ = some (.int .i64 M.now) := ⟨cell_at O2 0, cell_at O2 1, cell_at O2 2, cell_at O2 3, cell_at O2 4, cell_at O2 5, cell_at O2 6, (G2.out.cell (p := ⟨rb, 17, none⟩) lb1).trans c17⟩; clear b2))
  have BW : Hid (Below W.heap.size W w2) := Lib.hid (B1.out.trans (G2.out.mono B1.out.size))
  have M2 := Lib.hid (h.more BW.out)
  have HOB : Hid (XN X W w2 W.heap.size ∧ ¬ P W.heap.size) := Lib.hid ⟨.inr ⟨Nat.le_refl _, lt_of_obj O2⟩, fun hh => by have := hP _ hh; omega⟩
  have HPX : Hid (∀ n, P n → n < W.heap.size) := Lib.hid hP
  have OO := Lib.hid O2
  have HRI := Lib.hid hR
  have HNN := Lib.hid hN
  have KW : Hid (Keeps (fun n => P n ∨ ¬ X n) W w2) := Lib.hid (Keeps.of_below BW.out)
  obtain ⟨s0, s1, s3, s4, s5, s6, s7, s8⟩ := s2
  clear x0 x1 x2 x3 x4 x5 x6 c17 OB H1 HA hp h0 h hR hN hP lo1 lb1 hx B1 G2 O2 s8
  generalize hat : atE x M.now = now at *
  by_cases hd0 : x.d = 0
  · have HM : Hid (doesM M x = (askP M x.v x.kind now).1 ∧ doesQ M Q x = askQ M Q x.v x.kind now) := Lib.hid (by unfold doesM doesQ; rw [if_pos hd0, if_pos hd0, hat]; exact ⟨rfl, rfl⟩)
    rw [HM.out.1, HM.out.2]
    go_wp2_with fail
    refine (mid_askB _ _ _ _ _ _ _ _ M2.out x.v x.kind now).mono ?_
    rintro e w3 ⟨rfl, m3, k3⟩
    have M3 := Lib.hid m3
    have K3 := Lib.hid k3
    have o3 := (k3.block _ (lt_of_obj OO.out) (fun hh => hh HOB.out.1)).trans OO.out
    have t1 : w3.cell? ⟨W.heap.size, 1, none⟩ = some (.int .i64 x.v) := cell_at o3 1
    have t3 : w3.cell? ⟨W.heap.size, 3, none⟩ = some (.int .i64 x.kind) := cell_at o3 3
    have lo3 := lt_of_obj o3
    clear m3 k3
    go_wp2_with fail
    refine (mid_ask _ _ _ _ _ _ _ _ M3.out HI.out HRI.out hQ x.v x.kind now).mono ?_
    rintro e w4 ⟨rfl, m4, k4⟩
    have M4 := Lib.hid m4
    have K4 := Lib.hid k4
    clear m4 k4
    generalize askP M x.v x.kind now = r at *
    obtain ⟨r1, r2, r3, r4⟩ := r
    simp only
    cases r3 <;> (
      go_wp2_with fail
      refine bodyPost_ret (v := .bool true) (by simp [results, Tryz.results11, go_sem]) rfl (by rw [HM.out.1, HM.out.2]; exact does_end BW.out K3.out K4.out M4.out))
  by_cases hd1 : x.d = 1
  · have HM : Hid (doesM M x = (gotP M x.v x.id x.kind now).1 ∧ doesQ M Q x = Q) := Lib.hid (by unfold doesM doesQ; rw [if_neg hd0, if_neg hd0, if_pos hd1, hat]; exact ⟨rfl, rfl⟩)
    go_wp2_with fail
    refine (mid_gotB _ _ _ _ _ _ _ _ M2.out x.v x.id x.kind now).mono ?_
    rintro e w3 ⟨rfl, m3, k3⟩
    have M3 := Lib.hid m3
    have K3 := Lib.hid k3
    have o3 := (k3.block _ (lt_of_obj OO.out) (fun hh => hh HOB.out.1)).trans OO.out
    clear m3 k3
    have HG := Lib.hid (fun w (hw : Below w3.heap.size w3 w) => mid_got _ _ _ _ _ _ _ _ (M3.out.below hw) HI.out HRI.out hQ HNN.out x.v x.id x.kind now)
    generalize gotP M x.v x.id x.kind now = r at *
    obtain ⟨r1, ⟨a1, a2, a3⟩, r4⟩ := r
    unfold Ak.askV at *
    simp only at *
    have t1 : w3.cell? ⟨W.heap.size, 1, none⟩ = some (.int .i64 x.v) := cell_at o3 1
    have t2 : w3.cell? ⟨W.heap.size, 2, none⟩ = some (.int .i64 x.id) := cell_at o3 2
    have t3 : w3.cell? ⟨W.heap.size, 3, none⟩ = some (.int .i64 x.kind) := cell_at o3 3
    have lo3 := lt_of_obj o3
    go_wp2_with fail
    have b3 : Below w3.heap.size w3 (w3.alloc (.cells #[.int .i64 a1, .int .i64 a2, .int .i64 a3] 66)) := (Below.refl _ _).alloc (Nat.le_refl _) _
    have HG3 := HG.out _ b3
    have K3' : Hid (Keeps (fun n => ¬ XN X W w2 n) w2 (w3.alloc (.cells #[.int .i64 a1, .int .i64 a2, .int .i64 a3] 66))) := Lib.hid (K3.out.trans (Keeps.of_below b3))
    have ox : obj (w3.alloc (.cells #[.int .i64 a1, .int .i64 a2, .int .i64 a3] 66)) w3.heap.size = some (.cells #[.int .i64 a1, .int .i64 a2, .int .i64 a3] 66 (0, 0)) := obj_alloc_at _ _ _ rfl
    have hnp : ¬ P w3.heap.size := fun hh => by have h1 := HPX.out _ hh; have h2 := BW.out.size; have h3 := K3.out.size; omega
    clear b3 HG t1 t2 t3 lo3 o3
    generalize w3.alloc (.cells #[.int .i64 a1, .int .i64 a2, .int .i64 a3] 66) = w3' at *
    generalize w3.heap.size = tx at *
    refine HG3.mono ?_
    rintro e w4 ⟨rfl, m4, k4⟩
    have M4 := Lib.hid m4
    have K4 := Lib.hid k4
    have ox4 := (k4.block _ (lt_of_obj ox) hnp).trans ox
    have lx4 := lt_of_obj ox4
    have FIN := Lib.hid (DoesR.below (does_end BW.out K3'.out k4 m4) (w5 := w4.alloc (.cells #[.int .i64 a1, .int .i64 a2, .int .i64 a3] 66)) ((Below.refl _ _).alloc (Nat.le_refl _) _))
    clear m4 k4 HG3 ox
    go_wp2_with fail
    refine bodyPost_ret (v := .bool true) (by simp [results, Tryz.results11, go_sem]) rfl (by rw [HM.out.1, HM.out.2]; exact FIN.out)
  by_cases hd2 : x.d = 2
  · have HM : Hid (doesM M x = (tickP M now).1 ∧ doesQ M Q x = Q) := Lib.hid (by unfold doesM doesQ; rw [if_neg hd0, if_neg hd0, if_neg hd1, if_pos hd2, hat]; exact ⟨rfl, rfl⟩)
    go_wp2_with fail
    refine (mid_tickB _ _ _ _ _ _ _ _ M2.out now).mono ?_
    rintro e w3 ⟨v1, rfl, o1, m3, k3⟩
    have M3 := Lib.hid m3
    have K3 := Lib.hid k3
    have O1 := Lib.hid o1
    clear m3 k3 o1
    go_wp2_with fail
    refine (mid_tick _ _ _ _ _ _ _ _ M3.out HI.out HRI.out hQ HNN.out now).mono ?_
    rintro e w4 ⟨v2, rfl, o2, m4, k4⟩
    have s1' : SlIn w4 v1 3 akL (tickP M now).2.1 := (O1.out.keeps fun g eg => k4.block g (O1.out.1.lt g eg).2 (fun hh => by have h1 := HPX.out _ hh; have h2 := (O1.out.1.lt g eg).1; have h3 := BW.out.size; omega)).slIn akL_length
    have s2' : SlIn w4 v2 3 akL (tickP M now).2.1 := o2.slIn akL_length
    have HEQ := Lib.hid (equalA w4 v1 v2 _ _ s1' s2')
    have FIN := Lib.hid (does_end BW.out K3.out k4 m4)
    clear o2 m4 k4 s1' s2' O1
    rw [decide_eq_true rfl] at HEQ
    generalize tickP M now = r at *
    obtain ⟨r1, r2, r3⟩ := r
    simp only at *
    go_wp2_with fail
    refine HEQ.out.mono ?_
    rintro e w5 ⟨rfl, b5⟩
    have FIN5 := Lib.hid (FIN.out.below b5)
    go_wp2_with fail
    refine bodyPost_ret (v := .bool true) (by simp [results, Tryz.results11, go_sem]) rfl (by rw [HM.out.1, HM.out.2]; exact FIN5.out)
  · have HM : Hid (doesM M x = M ∧ doesQ M Q x = Q) := Lib.hid (by unfold doesM doesQ; rw [if_neg hd0, if_neg hd0, if_neg hd1, if_neg hd2]; exact ⟨rfl, rfl⟩)
    have FIN := Lib.hid (does_none BW.out M2.out)
    obtain ⟨F, pp, hb1, -⟩ := M2.out.bk.ex
    have HG1 := Lib.hid (get_any w2 F b pp M x.id hb1)
    have HG2 := Lib.hid (fun w (hw : Below w2.heap.size w2 w) pd (hr : RefP w2 (XN X W w2) rb pd M Q) => Ak.ref_get_all w _ pd.ra M.A x.id (hr.below hw).a (HRI.out.rk HI.out))
    obtain ⟨pd, hr, -⟩ := M2.out.ex
    have HR := Lib.hid hr
    have HG3 := Lib.hid (fun w (hw : Below w2.heap.size w2 w) => HG2.out w hw pd HR.out)
    have HG4 := Lib.hid (fun w (hw : Below w2.heap.size w2 w) => due_bk w _ b M (M2.out.bk.below hw) x.id)
    have HG5 := Lib.hid (fun w (hw : Below w2.heap.size w2 w) => Al.atR w _ pd.rh M.W x.id (HR.out.below hw).h)
    generalize Ak.expA M.A x.id = a at *
    generalize Ak.getE M.A x.id = E at *
    obtain ⟨a1, a2, a3⟩ := a
    unfold Ak.askV at HG1
    unfold Ak.akV at HG3
    simp only at HG1 HG3
    clear HG2 hb1 hr
    go_wp2_with fail
    refine HG1.out.mono ?_
    rintro e w3 ⟨rfl, b3⟩
    have b3' : Below w2.heap.size w2 (w3.alloc (.cells #[.int .i64 a1, .int .i64 a2, .int .i64 a3] 66)) := b3.alloc b3.size _
    have B3 := Lib.hid b3'
    have r3 := HR.out.below b3'
    have q12 : (w3.alloc (.cells #[.int .i64 a1, .int .i64 a2, .int .i64 a3] 66)).cell? ⟨rb, 12, none⟩ = some (.pointer (some ⟨pd.ra, 0, none⟩)) := r3.cells2.2.1
    have q12' : w3.cell? ⟨rb, 12, none⟩ = some (.pointer (some ⟨pd.ra, 0, none⟩)) := (HR.out.below b3).cells2.2.1
    have lr3 := (HR.out.below b3).lt
    have ox : obj (w3.alloc (.cells #[.int .i64 a1, .int .i64 a2, .int .i64 a3] 66)) w3.heap.size = some (.cells #[.int .i64 a1, .int .i64 a2, .int .i64 a3] 66 (0, 0)) := obj_alloc_at _ _ _ rfl
    go_wp2_with fail
    clear q12' lr3 b3 b3'
    generalize w3.alloc (.cells #[.int .i64 a1, .int .i64 a2, .int .i64 a3] 66) = w3' at *
    generalize w3.heap.size = tx at *
    have o3 := (obj_below B3.out (lt_of_obj OO.out)).trans OO.out
    have x2 : w3'.cell? ⟨W.heap.size, 2, none⟩ = some (.int .i64 x.id) := cell_at o3 2
    have lo3 := lt_of_obj o3
    have lrb := r3.lt
    have lx3 := lt_of_obj ox
    have SK : Hid (∀ V, Below w3'.heap.size w3' V → V.cell? ⟨rb, 12, none⟩ = some (.pointer (some ⟨pd.ra, 0, none⟩)) ∧ V.cell? ⟨W.heap.size, 2, none⟩ = some (.int .i64 x.id)) := Lib.hid (fun V hv => ⟨(hv.cell (p := ⟨rb, 12, none⟩) lrb).trans q12, (hv.cell (p := ⟨W.heap.size, 2, none⟩) lo3).trans x2⟩)
    go_region_held3 (fun V => V.cell? ⟨rb, 12, none⟩ = some (.pointer (some ⟨pd.ra, 0, none⟩)) ∧ V.cell? ⟨W.heap.size, 2, none⟩ = some (.int .i64 x.id))
      (first | exact ⟨q12, x2⟩ | assumption | ((try dsimp only); refine SK.out _ ?_; repeat (first | exact k4 | exact Below.refl _ _ | refine below_alloc' ?_ | refine Below.drew ?_ | (refine below_putObj ?_ (by first | exact Nat.le_refl _ | exact k4.size) _))))
      (first
        | (go_at_call 39; (with_reducible refine (HG3.out _ (by refine Below.trans B3.out ?_; first | exact ((Below.refl _ w3').drew).mono B3.out.size | exact (below_alloc' ((Below.refl _ w3').drew)).mono B3.out.size | exact (Below.drew (below_alloc' (Below.refl _ w3'))).mono B3.out.size)).mono ?_); rintro e w4 ⟨rfl, b4⟩; have k4 : Below w3'.heap.size w3' w4 := (by refine Below.trans ?_ (b4.mono ?_); (repeat (first | exact Below.refl _ _ | refine below_alloc' ?_ | refine Below.drew ?_)); first | exact Nat.le_refl _ | simp); have s4 := SK.out w4 k4; have hz4 := k4.size; try (have ob4 : obj w4 w3'.heap.size = some (.cells #[.int .i64 0, .int .i64 0, .int .i64 0] 66 (0, 0)) := (obj_below b4 (by simp)).trans (obj_alloc_at _ _ _ (by first | rfl | simp)))))
    all_goals (
      first
        | (have b5 : Below w3'.heap.size w3' (putObj w4 w3'.heap.size (.cells #[.int .i64 a1, .int .i64 a2, .int .i64 a3] 66)) := below_putObj k4 (Nat.le_refl _) _
           have oy : obj (putObj w4 w3'.heap.size (.cells #[.int .i64 a1, .int .i64 a2, .int .i64 a3] 66)) w3'.heap.size = some (.cells #[.int .i64 a1, .int .i64 a2, .int .i64 a3] 66 (0, 0)) := obj_putObj_eq _ _ _ (lt_of_obj ob4)
           have B5 : Hid (Below w2.heap.size w2 (putObj w4 w3'.heap.size (.cells #[.int .i64 a1, .int .i64 a2, .int .i64 a3] 66))) := Lib.hid (B3.out.trans (b5.mono B3.out.size))
           have oz := (obj_below b5 lx3).trans ox
           clear ob4
           generalize putObj w4 w3'.heap.size (.cells #[.int .i64 a1, .int .i64 a2, .int .i64 a3] 66) = w5 at *
           generalize w3'.heap.size = ty at *)
        | (have b5 : Below w3'.heap.size w3' (w4.alloc (.cells #[.int .i64 a1, .int .i64 a2, .int .i64 a3] 66)) := k4.alloc k4.size _
           have oy := obj_alloc_at w4 (.cells #[.int .i64 a1, .int .i64 a2, .int .i64 a3] 66) w4.heap.size rfl
           have B5 : Hid (Below w2.heap.size w2 (w4.alloc (.cells #[.int .i64 a1, .int .i64 a2, .int .i64 a3] 66))) := Lib.hid (B3.out.trans (b5.mono B3.out.size))
           have oz := (obj_below b5 lx3).trans ox
           generalize w4.alloc (.cells #[.int .i64 a1, .int .i64 a2, .int .i64 a3] 66) = w5 at *
           generalize w4.heap.size = ty at *))
    all_goals (
      clear SK s4 b4 k4 hz4 q12 x2 lo3 lrb lx3 ox r3 b5 HG1 HG3
      have o5 := (obj_below B5.out (lt_of_obj OO.out)).trans OO.out
      have y2 : w5.cell? ⟨W.heap.size, 2, none⟩ = some (.int .i64 x.id) := cell_at o5 2
      have lo5 := lt_of_obj o5
      have y13 : w5.cell? ⟨rb, 13, none⟩ = some (.pointer (some ⟨pd.rh, 0, none⟩)) := (HR.out.below B5.out).cells2.2.2.1
      have lr5 := (HR.out.below B5.out).lt
      go_wp2_with fail
      refine (HG4.out w5 B5.out).mono ?_
      rintro e w6 ⟨rfl, rfl⟩
      go_wp2_with fail
      go_region_held3 (fun V => V.cell? ⟨rb, 13, none⟩ = some (.pointer (some ⟨pd.rh, 0, none⟩)) ∧ V.cell? ⟨W.heap.size, 2, none⟩ = some (.int .i64 x.id))
        (first | exact ⟨y13, y2⟩ | assumption)
        (first
          | (go_at_call 41; (with_reducible refine (HG5.out _ (B5.out.trans (((Below.refl _ w6).drew).mono B5.out.size))).mono ?_); rintro e w7 ⟨rfl, b7⟩; have k7 : Below w6.heap.size w6 w7 := (Below.refl _ w6).drew.trans b7; have s7 : w7.cell? ⟨rb, 13, none⟩ = some (.pointer (some ⟨pd.rh, 0, none⟩)) ∧ w7.cell? ⟨W.heap.size, 2, none⟩ = some (.int .i64 x.id) := ⟨(k7.cell (p := ⟨rb, 13, none⟩) lr5).trans y13, (k7.cell (p := ⟨W.heap.size, 2, none⟩) lo5).trans y2⟩))
      have oy7 := (obj_below k7 (lt_of_obj oy)).trans oy
      have oz7 := (obj_below k7 (lt_of_obj oz)).trans oz
      have FIN7 := Lib.hid (FIN.out.below (B5.out.trans (k7.mono B5.out.size)))
      clear k7 s7 b7 oy oz y13 y2 HG4 HG5 FIN
      go_wp2_with fail
      refine bodyPost_ret (v := .bool true) (by simp [results, Tryz.results11, go_sem]) rfl (by rw [HM.out.1, HM.out.2]; exact FIN7.out))
end Go.Proofs.YtagpclgappcnbaaGreat
