import Derived.Test.YtmgpfmgmpmkkaaaGreatRefS
import Derived.Test.YtmgpfmgmpmkkaaaGreatRefM
import Derived.Test.YtmgpfmgmpmkkaaaGreatLivP
namespace Go.Proofs.YtmgpfmgmpmkkaaaGreat
open Go.RowKit Go.Shelf Go.Sort

def inF (zs : List Int) (n : Nat) : List Int := (rangeI n).filter fun i => decide (i ∈ zs)
theorem inF_succ (zs : List Int) (k : Nat) : inF zs (k + 1) = if (k : Int) ∈ zs then inF zs k ++ [(k : Int)] else inF zs k := by
  unfold inF
  rw [rangeI_succ, List.filter_append]
  by_cases h : (k : Int) ∈ zs
  · rw [if_pos h]; simp [h]
  · rw [if_neg h]; simp [h]
theorem inF_len (zs : List Int) (n : Nat) : (inF zs n).length ≤ n := by
  unfold inF
  have := List.length_filter_le (fun i => decide (i ∈ zs)) (rangeI n)
  rwa [len_rangeI] at this
theorem newR_chk {l : List Vd} {zs : List Int} (h : chk l ≠ 0) : newR l zs = (zeroM, 210) := by unfold newR; rw [if_pos h]
theorem newR_bad {l : List Vd} {zs : List Int} (h : chk l = 0) {x : Int} (hx : x ∈ zs) (hb : x < 0 ∨ (l.length : Int) ≤ x) : newR l zs = (zeroM, 1) := by
  unfold newR
  rw [if_neg (by simp [h]), if_pos]
  right
  cases hp : placesB l.length (openOf zs) with
  | false => rfl
  | true =>
    have := (placesB_iff.1 hp).1 x (((openOf_spec zs).2 x).2 hx)
    omega
theorem newR_none {l : List Vd} (h : chk l = 0) : newR l [] = (zeroM, 1) := by
  unfold newR
  rw [if_neg (by simp [h]), if_pos]
  left
  cases ho : openOf [] with
  | nil => rfl
  | cons a r => have := ((openOf_spec []).2 a).1 (by rw [ho]; simp); simp at this
theorem newR_yes {l : List Vd} {zs : List Int} (h : chk l = 0) (h0 : zs ≠ []) (hb : ∀ x ∈ zs, 0 ≤ x ∧ x < (l.length : Int)) : newR l zs = (⟨1, inF zs l.length, [], []⟩, 0) := by
  have hs := openOf_spec zs
  have e : openOf zs = inF zs l.length := ascI_uniq hs.1 ((asc_rangeI _).filter _) fun x => by
    rw [hs.2]
    unfold inF
    rw [List.mem_filter, mem_rangeI]
    constructor
    · intro hx; exact ⟨hb x hx, decide_eq_true hx⟩
    · intro hx; exact of_decide_eq_true hx.2
  have hn : openOf zs ≠ [] := fun e => by
    cases zs with
    | nil => exact h0 rfl
    | cons a r => have := (hs.2 a).2 (by simp); rw [e] at this; simp at this
  have hp : placesB l.length (openOf zs) = true := placesB_iff.2 ⟨fun x hx => hb x ((hs.2 x).1 hx), hs.1⟩
  unfold newR
  rw [if_neg (by simp [h]), if_neg (by rw [hp]; simp [hn]), e]
set_option maxRecDepth 100000 in
set_option maxHeartbeats 4000000 in
/-- the reference's May -/
theorem mayR_any (w : World) (v : Value) (l : List Vd) (d : FrD) (m : FrM) (hl : SlIn w v 2 vdL l) (hN : ∀ x ∈ l, x.name.size ≤ 300) (h : FrAt w d m) (hol : m.op.length ≤ 4096) (htl : m.tips.length ≤ 1048576) (hlen : m.said.length ≤ 4096) (hids : ∀ s ∈ m.said, s.ids.length ≤ 1048576) :
    Calls Tryz.prog 19 #[v, frV d] w fun e w' => e = .returned (.int .i64 (mayE l m)) ∧ Below w.heap.size w w' := by
  have hb0 : Below w.heap.size w (w.alloc (.cells (frC d) 27)) := (Below.refl _ w).alloc (Nat.le_refl _) _
  have O1 := Lib.hid (fr_box w d)
  have HC := Lib.hid (checkB _ v l (hl.below hb0) hN)
  have HM := Lib.hid (fun W (hW : Below w.heap.size w W) (la : Option Addr) (lc : Nat) => may_ref W la l.length lc d m (h.below hW) hol htl hlen hids)
  have B0 := Lib.hid hb0
  have HE : Hid (mayE l m = if (decide (chk l = 0) && mayRB l.length m) = true then 0 else 210) := Lib.hid (by unfold mayE; rw [mayB_split])
  generalize mayE l m = T at *
  generalize mayRB l.length m = R at *
  generalize chk l = C at *
  obtain ⟨la, lc, rfl, -, -, -⟩ := hl
  obtain ⟨dp, doa, don, doc, dta, dtn, dtc, dsa, dsn, dsc⟩ := d
  clear hb0 h
  go_enter Tryz.func19, Tryz.ntmps19
  go_wp2_with fail
  generalize w.alloc (.cells (frC ⟨dp, doa, don, doc, dta, dtn, dtc, dsa, dsn, dsc⟩) 27) = w1 at *
  refine HC.out.mono ?_
  rintro e w2 ⟨rfl, b2⟩
  have O2 := Lib.hid ((obj_below b2 (lt_of_obj O1.out)).trans O1.out)
  have B2 : Hid (Below w.heap.size w w2) := Lib.hid (B0.out.trans (b2.mono B0.out.size))
  clear b2 HC O1 B0
  by_cases hc : C = 0
  case neg =>
    obtain rfl : T = 210 := by rw [HE.out, decide_eq_false hc]; rfl
    go_wp2_with fail
    go_ret
    exact ⟨rfl, B2.out⟩
  subst hc
  have HT : Hid (T = if R = true then 0 else 210) := Lib.hid HE.out
  have x0 := cell_at O2.out 0
  have x1 := cell_at O2.out 1
  have x2 := cell_at O2.out 2
  have x3 := cell_at O2.out 3
  simp at x0 x1 x2 x3
  have HM2 := Lib.hid (HM.out w2 B2.out la lc)
  clear HE HM
  go_wp2_with fail
  refine HM2.out.mono ?_
  rintro e w3 ⟨rfl, b3⟩
  have B3 : Hid (Below w.heap.size w w3) := Lib.hid (B2.out.trans (b3.mono B2.out.size))
  clear b3 HM2
  cases R with
  | true =>
    obtain rfl : T = 0 := HT.out
    go_wp2_with fail
    go_ret
    exact ⟨rfl, B3.out⟩
  | false =>
    obtain rfl : T = 210 := HT.out
    go_wp2_with fail
    go_ret
    exact ⟨rfl, B3.out⟩
set_option maxRecDepth 100000 in
set_option maxHeartbeats 8000000 in
/-- the reference's New -/
theorem newR_any (w : World) (v vs : Value) (l : List Vd) (zs : List Int) (hl : SlIn w v 2 vdL l) (hN : ∀ x ∈ l, x.name.size ≤ 300) (hn : l.length ≤ 4096) (hs : SlIn w vs 1 intL zs) (hlen : zs.length ≤ 1048576) :
    Calls Tryz.prog 17 #[v, vs] w (RetFr w (newR l zs).1 (newR l zs).2) := by
  have hb0 : Below w.heap.size w (w.alloc (.cells #[.int .i64 0, .slice none 0 0, .slice none 0 0, .slice none 0 0] 27)) := (Below.refl _ w).alloc (Nat.le_refl _) _
  have orr : obj (w.alloc (.cells #[.int .i64 0, .slice none 0 0, .slice none 0 0, .slice none 0 0] 27)) w.heap.size = some (.cells #[.int .i64 0, .slice none 0 0, .slice none 0 0, .slice none 0 0] 27 (0, 0)) := obj_alloc_at _ _ _ rfl
  have hz : (w.alloc (.cells #[.int .i64 0, .slice none 0 0, .slice none 0 0, .slice none 0 0] 27)).heap.size = w.heap.size + 1 := by simp
  have HC := Lib.hid (checkB _ v l (hl.below hb0) hN)
  have HS := Lib.hid hs
  have HE1 : Hid (chk l ≠ 0 → newR l zs = (zeroM, 210)) := Lib.hid newR_chk
  have HE2 : Hid (chk l = 0 → ∀ x ∈ zs, (x < 0 ∨ (l.length : Int) ≤ x) → newR l zs = (zeroM, 1)) := Lib.hid (fun h x hx hb => newR_bad h hx hb)
  have HE3 : Hid (chk l = 0 → zs = [] → newR l zs = (zeroM, 1)) := Lib.hid (fun h e => by subst e; exact newR_none h)
  have HE4 : Hid (chk l = 0 → zs ≠ [] → (∀ x ∈ zs, 0 ≤ x ∧ x < (l.length : Int)) → newR l zs = (⟨1, inF zs l.length, [], []⟩, 0)) := Lib.hid newR_yes
  generalize newR l zs = T at *
  generalize chk l = E at *
  obtain ⟨la, lc, rfl, -, -, -⟩ := hl
  obtain ⟨oa, oc, rfl, g1, g2, g3⟩ := hs
  have G3 := Lib.hid g3
  unfold maxLen at g2
  have B0 := Lib.hid hb0
  have OR := Lib.hid orr
  have HZ := Lib.hid hz
  clear hb0 orr hz g3
  go_enter Tryz.func17, Tryz.ntmps17
  go_wp2_with fail
  generalize w.alloc (.cells #[.int .i64 0, .slice none 0 0, .slice none 0 0, .slice none 0 0] 27) = w0 at *
  have hz := HZ.out
  refine HC.out.mono ?_
  rintro e w1 ⟨rfl, b1⟩
  have hz1 := b1.size
  have OR1 := Lib.hid ((obj_below b1 (lt_of_obj OR.out)).trans OR.out)
  have B1 : Hid (Below w.heap.size w w1) := Lib.hid (B0.out.trans (b1.mono (by omega)))
  clear HC b1 OR B0
  by_cases hE : E = 0
  case neg =>
    obtain rfl : T = (zeroM, 210) := HE1.out hE
    have y0 := cell_at OR1.out 0
    have y1 := cell_at OR1.out 1
    have y2 := cell_at OR1.out 2
    have y3 := cell_at OR1.out 3
    have yf := frozen_at OR1.out
    simp at y0 y1 y2 y3 yf
    go_wp2_with fail
    have q := obj_setCell_at (.slice none 0 0) (i := 3) (obj_setCell_at (.slice none 0 0) (i := 2) (obj_setCell_at (.slice none 0 0) (i := 1) (obj_setCell_at (.int .i64 0) (i := 0) OR1.out)))
    have z0 := cell_at q 0
    have z1 := cell_at q 1
    have z2 := cell_at q 2
    have z3 := cell_at q 3
    have HQ := Lib.hid q
    clear q
    simp at z0 z1 z2 z3
    have BE : Hid (Below w.heap.size w ((((w1.setCell ⟨w.heap.size, 0, none⟩ (.int .i64 0)).setCell ⟨w.heap.size, 1, none⟩ (.slice none 0 0)).setCell ⟨w.heap.size, 2, none⟩ (.slice none 0 0)).setCell ⟨w.heap.size, 3, none⟩ (.slice none 0 0))) := Lib.hid ((((B1.out.setCell (by dsimp only; omega) _).setCell (by dsimp only; omega) _).setCell (by dsimp only; omega) _).setCell (by dsimp only; omega) _)
    generalize (((w1.setCell ⟨w.heap.size, 0, none⟩ (.int .i64 0)).setCell ⟨w.heap.size, 1, none⟩ (.slice none 0 0)).setCell ⟨w.heap.size, 2, none⟩ (.slice none 0 0)).setCell ⟨w.heap.size, 3, none⟩ (.slice none 0 0) = wE at *
    refine bodyPost_ret (v := .tuple #[frV zeroD, .int .i64 210]) (by simp [results, Tryz.results17, go_sem, z0, z1, z2, z3]) rfl ⟨_, rfl, frOwn_zero _ _, BE.out⟩
  subst hE
  have HB2 : Hid (Below w.heap.size w (w1.alloc (.cells #[.int .i64 1, .slice none 0 0, .slice none 0 0, .slice none 0 0] 27))) := Lib.hid (B1.out.alloc (by omega) _)
  have OF2 : Hid (obj (w1.alloc (.cells #[.int .i64 1, .slice none 0 0, .slice none 0 0, .slice none 0 0] 27)) w1.heap.size = some (.cells #[.int .i64 1, .slice none 0 0, .slice none 0 0, .slice none 0 0] 27 (0, 0))) := Lib.hid (obj_alloc_at _ _ _ rfl)
  have OR2 := Lib.hid ((obj_alloc_past w1 (.cells #[.int .i64 1, .slice none 0 0, .slice none 0 0, .slice none 0 0] 27) _ (lt_of_obj OR1.out)).trans OR1.out)
  have hz2 : (w1.alloc (.cells #[.int .i64 1, .slice none 0 0, .slice none 0 0, .slice none 0 0] 27)).heap.size = w1.heap.size + 1 := by simp
  generalize hln : l.length = n at *
  go_wp2_with fail
  generalize w1.alloc (.cells #[.int .i64 1, .slice none 0 0, .slice none 0 0, .slice none 0 0] 27) = w2 at *
  have HZF : Hid (w.heap.size + 1 ≤ w1.heap.size) := Lib.hid (by omega)
  generalize w1.heap.size = bf at *
  have hzf := HZF.out
  go_loopw [7] (fun v7 wr => ∃ (k j : Nat) (a : Option Addr) (c : Nat), k ≤ n ∧ v7 = .int .i64 k ∧ Hid ((inF zs k).length = j) ∧ Hid (OwnC wr w.heap.size 3 1 intL (.slice a j c) (inF zs k)) ∧ Hid (obj wr w.heap.size = some (.cells #[.int .i64 0, .slice none 0 0, .slice none 0 0, .slice none 0 0] 27 (0, 0))) ∧ Hid (obj wr bf = some (.cells #[.int .i64 1, .slice a j c, .slice none 0 0, .slice none 0 0] 27 (0, 0))) ∧ Hid (Below w.heap.size w wr)) (fun i _ => n - (intOf i).toNat)
  case atStart => exact ⟨0, 0, none, 0, Nat.zero_le _, rfl, Lib.hid rfl, Lib.hid (World.ownsRow_nil _ _ _ _), OR2, OF2, HB2⟩
  case round =>
    clear OR2 OF2 HB2 OR1 B1
    obtain ⟨k, j, a, c, hk, rfl, HJ, HO, OR, OF, HB⟩ := hrel
    have hzr := HB.out.size
    have hrl := lt_of_obj OR.out
    have hfl := lt_of_obj OF.out
    by_cases hlt : k < n
    · have HI := Lib.hid (hasInt_any wr (.slice oa zs.length oc) zs k (HS.out.below HB.out))
      have hkn : (k : Int) < n := by omega
      by_cases hin : (k : Int) ∈ zs
      · have HIN : Hid (inF zs (k + 1) = inF zs k ++ [(k : Int)]) := Lib.hid (by rw [inF_succ, if_pos hin])
        rw [decide_eq_true hin] at HI
        clear hin
        have HJL : Hid (j ≤ k) := Lib.hid (by rw [← HJ.out]; exact inF_len zs k)
        have BA : Hid (Below wr.heap.size wr (wr.alloc (.cells #[.int .i64 k] 3))) := Lib.hid ((Below.refl _ _).alloc (Nat.le_refl _) _)
        have OA : Hid (obj (wr.alloc (.cells #[.int .i64 k] 3)) wr.heap.size = some (.cells (intL k).toArray 3 (0, 0))) := Lib.hid (obj_alloc_at _ _ _ rfl)
        have HOA := Lib.hid (HO.out.below BA.out)
        have ORA := Lib.hid ((obj_below BA.out hrl).trans OR.out)
        have OFA := Lib.hid ((obj_below BA.out hfl).trans OF.out)
        have HBA : Hid (Below w.heap.size w (wr.alloc (.cells #[.int .i64 k] 3))) := Lib.hid (HB.out.trans (BA.out.mono (by omega)))
        have hza : (wr.alloc (.cells #[.int .i64 k] 3)).heap.size = wr.heap.size + 1 := by simp
        have HNB : Hid ((Value.slice a j c).ownBlock ≠ some bf) := Lib.hid (HO.out.ne OF.out (fun cur h => by injection h with h1 h2; cases h2))
        have HNR : Hid ((Value.slice a j c).ownBlock ≠ some w.heap.size) := Lib.hid (HO.out.ne OR.out (fun cur h => by injection h with h1 h2; cases h2))
        have x1 := cell_at OF.out 1
        simp at x1
        have HLQ : Hid (∀ (a : Option Addr) (c : Nat), Value.slice a (inF zs k ++ [(k : Int)]).length c = .slice a (j + 1) c) := Lib.hid (fun a c => by rw [List.length_append, HJ.out]; rfl)
        have HJ2 : Hid ((inF zs (k + 1)).length = j + 1) := Lib.hid (by rw [HIN.out, List.length_append, HJ.out]; rfl)
        have HLE : Hid ((inF zs k).length ≤ 1048576) := Lib.hid (by have := HJL.out; rw [HJ.out]; omega)
        have hj1 : j < 1048576 := by have := HJL.out; omega
        go_wp2_with fail
        refine HI.out.mono ?_
        rintro e w9 ⟨rfl, hw9⟩
        cases hw9
        clear HI
        go_wp2_with (at_builtin; refine pushI rfl _ _ rfl w.heap.size (.slice a j c) (inF zs k) (k : Int) rfl HOA.out wr.heap.size rfl OA.out HLE.out (by rw [hza]; omega) ?_; intro v6 w6 r6 b6 g6; obtain ⟨a6, c6, e6⟩ := r6.slice; have HO6 : Hid (OwnC w6 w.heap.size 3 1 intL v6 (inF zs (k + 1))) := Lib.hid (by rw [HIN.out]; exact r6); have e7 := e6.trans (HLQ.out a6 c6); subst e7; have OF6 : Hid (obj w6 bf = some (.cells #[.int .i64 1, .slice a j c, .slice none 0 0, .slice none 0 0] 27 (0, 0))) := Lib.hid ((g6 _ (by rw [hza]; omega) HNB.out).trans OFA.out); have OR6 : Hid (obj w6 w.heap.size = some (.cells #[.int .i64 0, .slice none 0 0, .slice none 0 0, .slice none 0 0] 27 (0, 0))) := Lib.hid ((g6 _ (by rw [hza]; omega) HNR.out).trans ORA.out); have HB6 : Hid (Below w.heap.size w w6) := Lib.hid (HBA.out.trans b6); have hfl6 := lt_of_obj OF6.out; have x6 := cell_at OF6.out 1; have f6 := frozen_at OF6.out 1; simp at x6; clear r6 b6 g6 e6)
        have HO7 := Lib.hid (HO6.out.setBox OF6.out (by decide) 1 (.slice a6 (j + 1) c6))
        have OF7 : Hid (obj (w6.setCell ⟨bf, 1, none⟩ (.slice a6 (j + 1) c6)) bf = some (.cells #[.int .i64 1, .slice a6 (j + 1) c6, .slice none 0 0, .slice none 0 0] 27 (0, 0))) := Lib.hid (by rw [obj_setCell_at _ OF6.out]; rfl)
        have OR7 : Hid (obj (w6.setCell ⟨bf, 1, none⟩ (.slice a6 (j + 1) c6)) w.heap.size = _) := Lib.hid ((obj_setCell_ne _ ⟨bf, 1, none⟩ _ _ (by dsimp only; omega)).trans OR6.out)
        have HB7 : Hid (Below w.heap.size w (w6.setCell ⟨bf, 1, none⟩ (.slice a6 (j + 1) c6))) := Lib.hid (HB6.out.setCell (by dsimp only; omega) _)
        go_roundw
        case rel => exact ⟨k + 1, j + 1, a6, c6, by omega, by go_num, HJ2, HO7, OR7, OF7, HB7⟩
        case measure => first | exact meas_step' hlt | (simp [intOf]; omega)
      · have HIN : Hid (inF zs (k + 1) = inF zs k) := Lib.hid (by rw [inF_succ, if_neg hin])
        rw [decide_eq_false hin] at HI
        clear hin
        have HO2 : Hid (OwnC wr w.heap.size 3 1 intL (.slice a j c) (inF zs (k + 1))) := Lib.hid (by rw [HIN.out]; exact HO.out)
        have HJ2 : Hid ((inF zs (k + 1)).length = j) := Lib.hid (by rw [HIN.out]; exact HJ.out)
        go_wp2_with fail
        refine HI.out.mono ?_
        rintro e w9 ⟨rfl, hw9⟩
        cases hw9
        clear HI
        go_wp2_with fail
        go_roundw
        case rel => exact ⟨k + 1, j, a, c, by omega, by go_num, HJ2, HO2, OR, OF, HB⟩
        case measure => first | exact meas_step' hlt | (simp [intOf]; omega)
    · obtain rfl : k = n := by omega
      have BX : Hid (Below wr.heap.size wr wr) := Lib.hid (Below.refl _ _)
      obtain ⟨w4, hw4⟩ : ∃ w4, w4 = wr := ⟨_, rfl⟩
      rw [← hw4] at OR OF HB HO hrl hfl hzr BX ⊢
      clear hw4
      clear wr
      go_wp2_with fail
      go_loopw [8] (fun v8 wr => ∃ i : Nat, i ≤ zs.length ∧ v8 = .int .i64 i ∧ Hid (∀ j (hj : j < zs.length), j < i → 0 ≤ zs[j] ∧ zs[j] < (k : Int)) ∧ wr = w4) (fun i _ => zs.length - (intOf i).toNat)
      case atStart => exact ⟨0, Nat.zero_le _, rfl, Lib.hid (fun j hj h => by omega), rfl⟩
      case round =>
        obtain ⟨i, hi, rfl, HM, rfl⟩ := hrel
        by_cases hlz : i < zs.length
        · obtain ⟨b, off, rfl, hbb, hrow⟩ := G3.out (by omega)
          have hs1 := hrow i hlz
          rw [← obj_below HB.out hbb] at hs1
          have hbl : b < wr.heap.size := by omega
          have cx := int_row_cell (w := w) hlz hs1
          have hki : (i : Int) < zs.length := by omega
          have HNX : Hid (0 ≤ zs[i] → zs[i] < (k : Int) → ∀ j (hj : j < zs.length), j < i + 1 → 0 ≤ zs[j] ∧ zs[j] < (k : Int)) := Lib.hid (fun a1 a2 j hj hjk => by
            by_cases e : j = i
            · subst e; exact ⟨a1, a2⟩
            · exact HM.out j hj (by omega))
          have HNN : Hid (zs[i] < 0 ∨ (k : Int) ≤ zs[i] → T = (zeroM, 1)) := Lib.hid (fun h => HE2.out trivial _ (List.getElem_mem hlz) h)
          generalize zs[i] = x at *
          clear hs1 hrow
          by_cases h0 : x < 0
          · obtain rfl : T = (zeroM, 1) := HNN.out (.inl h0)
            have y0 := cell_at OR.out 0
            have y1 := cell_at OR.out 1
            have y2 := cell_at OR.out 2
            have y3 := cell_at OR.out 3
            have yf := frozen_at OR.out
            simp at y0 y1 y2 y3 yf
            go_wp2_with fail
            have q := obj_setCell_at (.slice none 0 0) (i := 3) (obj_setCell_at (.slice none 0 0) (i := 2) (obj_setCell_at (.slice none 0 0) (i := 1) (obj_setCell_at (.int .i64 0) (i := 0) OR.out)))
            have z0 := cell_at q 0
            have z1 := cell_at q 1
            have z2 := cell_at q 2
            have z3 := cell_at q 3
            have HQ := Lib.hid q
            clear q
            simp at z0 z1 z2 z3
            have BE : Hid (Below w.heap.size w ((((wr.setCell ⟨w.heap.size, 0, none⟩ (.int .i64 0)).setCell ⟨w.heap.size, 1, none⟩ (.slice none 0 0)).setCell ⟨w.heap.size, 2, none⟩ (.slice none 0 0)).setCell ⟨w.heap.size, 3, none⟩ (.slice none 0 0))) := Lib.hid ((((HB.out.setCell (by dsimp only; omega) _).setCell (by dsimp only; omega) _).setCell (by dsimp only; omega) _).setCell (by dsimp only; omega) _)
            generalize (((wr.setCell ⟨w.heap.size, 0, none⟩ (.int .i64 0)).setCell ⟨w.heap.size, 1, none⟩ (.slice none 0 0)).setCell ⟨w.heap.size, 2, none⟩ (.slice none 0 0)).setCell ⟨w.heap.size, 3, none⟩ (.slice none 0 0) = wE at *
            refine bodyPost_ret (v := .tuple #[frV zeroD, .int .i64 1]) (by simp [results, Tryz.results17, go_sem, z0, z1, z2, z3]) rfl ⟨_, rfl, frOwn_zero _ _, BE.out⟩
          by_cases h1 : (k : Int) ≤ x
          · obtain rfl : T = (zeroM, 1) := HNN.out (.inr h1)
            have y0 := cell_at OR.out 0
            have y1 := cell_at OR.out 1
            have y2 := cell_at OR.out 2
            have y3 := cell_at OR.out 3
            have yf := frozen_at OR.out
            simp at y0 y1 y2 y3 yf
            go_wp2_with fail
            have q := obj_setCell_at (.slice none 0 0) (i := 3) (obj_setCell_at (.slice none 0 0) (i := 2) (obj_setCell_at (.slice none 0 0) (i := 1) (obj_setCell_at (.int .i64 0) (i := 0) OR.out)))
            have z0 := cell_at q 0
            have z1 := cell_at q 1
            have z2 := cell_at q 2
            have z3 := cell_at q 3
            have HQ := Lib.hid q
            clear q
            simp at z0 z1 z2 z3
            have BE : Hid (Below w.heap.size w ((((wr.setCell ⟨w.heap.size, 0, none⟩ (.int .i64 0)).setCell ⟨w.heap.size, 1, none⟩ (.slice none 0 0)).setCell ⟨w.heap.size, 2, none⟩ (.slice none 0 0)).setCell ⟨w.heap.size, 3, none⟩ (.slice none 0 0))) := Lib.hid ((((HB.out.setCell (by dsimp only; omega) _).setCell (by dsimp only; omega) _).setCell (by dsimp only; omega) _).setCell (by dsimp only; omega) _)
            generalize (((wr.setCell ⟨w.heap.size, 0, none⟩ (.int .i64 0)).setCell ⟨w.heap.size, 1, none⟩ (.slice none 0 0)).setCell ⟨w.heap.size, 2, none⟩ (.slice none 0 0)).setCell ⟨w.heap.size, 3, none⟩ (.slice none 0 0) = wE at *
            refine bodyPost_ret (v := .tuple #[frV zeroD, .int .i64 1]) (by simp [results, Tryz.results17, go_sem, z0, z1, z2, z3]) rfl ⟨_, rfl, frOwn_zero _ _, BE.out⟩
          have HNY := Lib.hid (HNX.out (by omega) (by omega))
          go_wp2_with fail
          go_roundw
          case rel => exact ⟨i + 1, by omega, by go_num, HNY, trivial⟩
          case measure => first | exact meas_step' hlz | (simp [intOf]; omega)
        · have HALL : Hid (∀ x ∈ zs, 0 ≤ x ∧ x < (k : Int)) := Lib.hid (fun x hx => by
            obtain ⟨j, hj, rfl⟩ := List.getElem_of_mem hx
            exact HM.out j hj (by omega))
          clear HM
          by_cases hz0 : zs = []
          · obtain rfl : T = (zeroM, 1) := HE3.out trivial hz0
            have hzi : (zs.length : Int) = 0 := by simp [hz0]
            have hzb : ((zs.length : Int) == 0) = true := by simp [hz0]
            clear hz0
            have y0 := cell_at OR.out 0
            have y1 := cell_at OR.out 1
            have y2 := cell_at OR.out 2
            have y3 := cell_at OR.out 3
            have yf := frozen_at OR.out
            simp at y0 y1 y2 y3 yf
            go_wp2_with fail
            have q := obj_setCell_at (.slice none 0 0) (i := 3) (obj_setCell_at (.slice none 0 0) (i := 2) (obj_setCell_at (.slice none 0 0) (i := 1) (obj_setCell_at (.int .i64 0) (i := 0) OR.out)))
            have z0 := cell_at q 0
            have z1 := cell_at q 1
            have z2 := cell_at q 2
            have z3 := cell_at q 3
            have HQ := Lib.hid q
            clear q
            simp at z0 z1 z2 z3
            have BE : Hid (Below w.heap.size w ((((wr.setCell ⟨w.heap.size, 0, none⟩ (.int .i64 0)).setCell ⟨w.heap.size, 1, none⟩ (.slice none 0 0)).setCell ⟨w.heap.size, 2, none⟩ (.slice none 0 0)).setCell ⟨w.heap.size, 3, none⟩ (.slice none 0 0))) := Lib.hid ((((HB.out.setCell (by dsimp only; omega) _).setCell (by dsimp only; omega) _).setCell (by dsimp only; omega) _).setCell (by dsimp only; omega) _)
            generalize (((wr.setCell ⟨w.heap.size, 0, none⟩ (.int .i64 0)).setCell ⟨w.heap.size, 1, none⟩ (.slice none 0 0)).setCell ⟨w.heap.size, 2, none⟩ (.slice none 0 0)).setCell ⟨w.heap.size, 3, none⟩ (.slice none 0 0) = wE at *
            refine bodyPost_ret (v := .tuple #[frV zeroD, .int .i64 1]) (by simp [results, Tryz.results17, go_sem, z0, z1, z2, z3]) rfl ⟨_, rfl, frOwn_zero _ _, BE.out⟩
          · obtain rfl : T = _ := HE4.out trivial hz0 HALL.out
            have hzp : 0 < zs.length := List.length_pos_iff.2 hz0
            have hzi : ¬ (zs.length : Int) = 0 := by omega
            have hzb : ((zs.length : Int) == 0) = false := by rw [beq_eq_false_iff_ne]; omega
            clear hz0
            have x0 := cell_at OF.out 0
            have x1 := cell_at OF.out 1
            have x2 := cell_at OF.out 2
            have x3 := cell_at OF.out 3
            simp at x0 x1 x2 x3
            have HFR : Hid (FrOwn wr w.heap.size ⟨1, a, j, c, none, 0, 0, none, 0, 0⟩ ⟨1, inF zs k, [], []⟩) := Lib.hid ⟨rfl, HO.out, World.ownsRow_nil _ _ _ _, [], World.ownsRow_nil _ _ _ _, rfl, fun i r s h => by simp at h⟩
            have y0 := cell_at OR.out 0
            have y1 := cell_at OR.out 1
            have y2 := cell_at OR.out 2
            have y3 := cell_at OR.out 3
            have yf := frozen_at OR.out
            simp at y0 y1 y2 y3 yf
            go_wp2_with fail
            have q := obj_setCell_at (.slice none 0 0) (i := 3) (obj_setCell_at (.slice none 0 0) (i := 2) (obj_setCell_at (.slice a j c) (i := 1) (obj_setCell_at (.int .i64 1) (i := 0) OR.out)))
            have z0 := cell_at q 0
            have z1 := cell_at q 1
            have z2 := cell_at q 2
            have z3 := cell_at q 3
            have HQ := Lib.hid q
            clear q
            simp at z0 z1 z2 z3
            have HFE := Lib.hid ((((HFR.out.setBox OR.out 0 (.int .i64 1)).setBox (obj_setCell_at (.int .i64 1) (i := 0) OR.out) 1 (.slice a j c)).setBox (obj_setCell_at (.slice a j c) (i := 1) (obj_setCell_at (.int .i64 1) (i := 0) OR.out)) 2 (.slice none 0 0)).setBox (obj_setCell_at (.slice none 0 0) (i := 2) (obj_setCell_at (.slice a j c) (i := 1) (obj_setCell_at (.int .i64 1) (i := 0) OR.out))) 3 (.slice none 0 0))
            have BE : Hid (Below w.heap.size w ((((wr.setCell ⟨w.heap.size, 0, none⟩ (.int .i64 1)).setCell ⟨w.heap.size, 1, none⟩ (.slice a j c)).setCell ⟨w.heap.size, 2, none⟩ (.slice none 0 0)).setCell ⟨w.heap.size, 3, none⟩ (.slice none 0 0))) := Lib.hid ((((HB.out.setCell (by dsimp only; omega) _).setCell (by dsimp only; omega) _).setCell (by dsimp only; omega) _).setCell (by dsimp only; omega) _)
            generalize (((wr.setCell ⟨w.heap.size, 0, none⟩ (.int .i64 1)).setCell ⟨w.heap.size, 1, none⟩ (.slice a j c)).setCell ⟨w.heap.size, 2, none⟩ (.slice none 0 0)).setCell ⟨w.heap.size, 3, none⟩ (.slice none 0 0) = wE at *
            refine bodyPost_ret (v := .tuple #[frV ⟨1, a, j, c, none, 0, 0, none, 0, 0⟩, .int .i64 0]) (by simp [results, Tryz.results17, go_sem, z0, z1, z2, z3]) rfl ⟨_, rfl, HFE.out, BE.out⟩
end Go.Proofs.YtmgpfmgmpmkkaaaGreat
