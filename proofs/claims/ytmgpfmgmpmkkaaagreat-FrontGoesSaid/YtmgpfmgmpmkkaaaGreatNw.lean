import Derived.Test.YtmgpfmgmpmkkaaaGreatAcc
namespace Go.Proofs.YtmgpfmgmpmkkaaaGreat
open Go.RowKit Go.Shelf Go.Sort

/-- what is open at first -/
def openOf (zs : List Int) : List Int := Lib.compact (zs.mergeSort fun x y => decide (x ≤ y))
def newR (l : List Vd) (zs : List Int) : FrM × Int :=
  if chk l ≠ 0 then (zeroM, 210) else if openOf zs = [] ∨ placesB l.length (openOf zs) = false then (zeroM, 1) else (⟨1, openOf zs, [], []⟩, 0)
theorem openOf_len (zs : List Int) : (openOf zs).length ≤ zs.length := Nat.le_trans (compact_len _) (by rw [List.length_mergeSort]; exact Nat.le_refl _)
set_option maxRecDepth 100000 in
set_option maxHeartbeats 4000000 in
/-- New -/
theorem new_act (w : World) (v vs : Value) (l : List Vd) (zs : List Int) (hl : SlIn w v 2 vdL l) (hs : SlIn w vs 1 intL zs) (hlen : zs.length ≤ 17592186043904) :
    Calls Tryz.prog 16 #[v, vs] w (RetFr w (newR l zs).1 (newR l zs).2) := by
  have hb0 : Below w.heap.size w (w.alloc (.cells #[.int .i64 0, .slice none 0 0, .slice none 0 0, .slice none 0 0] 27)) := (Below.refl _ w).alloc (Nat.le_refl _) _
  have orr : obj (w.alloc (.cells #[.int .i64 0, .slice none 0 0, .slice none 0 0, .slice none 0 0] 27)) w.heap.size = some (.cells #[.int .i64 0, .slice none 0 0, .slice none 0 0, .slice none 0 0] 27 (0, 0)) := obj_alloc_at _ _ _ rfl
  have hz : (w.alloc (.cells #[.int .i64 0, .slice none 0 0, .slice none 0 0, .slice none 0 0] 27)).heap.size = w.heap.size + 1 := by simp
  have HC := Lib.hid (checkA _ v l (hl.below hb0))
  have HL := Lib.hid hl
  have HS := Lib.hid hs
  have HE : Hid (newR l zs = if chk l ≠ 0 then (zeroM, 210) else if openOf zs = [] ∨ placesB l.length (openOf zs) = false then (zeroM, 1) else (⟨1, openOf zs, [], []⟩, 0)) := Lib.hid rfl
  generalize newR l zs = T at *
  generalize chk l = E at *
  have B0 := Lib.hid hb0
  have OR := Lib.hid orr
  have HZ := Lib.hid hz
  have HV : Hid (∃ la lc, v = .slice la l.length lc) := Lib.hid (by obtain ⟨la, lc, e, -⟩ := hl; exact ⟨la, lc, e⟩)
  have HLN := Lib.hid hlen
  clear hb0 orr hz hl hs hlen
  go_enter Tryz.func16, Tryz.ntmps16
  go_wp2_with fail
  generalize w.alloc (.cells #[.int .i64 0, .slice none 0 0, .slice none 0 0, .slice none 0 0] 27) = w0 at *
  have hz := HZ.out
  refine HC.out.mono ?_
  rintro e w1 ⟨rfl, b1⟩
  have hz1 := b1.size
  have OR1 := Lib.hid ((obj_below b1 (lt_of_obj OR.out)).trans OR.out)
  have B1 : Hid (Below w.heap.size w w1) := Lib.hid (B0.out.trans (b1.mono (by omega)))
  clear HC b1 OR B0
  by_cases hE : E = 0
  case neg =>
    obtain rfl : T = (zeroM, 210) := by rw [HE.out, if_pos hE]
    have y0 := cell_at OR1.out 0
    have y1 := cell_at OR1.out 1
    have y2 := cell_at OR1.out 2
    have y3 := cell_at OR1.out 3
    have yf := frozen_at OR1.out
    simp at y0 y1 y2 y3 yf
    go_wp2_with fail
    have q := obj_setCell_at (.slice none 0 0) (i := 3) (obj_setCell_at (.slice none 0 0) (i := 2) (obj_setCell_at (.slice none 0 0) (i := 1) (obj_setCell_at (.int .i64 0) (i := 0) OR1.out)))
    have z0 := cell_at q 0
    have z1 := cell_at q 1
    have z2 := cell_at q 2
    have z3 := cell_at q 3
    have HQ := Lib.hid q
    clear q
    simp at z0 z1 z2 z3
    have BE : Hid (Below w.heap.size w ((((w1.setCell ⟨w.heap.size, 0, none⟩ (.int .i64 0)).setCell ⟨w.heap.size, 1, none⟩ (.slice none 0 0)).setCell ⟨w.heap.size, 2, none⟩ (.slice none 0 0)).setCell ⟨w.heap.size, 3, none⟩ (.slice none 0 0))) := Lib.hid ((((B1.out.setCell (by simp) _).setCell (by simp) _).setCell (by simp) _).setCell (by simp) _)
    generalize (((w1.setCell ⟨w.heap.size, 0, none⟩ (.int .i64 0)).setCell ⟨w.heap.size, 1, none⟩ (.slice none 0 0)).setCell ⟨w.heap.size, 2, none⟩ (.slice none 0 0)).setCell ⟨w.heap.size, 3, none⟩ (.slice none 0 0) = wE at *
    refine bodyPost_ret (v := .tuple #[frV zeroD, .int .i64 210]) (by simp [results, Tryz.results16, go_sem, z0, z1, z2, z3]) rfl ⟨_, rfl, frOwn_zero _ _, BE.out⟩
  subst hE
  have HT : Hid (T = if openOf zs = [] ∨ placesB l.length (openOf zs) = false then (zeroM, 1) else (⟨1, openOf zs, [], []⟩, 0)) := Lib.hid (by rw [HE.out, if_neg (by simp)])
  clear HE
  have HCL := Lib.hid (clone_ints w1 vs zs (HS.out.below B1.out) HLN.out)
  go_wp2_with fail
  refine HCL.out.mono ?_
  rintro e w2 ⟨v2, rfl, o2, b2⟩
  have hz2 := b2.size
  have OR2 := Lib.hid ((obj_below b2 (lt_of_obj OR1.out)).trans OR1.out)
  have B2 : Hid (Below w.heap.size w w2) := Lib.hid (B1.out.trans (b2.mono (by omega)))
  have HSO := Lib.hid (sort_ints w2 w1.heap.size v2 zs o2 HLN.out)
  have HO2 := Lib.hid o2
  clear HCL o2 b2 OR1 B1
  go_wp2_with fail
  refine HSO.out.mono ?_
  rintro e w3 ⟨rfl, o3, k3⟩
  have hz3 := k3.size
  have HNR : Hid (∀ j, v2.ownBlock = some j → w1.heap.size ≤ j) := Lib.hid (fun j hj => (HO2.out.lt hj).1)
  have OR3 := Lib.hid ((k3.block w.heap.size (by omega) (fun e => by have := HNR.out _ e; omega)).trans OR2.out)
  have B3 : Hid (Below w.heap.size w w3) := Lib.hid (B2.out.trans (k3.below (fun g hg => by have := HNR.out _ hg; omega) (by omega)))
  have HO3 := Lib.hid o3
  have HCO := Lib.hid (compact_ints w3 w1.heap.size v2 _ o3 (by rw [List.length_mergeSort]; exact HLN.out))
  clear HSO o3 k3 OR2 B2 HO2
  go_wp2_with fail
  refine HCO.out.mono ?_
  rintro e w4 ⟨v4, rfl, o4, k4⟩
  have hz4 := k4.size
  obtain ⟨a4, c4, e4⟩ := o4.slice
  have HO4 : Hid (OwnC w4 w1.heap.size 3 1 intL v4 (openOf zs)) := Lib.hid o4
  have hln : (openOf zs).length = (openOf zs).length := rfl
  have e5 : v4 = .slice a4 (openOf zs).length c4 := e4
  have OR4 := Lib.hid ((k4.block w.heap.size (by omega) (fun e => by have := HNR.out _ e; omega)).trans OR3.out)
  have B4 : Hid (Below w.heap.size w w4) := Lib.hid (B3.out.trans (k4.below (fun g hg => by have := HNR.out _ hg; omega) (by omega)))
  have hol := openOf_len zs
  have HOL := Lib.hid hol
  clear HCO o4 k4 OR3 B3 HO3 e4 hln hol
  generalize hgo : openOf zs = op at *
  generalize hn4 : op.length = n4 at *
  subst e5
  obtain ⟨la, lc, rfl⟩ := HV.out
  have HP := Lib.hid (places_any w4 la l.length lc (.slice a4 n4 c4) op (HO4.out.slIn intL_length) (by have := HLN.out; have := HOL.out; omega))
  have HN4 := Lib.hid hn4
  clear hgo hn4
  have hr4 := lt_of_obj OR4.out
  by_cases h0 : n4 = 0
  case pos =>
    obtain rfl : T = (zeroM, 1) := by rw [HT.out, if_pos (.inl (List.length_eq_zero_iff.1 (HN4.out.trans h0)))]
    subst h0
    have y0 := cell_at OR4.out 0
    have y1 := cell_at OR4.out 1
    have y2 := cell_at OR4.out 2
    have y3 := cell_at OR4.out 3
    have yf := frozen_at OR4.out
    simp at y0 y1 y2 y3 yf
    go_wp2_with fail
    have q := obj_setCell_at (.slice none 0 0) (i := 3) (obj_setCell_at (.slice none 0 0) (i := 2) (obj_setCell_at (.slice none 0 0) (i := 1) (obj_setCell_at (.int .i64 0) (i := 0) OR4.out)))
    have z0 := cell_at q 0
    have z1 := cell_at q 1
    have z2 := cell_at q 2
    have z3 := cell_at q 3
    have HQ := Lib.hid q
    clear q
    simp at z0 z1 z2 z3
    have BE : Hid (Below w.heap.size w ((((w4.setCell ⟨w.heap.size, 0, none⟩ (.int .i64 0)).setCell ⟨w.heap.size, 1, none⟩ (.slice none 0 0)).setCell ⟨w.heap.size, 2, none⟩ (.slice none 0 0)).setCell ⟨w.heap.size, 3, none⟩ (.slice none 0 0))) := Lib.hid ((((B4.out.setCell (by simp) _).setCell (by simp) _).setCell (by simp) _).setCell (by simp) _)
    generalize (((w4.setCell ⟨w.heap.size, 0, none⟩ (.int .i64 0)).setCell ⟨w.heap.size, 1, none⟩ (.slice none 0 0)).setCell ⟨w.heap.size, 2, none⟩ (.slice none 0 0)).setCell ⟨w.heap.size, 3, none⟩ (.slice none 0 0) = wE at *
    refine bodyPost_ret (v := .tuple #[frV zeroD, .int .i64 1]) (by simp [results, Tryz.results16, go_sem, z0, z1, z2, z3]) rfl ⟨_, rfl, frOwn_zero _ _, BE.out⟩
  have h0i : ¬ (n4 : Int) = 0 := by omega
  have HNE : Hid (op ≠ []) := Lib.hid (fun e => h0 (by rw [← HN4.out, e]; rfl))
  cases hp : placesB l.length op with
  | false =>
    obtain rfl : T = (zeroM, 1) := by rw [HT.out, if_pos (.inr hp)]
    rw [hp] at HP
    have y0 := cell_at OR4.out 0
    have y1 := cell_at OR4.out 1
    have y2 := cell_at OR4.out 2
    have y3 := cell_at OR4.out 3
    have yf := frozen_at OR4.out
    simp at y0 y1 y2 y3 yf
    go_wp2_with fail
    refine HP.out.mono ?_
    rintro e w5 ⟨rfl, hw5⟩
    cases hw5
    go_wp2_with fail
    have q := obj_setCell_at (.slice none 0 0) (i := 3) (obj_setCell_at (.slice none 0 0) (i := 2) (obj_setCell_at (.slice none 0 0) (i := 1) (obj_setCell_at (.int .i64 0) (i := 0) OR4.out)))
    have z0 := cell_at q 0
    have z1 := cell_at q 1
    have z2 := cell_at q 2
    have z3 := cell_at q 3
    have HQ := Lib.hid q
    clear q
    simp at z0 z1 z2 z3
    have BE : Hid (Below w.heap.size w ((((w4.setCell ⟨w.heap.size, 0, none⟩ (.int .i64 0)).setCell ⟨w.heap.size, 1, none⟩ (.slice none 0 0)).setCell ⟨w.heap.size, 2, none⟩ (.slice none 0 0)).setCell ⟨w.heap.size, 3, none⟩ (.slice none 0 0))) := Lib.hid ((((B4.out.setCell (by simp) _).setCell (by simp) _).setCell (by simp) _).setCell (by simp) _)
    generalize (((w4.setCell ⟨w.heap.size, 0, none⟩ (.int .i64 0)).setCell ⟨w.heap.size, 1, none⟩ (.slice none 0 0)).setCell ⟨w.heap.size, 2, none⟩ (.slice none 0 0)).setCell ⟨w.heap.size, 3, none⟩ (.slice none 0 0) = wE at *
    refine bodyPost_ret (v := .tuple #[frV zeroD, .int .i64 1]) (by simp [results, Tryz.results16, go_sem, z0, z1, z2, z3]) rfl ⟨_, rfl, frOwn_zero _ _, BE.out⟩
  | true =>
    obtain rfl : T = (⟨1, op, [], []⟩, 0) := by rw [HT.out, if_neg (by rintro (h | h); exact HNE.out h; rw [hp] at h; cases h)]
    rw [hp] at HP
    have HF4 : Hid (FrOwn w4 w.heap.size ⟨1, a4, n4, c4, none, 0, 0, none, 0, 0⟩ ⟨1, op, [], []⟩) := Lib.hid ⟨rfl, HO4.out.mono (by omega), World.ownsRow_nil _ _ _ _, [], World.ownsRow_nil _ _ _ _, rfl, fun i r s h _ => by simp at h⟩
    have y0 := cell_at OR4.out 0
    have y1 := cell_at OR4.out 1
    have y2 := cell_at OR4.out 2
    have y3 := cell_at OR4.out 3
    have yf := frozen_at OR4.out
    simp at y0 y1 y2 y3 yf
    go_wp2_with fail
    refine HP.out.mono ?_
    rintro e w5 ⟨rfl, hw5⟩
    cases hw5
    go_wp2_with fail
    have q := obj_setCell_at (.slice none 0 0) (i := 3) (obj_setCell_at (.slice none 0 0) (i := 2) (obj_setCell_at (.slice a4 n4 c4) (i := 1) (obj_setCell_at (.int .i64 1) (i := 0) OR4.out)))
    have z0 := cell_at q 0
    have z1 := cell_at q 1
    have z2 := cell_at q 2
    have z3 := cell_at q 3
    have HQ := Lib.hid q
    clear q
    simp at z0 z1 z2 z3
    have HFE := Lib.hid ((((HF4.out.setBox OR4.out 0 (.int .i64 1)).setBox (obj_setCell_at (.int .i64 1) (i := 0) OR4.out) 1 (.slice a4 n4 c4)).setBox (obj_setCell_at (.slice a4 n4 c4) (i := 1) (obj_setCell_at (.int .i64 1) (i := 0) OR4.out)) 2 (.slice none 0 0)).setBox (obj_setCell_at (.slice none 0 0) (i := 2) (obj_setCell_at (.slice a4 n4 c4) (i := 1) (obj_setCell_at (.int .i64 1) (i := 0) OR4.out))) 3 (.slice none 0 0))
    have BE : Hid (Below w.heap.size w ((((w4.setCell ⟨w.heap.size, 0, none⟩ (.int .i64 1)).setCell ⟨w.heap.size, 1, none⟩ (.slice a4 n4 c4)).setCell ⟨w.heap.size, 2, none⟩ (.slice none 0 0)).setCell ⟨w.heap.size, 3, none⟩ (.slice none 0 0))) := Lib.hid ((((B4.out.setCell (by simp) _).setCell (by simp) _).setCell (by simp) _).setCell (by simp) _)
    generalize (((w4.setCell ⟨w.heap.size, 0, none⟩ (.int .i64 1)).setCell ⟨w.heap.size, 1, none⟩ (.slice a4 n4 c4)).setCell ⟨w.heap.size, 2, none⟩ (.slice none 0 0)).setCell ⟨w.heap.size, 3, none⟩ (.slice none 0 0) = wE at *
    refine bodyPost_ret (v := .tuple #[frV ⟨1, a4, n4, c4, none, 0, 0, none, 0, 0⟩, .int .i64 0]) (by simp [results, Tryz.results16, go_sem, z0, z1, z2, z3]) rfl ⟨_, rfl, HFE.out, BE.out⟩
end Go.Proofs.YtmgpfmgmpmkkaaaGreat
