import Derived.Test.YtmenfbfekfljbaaWins
namespace Go.Proofs.Ytmenfbfekfljbaa
open Go.RowKit Go.Shelf

@[go_sem] theorem winL_g0 (x : WinD) (h : 0 < (winL x).length) : (winL x)[0]'h = .int .i64 x.node := Option.some.inj ((List.getElem?_eq_getElem h).symm.trans (winL_0 x))
@[go_sem] theorem winL_g33 (x : WinD) (h : 33 < (winL x).length) : (winL x)[33]'h = .int .i64 x.move := Option.some.inj ((List.getElem?_eq_getElem h).symm.trans (winL_33 x))
@[go_sem] theorem winL_g34 (x : WinD) (h : 34 < (winL x).length) : (winL x)[34]'h = .slice x.vo.a x.vo.len x.vo.cap := Option.some.inj ((List.getElem?_eq_getElem h).symm.trans (winL_34 x))
set_option maxRecDepth 100000 in
set_option maxHeartbeats 2000000 in
theorem eqI_any (w : World) (v1 v2 : Value) (xs : List Int) (h1 : SlIn w v1 1 iL xs) (h2 : SlIn w v2 1 iL xs) :
    Calls Try.prog 62 #[v1, v2] w fun e w' => e = .returned (.bool true) ∧ Below w.heap.size w w' := by
  obtain ⟨o1, c1, rfl, a1, a2, a3⟩ := h1
  obtain ⟨o2, c2, rfl, b1, b2, b3⟩ := h2
  have A3 := Lib.hid a3
  have B3 := Lib.hid b3
  unfold maxLen at a2 b2
  clear a3 b3
  go_enter Try.func62, Try.ntmps62
  go_wp2
  go_loopw [13] (fun v13 wr => ∃ (k : Nat), k ≤ xs.length ∧ v13 = .int .i64 k ∧ Hid (Below w.heap.size w wr)) (fun i _ => xs.length - (intOf i).toNat)
  case atStart => exact ⟨0, Nat.zero_le _, rfl, Lib.hid (Below.refl _ _)⟩
  case round =>
    obtain ⟨k, hk, rfl, HQ⟩ := hrel
    by_cases hlt : k < xs.length
    · obtain ⟨p1, q1, rfl, r1, s1⟩ := A3.out (by omega)
      obtain ⟨p2, q2, rfl, r2, s2⟩ := B3.out (by omega)
      have x1 := int_cell s1 (obj_below HQ.out r1) hlt
      have x2 := int_cell s2 (obj_below HQ.out r2) hlt
      have l1 := Nat.lt_of_lt_of_le r1 HQ.out.size
      have l2 := Nat.lt_of_lt_of_le r2 HQ.out.size
      generalize xs[k] = x at *
      clear s1 s2
      have HQN : ∀ n : Nat, Hid (Below w.heap.size w (wr.drewN n)) := fun n => Lib.hid ⟨HQ.out.os, HQ.out.tape, HQ.out.output, HQ.out.size, HQ.out.block⟩
      go_wp2
      go_quiet (fail)
      go_wp2
      go_roundw
      case rel => exact ⟨k + 1, by omega, by go_num, HQN _⟩
      case measure => simp [intOf]; omega
    · go_wp2
      go_ret
      exact ⟨rfl, HQ.out⟩
def VqS (w : World) (v : Value) (vq : List (SlD × List Int)) : Prop := SlIn w v 1 qL vq ∧ ∀ q ∈ vq, SlIn w (slV q.1) 1 iL q.2
theorem VqS.below {w W : World} {v : Value} {vq : List (SlD × List Int)} (h : VqS w v vq) (hb : Below w.heap.size w W) : VqS W v vq := ⟨h.1.below hb, fun q hq => (h.2 q hq).below hb⟩
theorem VqIn.sl {w : World} {base : Nat} {v : Value} {vq : List (SlD × List Int)} (h : VqIn w base v vq) : VqS w v vq := ⟨h.1.slIn qL_length, fun q hq => (h.2 q hq).slIn iL_length⟩
theorem q_cell {w W : World} {b off : Nat} {vq : List (SlD × List Int)} (h : RowAt w b off 1 qL vq) (e : obj W b = obj w b) {j : Nat} (hj : j < vq.length) : W.cell? ⟨b, off + j, none⟩ = some (slV vq[j].1) := by
  have h1 := h j hj
  rw [← e, Nat.mul_one] at h1
  have := subOf_cell h1 (j := 0) (by decide)
  rw [Nat.add_zero] at this
  rw [this]
  rfl
theorem eg62 : ∀ args w, (callFunc 62 args).run Try.prog w = .ok (.enter 62 args) w := enters_of Try.func62 (by kernel_rfl) rfl
theorem eg60 : ∀ args w, (callFunc 60 args).run Try.prog w = .ok (.enter 60 args) w := enters_of Try.func60 (by kernel_rfl) rfl
set_option maxRecDepth 100000 in
set_option maxHeartbeats 2000000 in
theorem eqQ_any (w : World) (v1 v2 : Value) (xs ys : List (SlD × List Int)) (h1 : VqS w v1 xs) (h2 : VqS w v2 ys) (he : xs.map (·.2) = ys.map (·.2)) :
    Calls Try.prog 61 #[v1, v2, .func (.func 62) #[] #[]] w fun e w' => e = .returned (.bool true) ∧ Below w.heap.size w w' := by
  have hl : xs.length = ys.length := by have := congrArg List.length he; simpa using this
  have HG : Hid (∀ k (h : k < xs.length) (h' : k < ys.length), xs[k].2 = ys[k].2) := Lib.hid fun k h h' => by
    have := congrArg (·[k]?) he
    simp [h, h'] at this
    exact this
  have HV1 := Lib.hid h1.2
  have HV2 := Lib.hid h2.2
  obtain ⟨o1, c1, rfl, a1, a2, a3⟩ := h1.1
  obtain ⟨o2, c2, rfl, b1, b2, b3⟩ := h2.1
  have A3 := Lib.hid a3
  have B3 := Lib.hid b3
  unfold maxLen at a2 b2
  rw [← hl] at b1 B3
  rw [← hl]
  have HLL := Lib.hid hl
  clear a3 b3 h1 h2 he hl
  have e62 := eg62
  go_enter Try.func61, Try.ntmps61
  go_wp2
  go_loopw [17] (fun v17 wr => ∃ (k : Nat), k ≤ xs.length ∧ v17 = .int .i64 k ∧ Hid (Below w.heap.size w wr)) (fun i _ => xs.length - (intOf i).toNat)
  case atStart => exact ⟨0, Nat.zero_le _, rfl, Lib.hid (Below.refl _ _)⟩
  case round =>
    obtain ⟨k, hk, rfl, HQ⟩ := hrel
    have hzq := HQ.out.size
    by_cases hlt : k < xs.length
    · have hlt2 : k < ys.length := by have := HLL.out; omega
      obtain ⟨p1, q1, rfl, r1, s1⟩ := A3.out (by omega)
      obtain ⟨p2, q2, rfl, r2, s2⟩ := B3.out (by omega)
      have x1 := q_cell s1 (obj_below HQ.out r1) hlt
      have x2 := q_cell s2 (obj_below HQ.out r2) hlt2
      have l1 := Nat.lt_of_lt_of_le r1 HQ.out.size
      have l2 := Nat.lt_of_lt_of_le r2 HQ.out.size
      have G := HG.out k hlt hlt2
      have U1 := (HV1.out xs[k] (List.getElem_mem hlt)).below HQ.out
      have U2 := (HV2.out ys[k] (List.getElem_mem hlt2)).below HQ.out
      rw [← G] at U2
      have HE := Lib.hid (eqI_any wr _ _ _ U1 U2)
      generalize xs[k].1 = s at *
      generalize ys[k].1 = s' at *
      generalize xs[k].2 = z at *
      obtain ⟨sa, sl, sc⟩ := s
      obtain ⟨sa', sl', sc'⟩ := s'
      simp only [slV] at x1 x2 HE
      clear s1 s2 U1 U2 G hlt2
      go_wp2_with fail
      refine HE.out.mono ?_
      rintro e w1 ⟨rfl, b1⟩
      have HQ1 := Lib.hid (HQ.out.trans (b1.mono hzq))
      clear b1 HE
      go_wp2
      go_roundw
      case rel => exact ⟨k + 1, by omega, by go_num, HQ1⟩
      case measure => simp [intOf]; omega
    · go_wp2
      go_ret
      exact ⟨rfl, HQ.out⟩
set_option maxRecDepth 100000 in
set_option maxHeartbeats 2000000 in
theorem win_clo (w : World) (z1 z2 : WinX) (h1 : VqS w (slV z1.w.vo) z1.vq) (h2 : VqS w (slV z2.w.vo) z2.vq) (he : z1.m = z2.m) :
    Calls Try.prog 60 #[.agg (winL z1.w).toArray, .agg (winL z2.w).toArray] w fun e w' => e = .returned (.bool true) ∧ Below w.heap.size w w' := by
  obtain ⟨⟨nd, id, mv, ⟨va, vl, vc⟩⟩, vq⟩ := z1
  obtain ⟨⟨nd', id', mv', ⟨va', vl', vc'⟩⟩, vq'⟩ := z2
  simp only [WinX.m, WinM.mk.injEq] at he
  obtain ⟨rfl, rfl, rfl, he⟩ := he
  simp only [slV] at h1 h2
  have B0 := Lib.hid (((Below.refl _ w).alloc (Nat.le_refl _) (.cells (winL ⟨nd, id, mv, ⟨va, vl, vc⟩⟩).toArray 74)).alloc (by simp) (.cells (winL ⟨nd, id, mv, ⟨va', vl', vc'⟩⟩).toArray 74))
  have O0 : obj ((w.alloc (.cells (winL ⟨nd, id, mv, ⟨va, vl, vc⟩⟩).toArray 74)).alloc (.cells (winL ⟨nd, id, mv, ⟨va', vl', vc'⟩⟩).toArray 74)) w.heap.size = some (.cells (winL ⟨nd, id, mv, ⟨va, vl, vc⟩⟩).toArray 74 (0, 0)) := by simp [go_sem]
  have O1 : obj ((w.alloc (.cells (winL ⟨nd, id, mv, ⟨va, vl, vc⟩⟩).toArray 74)).alloc (.cells (winL ⟨nd, id, mv, ⟨va', vl', vc'⟩⟩).toArray 74)) (w.heap.size + 1) = some (.cells (winL ⟨nd, id, mv, ⟨va', vl', vc'⟩⟩).toArray 74 (0, 0)) := by simp [go_sem]
  have HE := Lib.hid (eqQ_any _ _ _ vq vq' (h1.below B0.out) (h2.below B0.out) he)
  have hz : ((w.alloc (.cells (winL ⟨nd, id, mv, ⟨va, vl, vc⟩⟩).toArray 74)).alloc (.cells (winL ⟨nd, id, mv, ⟨va', vl', vc'⟩⟩).toArray 74)).heap.size = w.heap.size + 2 := by simp
  clear h1 h2 he
  go_enter Try.func60, Try.ntmps60
  go_wp2_with fail
  refine HE.out.mono ?_
  rintro e w1 ⟨rfl, b1⟩
  have B1 := Lib.hid (B0.out.trans (b1.mono B0.out.size))
  clear b1
  go_wp2
  go_ret
  exact ⟨rfl, B1.out⟩
def WinS (w : World) (v : Value) (zs : List WinX) : Prop := SlIn w v 35 wxL zs ∧ ∀ z ∈ zs, VqS w (slV z.w.vo) z.vq
theorem WinS.below {w W : World} {v : Value} {zs : List WinX} (h : WinS w v zs) (hb : Below w.heap.size w W) : WinS W v zs := ⟨h.1.below hb, fun q hq => (h.2 q hq).below hb⟩
theorem WinsIn.sl {w : World} {base : Nat} {v : Value} {zs : List WinX} (h : WinsIn w base v zs) : WinS w v zs := ⟨h.1.slIn wxL_length, fun q hq => (h.2 q hq).sl⟩
set_option maxRecDepth 100000 in
set_option maxHeartbeats 4000000 in
theorem eqW_any (w : World) (v1 v2 : Value) (xs ys : List WinX) (h1 : WinS w v1 xs) (h2 : WinS w v2 ys) (he : xs.map WinX.m = ys.map WinX.m) :
    Calls Try.prog 59 #[v1, v2, .func (.func 60) #[] #[]] w fun e w' => e = .returned (.bool true) ∧ Below w.heap.size w w' := by
  have hl : xs.length = ys.length := by have := congrArg List.length he; simpa using this
  have HG : Hid (∀ k (h : k < xs.length) (h' : k < ys.length), xs[k].m = ys[k].m) := Lib.hid fun k h h' => by
    have := congrArg (·[k]?) he
    simp [h, h'] at this
    exact this
  have HV1 := Lib.hid h1.2
  have HV2 := Lib.hid h2.2
  obtain ⟨o1, c1, rfl, a1, a2, a3⟩ := h1.1
  obtain ⟨o2, c2, rfl, b1, b2, b3⟩ := h2.1
  have A3 := Lib.hid a3
  have B3 := Lib.hid b3
  unfold maxLen at a2 b2
  rw [← hl] at b1 B3
  rw [← hl]
  have HLL := Lib.hid hl
  clear a3 b3 h1 h2 he hl
  have e60 := eg60
  go_enter Try.func59, Try.ntmps59
  go_wp2
  go_loopw [17] (fun v17 wr => ∃ (k : Nat), k ≤ xs.length ∧ v17 = .int .i64 k ∧ Hid (Below w.heap.size w wr)) (fun i _ => xs.length - (intOf i).toNat)
  case atStart => exact ⟨0, Nat.zero_le _, rfl, Lib.hid (Below.refl _ _)⟩
  case round =>
    obtain ⟨k, hk, rfl, HQ⟩ := hrel
    have hzq := HQ.out.size
    by_cases hlt : k < xs.length
    · have hlt2 : k < ys.length := by have := HLL.out; omega
      obtain ⟨p1, q1, rfl, r1, s1⟩ := A3.out (by omega)
      obtain ⟨p2, q2, rfl, r2, s2⟩ := B3.out (by omega)
      have hs1 : subOf (obj wr p1) (q1 + k * 35) 35 = some (winL xs[k].w).toArray := by have := s1 k hlt; rw [← obj_below HQ.out r1] at this; exact this
      have hs2 : subOf (obj wr p2) (q2 + k * 35) 35 = some (winL ys[k].w).toArray := by have := s2 k hlt2; rw [← obj_below HQ.out r2] at this; exact this
      have l1 := Nat.lt_of_lt_of_le r1 HQ.out.size
      have l2 := Nat.lt_of_lt_of_le r2 HQ.out.size
      have b0 : Below wr.heap.size wr ((wr.alloc (.cells (winL xs[k].w).toArray 74)).alloc (.cells (winL ys[k].w).toArray 74)) := ((Below.refl _ wr).alloc (Nat.le_refl _) (.cells (winL xs[k].w).toArray 74)).alloc (by simp) (.cells (winL ys[k].w).toArray 74)
      have U1 := ((HV1.out xs[k] (List.getElem_mem hlt)).below HQ.out).below b0
      have U2 := ((HV2.out ys[k] (List.getElem_mem hlt2)).below HQ.out).below b0
      have HE := Lib.hid (win_clo _ xs[k] ys[k] U1 U2 (HG.out k hlt hlt2))
      have HQB := Lib.hid (HQ.out.trans (b0.mono hzq))
      have hz : ((wr.alloc (.cells (winL xs[k].w).toArray 74)).alloc (.cells (winL ys[k].w).toArray 74)).heap.size = wr.heap.size + 2 := by simp
      clear s1 s2 U1 U2 b0
      generalize xs[k].w = z at *
      generalize ys[k].w = z' at *
      clear hlt2
      go_wp2_with fail
      refine HE.out.mono ?_
      rintro e w1 ⟨rfl, b1⟩
      have HQ1 := Lib.hid (HQB.out.trans (b1.mono (by simp; omega)))
      clear b1 HE hs1 hs2
      go_wp2
      go_roundw
      case rel => exact ⟨k + 1, by omega, by go_num, HQ1⟩
      case measure => simp [intOf]; omega
    · go_wp2
      go_ret
      exact ⟨rfl, HQ.out⟩
set_option maxRecDepth 100000 in
theorem same_any (w : World) (v1 v2 : Value) (xs ys : List WinX) (h1 : WinS w v1 xs) (h2 : WinS w v2 ys) (he : xs.map WinX.m = ys.map WinX.m) :
    Calls Try.prog 39 #[v1, v2] w fun e w' => e = .returned (.bool true) ∧ Below w.heap.size w w' := by
  have HE := Lib.hid (eqW_any w v1 v2 xs ys h1 h2 he)
  clear h1 h2 he
  go_enter Try.func39, Try.ntmps39
  go_wp2_with fail
  refine HE.out.mono ?_
  rintro e w1 ⟨rfl, b1⟩
  have B1 := Lib.hid b1
  clear b1
  go_wp2
  go_ret
  exact ⟨rfl, B1.out⟩
end Go.Proofs.Ytmenfbfekfljbaa
