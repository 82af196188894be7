import Derived.Test.YtagpclgappcnbaaGreatBeF
namespace Go.Proofs.YtagpclgappcnbaaGreat.Be
open Go.RowKit

/-! ### acts -/
/-! ### a row of numbers -/
def rowC (R : List Int) : Array Value := (R.map fun x => Value.int .i64 x).toArray
theorem info3' : (Tryz.prog.info? 3).map (fun i => (i.zero, i.size, i.bytes)) = some (some (.int .i64 0), 1, 8) := by kernel_rfl
theorem rowC_get (R : List Int) {i : Nat} (h : i < R.length) : (rowC R)[i]? = some (.int .i64 R[i]) := by simp [rowC, h]
theorem rowC_size (R : List Int) : (rowC R).size = R.length := by simp [rowC]
theorem rowC_set (R : List Int) (i : Nat) (x : Int) : (rowC R).setIfInBounds i (.int .i64 x) = rowC (R.set i x) := by
  unfold rowC
  simp [List.map_set]
theorem may0 {r : Rul} {l : List Vd} (hr : ruleE r = 0) (hc : chk l = 0) : mayE r l (List.replicate l.length ⟨0, 0, 0⟩) = 0 := by
  unfold mayE
  rw [if_pos]
  refine ⟨hr, hc, by simp, ?_⟩
  rw [List.all_eq_true]
  intro x hx
  rw [(List.mem_replicate.1 hx).2]
  decide
end Go.Proofs.YtagpclgappcnbaaGreat.Be
namespace Go.Proofs.YtagpclgappcnbaaGreat
open Go.RowKit
open Go.Proofs.YtagpclgappcnbaaGreat.Be
theorem OwnS.rebase {α : Type} {w : World} {base base' E k : Nat} {enc : α → List Value} {v : Value} {xs : List α} (h : OwnS w base' E k enc v xs) (hb : base ≤ base') : OwnS w base E k enc v xs :=
  ⟨⟨h.1.1, by
    rcases h.1.2 with h1 | ⟨g', c', cur, e, hb', h1⟩
    · exact .inl h1
    · exact .inr ⟨g', c', cur, e, Nat.le_trans hb hb', h1⟩⟩, h.2⟩
end Go.Proofs.YtagpclgappcnbaaGreat
namespace Go.Proofs.YtagpclgappcnbaaGreat.Be
open Go.RowKit
end Go.Proofs.YtagpclgappcnbaaGreat.Be
namespace Go.Proofs.YtagpclgappcnbaaGreat.Be
open Go.RowKit

/-! ### plain: numbers in words of 31 bits -/
def val : List Int → Int
  | [] => 0
  | d :: r => d + 2147483648 * val r
def pw : Nat → Int
  | 0 => 1
  | n + 1 => 2147483648 * pw n
theorem val_set : ∀ (L : List Int) (j : Nat) (d : Int) (h : j < L.length), val (L.set j d) = val L + (d - L[j]) * pw j := by
  intro L
  induction L with
  | nil => intro j d h; simp at h
  | cons x L ih =>
    intro j d h
    cases j with
    | zero => simp only [List.set_cons_zero, val, List.getElem_cons_zero, pw]; omega
    | succ j =>
      have := ih j d (by simpa using h)
      simp only [List.set_cons_succ, val, List.getElem_cons_succ, pw, this]
      grind
/-- all words are words -/
def DigOK (L : List Int) : Prop := ∀ x ∈ L, 0 ≤ x ∧ x < 2147483648
theorem DigOK.set {L : List Int} (h : DigOK L) (j : Nat) {d : Int} (h0 : 0 ≤ d) (h1 : d < 2147483648) : DigOK (L.set j d) := fun x hx => by
  rcases List.mem_or_eq_of_mem_set hx with hx | rfl
  · exact h x hx
  · exact ⟨h0, h1⟩
theorem DigOK.at {L : List Int} (h : DigOK L) {j : Nat} (hj : j < L.length) : 0 ≤ L[j] ∧ L[j] < 2147483648 := h _ (List.getElem_mem hj)
theorem val_drop (L : List Int) (j : Nat) (h : j < L.length) : val (L.drop j) = L[j] + 2147483648 * val (L.drop (j + 1)) := by
  rw [List.drop_eq_getElem_cons h]; rfl
theorem val_gt {L M : List Int} (hl : DigOK L) (hm : DigOK M) (he : L.length = M.length) : ∀ (j : Nat), j ≤ L.length → val (M.drop j) < val (L.drop j) → val M < val L := by
  intro j
  induction j with
  | zero => intro _ h; simpa using h
  | succ j ih =>
    intro hj h
    refine ih (by omega) ?_
    rw [val_drop L j (by omega), val_drop M j (by omega)]
    have h1 := hl.at (show j < L.length by omega)
    have h2 := hm.at (show j < M.length by omega)
    omega
/-- the words of a number -/
def dig3 (a : Int) : List Int := [a % 2147483648, a / 2147483648 % 2147483648, a / 4611686018427387904]
theorem dig3_ok {a : Int} (h0 : 0 ≤ a) (h1 : a < 9223372036854775808) : DigOK (dig3 a) ∧ val (dig3 a) = a := by
  constructor
  · intro x hx
    simp only [dig3, List.mem_cons, List.not_mem_nil, or_false] at hx
    rcases hx with rfl | rfl | rfl <;> omega
  · simp only [dig3, val]; omega
/-- one step of the long product -/
theorem step_val {L X Y : List Int} {i k : Nat} {c v P : Int} (hi : i + k < L.length) (hx : i < X.length) (hy : k < Y.length) (hv : v = L[i + k] + c + X[i] * Y[k])
    (h : val L + c * pw (i + k) = P + X[i] * pw i * val (Y.take k)) : val (L.set (i + k) (v % 2147483648)) + v / 2147483648 * pw (i + k + 1) = P + X[i] * pw i * val (Y.take (k + 1)) := by
  have hp : pw (i + k + 1) = 2147483648 * pw (i + k) := rfl
  have hpa : ∀ i k, pw (i + k) = pw i * pw k := by
    intro i k
    induction k with
    | zero => simp [pw]
    | succ k ih => rw [show i + (k + 1) = (i + k) + 1 by omega]; simp only [pw, ih]; grind
  have hvt : ∀ (Y : List Int) (k : Nat) (hk : k < Y.length), val (Y.take (k + 1)) = val (Y.take k) + Y[k] * pw k := by
    intro Y
    induction Y with
    | nil => intro k hk; simp at hk
    | cons y Y ih =>
      intro k hk
      cases k with
      | zero => simp [val, pw]
      | succ k =>
        have := ih k (by simpa using hk)
        simp only [List.take_succ_cons, val, List.getElem_cons_succ, pw] at this ⊢
        rw [this]
        grind
  have hd : v % 2147483648 + 2147483648 * (v / 2147483648) = v := Int.emod_add_mul_ediv v 2147483648
  rw [val_set _ _ _ hi, hvt Y k hy, hp, hpa]
  rw [hpa] at h
  generalize v % 2147483648 = r at *
  generalize v / 2147483648 = q at *
  generalize pw i = p1 at *
  generalize pw k = p2 at *
  generalize L[i + k] = lk at *
  grind
end Go.Proofs.YtagpclgappcnbaaGreat.Be
namespace Go.Proofs.YtagpclgappcnbaaGreat.Be
open Go.RowKit

@[go_sem ↓] theorem hide_load71 (a : Addr) : loadVar 173 a = loadAgg 173 a := rfl
@[go_sem ↓] theorem hide_store71 (a : Addr) (v : Value) : storeVar 173 a v = storeAgg 173 a v := rfl
@[go_sem] theorem run_load71 (b off : Nat) (W : World) : (loadAgg 173 ⟨b, off, none⟩).run Tryz.prog W = loadRes Tryz.prog 173 ⟨b, off, none⟩ W (subOf (obj W b) off 6) := run_loadAgg Tryz.isAgg173 Tryz.sizeOf173 b off W
@[go_sem] theorem run_store71 (b off : Nat) (cs : Array Value) (W : World) : (storeAgg 173 ⟨b, off, none⟩ (.agg cs)).run Tryz.prog W = storeRes Tryz.prog 173 ⟨b, off, none⟩ (.agg cs) W (putOf (obj W b) off 6 cs) := run_storeAgg Tryz.sizeOf173 b off cs W
theorem val_take : ∀ (Y : List Int) (k : Nat) (hk : k < Y.length), val (Y.take (k + 1)) = val (Y.take k) + Y[k] * pw k := by
  intro Y
  induction Y with
  | nil => intro k hk; simp at hk
  | cons y Y ih =>
    intro k hk
    cases k with
    | zero => simp [val, pw]
    | succ k =>
      have := ih k (by simpa using hk)
      simp only [List.take_succ_cons, val, List.getElem_cons_succ, pw] at this ⊢
      rw [this]
      grind
theorem rowC_one (R : List Int) : allOne (rowC R) = true := by
  simp [allOne, rowC, Value.oneCell']
set_option maxRecDepth 100000 in
set_option maxHeartbeats 2000000 in
/-- flurryref05.times -/
theorem times_any (w : World) (a b : Int) (ha0 : 0 ≤ a) (ha1 : a < 9223372036854775808) (hb0 : 0 ≤ b) (hb1 : b < 9223372036854775808) :
    Calls Tryz.prog 134 #[.int .i64 a, .int .i64 b] w fun e w' => ∃ L : List Int, e = .returned (.agg (rowC L)) ∧ Hid (L.length = 6 ∧ DigOK L ∧ val L = a * b) ∧ Below w.heap.size w w' := by
  have HX := Lib.hid (dig3_ok ha0 ha1)
  have HY := Lib.hid (dig3_ok hb0 hb1)
  go_enter Tryz.func134, Tryz.ntmps134
  go_wp2
  have eX : #[Value.int .i64 (a % 2147483648), .int .i64 (a / 2147483648 % 2147483648), .int .i64 (a / 4611686018427387904)] = rowC (dig3 a) := rfl
  have eY : #[Value.int .i64 (b % 2147483648), .int .i64 (b / 2147483648 % 2147483648), .int .i64 (b / 4611686018427387904)] = rowC (dig3 b) := rfl
  have eZ : #[Value.int .i64 0, .int .i64 0, .int .i64 0, .int .i64 0, .int .i64 0, .int .i64 0] = rowC [0, 0, 0, 0, 0, 0] := rfl
  rw [eX, eY, eZ]
  generalize hn : w.heap.size = n at *
  have b0 : Below n w ((((w.alloc (.cells (rowC [0, 0, 0, 0, 0, 0]) 173)).alloc (.cells (rowC (dig3 a)) 178)).alloc (.cells (rowC (dig3 b)) 178)).alloc (.cells (rowC [0, 0, 0, 0, 0, 0]) 173)) := by
    subst hn
    exact ((((Below.refl _ w).alloc (Nat.le_refl _) _).alloc (by simp) _).alloc (by simp <;> omega) _).alloc (by simp <;> omega) _
  have o3 : obj ((((w.alloc (.cells (rowC [0, 0, 0, 0, 0, 0]) 173)).alloc (.cells (rowC (dig3 a)) 178)).alloc (.cells (rowC (dig3 b)) 178)).alloc (.cells (rowC [0, 0, 0, 0, 0, 0]) 173)) (n + 1 + 1 + 1) = some (.cells (rowC [0, 0, 0, 0, 0, 0]) 173 (0, 0)) := by
    subst hn; exact obj_alloc_at _ _ _ (by simp)
  have o2 : obj ((((w.alloc (.cells (rowC [0, 0, 0, 0, 0, 0]) 173)).alloc (.cells (rowC (dig3 a)) 178)).alloc (.cells (rowC (dig3 b)) 178)).alloc (.cells (rowC [0, 0, 0, 0, 0, 0]) 173)) (n + 1 + 1) = some (.cells (rowC (dig3 b)) 178 (0, 0)) := by
    subst hn; exact (obj_alloc_past _ _ _ (by simp)).trans (obj_alloc_at _ _ _ (by simp))
  have o1 : obj ((((w.alloc (.cells (rowC [0, 0, 0, 0, 0, 0]) 173)).alloc (.cells (rowC (dig3 a)) 178)).alloc (.cells (rowC (dig3 b)) 178)).alloc (.cells (rowC [0, 0, 0, 0, 0, 0]) 173)) (n + 1) = some (.cells (rowC (dig3 a)) 178 (0, 0)) := by
    subst hn; exact (obj_alloc_past _ _ _ (by simp <;> omega)).trans ((obj_alloc_past _ _ _ (by simp)).trans (obj_alloc_at _ _ _ (by simp)))
  have o0 : obj ((((w.alloc (.cells (rowC [0, 0, 0, 0, 0, 0]) 173)).alloc (.cells (rowC (dig3 a)) 178)).alloc (.cells (rowC (dig3 b)) 178)).alloc (.cells (rowC [0, 0, 0, 0, 0, 0]) 173)) n = some (.cells (rowC [0, 0, 0, 0, 0, 0]) 173 (0, 0)) := by
    subst hn; exact (obj_alloc_past _ _ _ (by simp <;> omega)).trans ((obj_alloc_past _ _ _ (by simp <;> omega)).trans ((obj_alloc_past _ _ _ (by simp)).trans (obj_alloc_at _ _ _ rfl)))
  generalize ((((w.alloc (.cells (rowC [0, 0, 0, 0, 0, 0]) 173)).alloc (.cells (rowC (dig3 a)) 178)).alloc (.cells (rowC (dig3 b)) 178)).alloc (.cells (rowC [0, 0, 0, 0, 0, 0]) 173)) = w4 at *
  clear eX eY eZ
  have hXl : (dig3 a).length = 3 := rfl
  have hYl : (dig3 b).length = 3 := rfl
  generalize dig3 a = X at *
  generalize dig3 b = Y at *
  have B0 := Lib.hid b0
  have O1 := Lib.hid o1
  have O2 := Lib.hid o2
  have O3 := Lib.hid o3
  have O0 := Lib.hid o0
  have HXl := Lib.hid hXl
  have HYl := Lib.hid hYl
  clear b0 o1 o2 o3 o0 hXl hYl
  have ST : Hid (∀ wr L, obj wr (n + 1 + 1 + 1) = some (.cells (rowC L) 173 (0, 0)) → True) := Lib.hid (fun _ _ _ => trivial)
  go_loopw [8] (fun v8 wr => ∃ (i : Nat) (L : List Int), i ≤ 3 ∧ v8 = .int .i64 i ∧ L.length = 6 ∧ Hid (DigOK L ∧ val L = val (X.take i) * b ∧ ∀ j (h : j < L.length), i + 3 ≤ j → L[j] = 0) ∧ Hid (obj wr (n + 1 + 1 + 1) = some (.cells (rowC L) 173 (0, 0))) ∧ Hid (obj wr (n + 1 + 1) = some (.cells (rowC Y) 178 (0, 0))) ∧ Hid (obj wr (n + 1) = some (.cells (rowC X) 178 (0, 0))) ∧ Hid (obj wr n = some (.cells (rowC [0, 0, 0, 0, 0, 0]) 173 (0, 0))) ∧ Hid (Below n w wr)) (fun i _ => 3 - (intOf i).toNat)
  case atStart => exact ⟨0, _, by decide, rfl, rfl, Lib.hid ⟨fun x hx => by simp at hx; subst hx; decide, by simp [val], fun j h _ => by match j, h with
    | 0, _ => rfl
    | 1, _ => rfl
    | 2, _ => rfl
    | 3, _ => rfl
    | 4, _ => rfl
    | 5, _ => rfl⟩, O3, O2, O1, O0, B0⟩
  case round =>
    obtain ⟨i, L, hi, rfl, hL6, HL, H3, H2, H1, H0, HB⟩ := hrel
    clear B0 O1 O2 O3 O0
    by_cases hlt : i < 3
    · go_wp2
      generalize wr = wo at *
      have hX1 := HX.out.1.at (show i < X.length by rw [HXl.out]; exact hlt)
      have hiX : i < X.length := by rw [HXl.out]; exact hlt
      obtain ⟨xi, hxi⟩ : ∃ xi : Int, X[i] = xi := ⟨_, rfl⟩
      rw [hxi] at hX1
      have HXI := Lib.hid hxi
      clear hxi
      have hi3 : (i : Int) < 3 := by omega
      have HSt : Hid (DigOK L ∧ val L + 0 * pw (i + 0) = val (X.take i) * b + xi * pw i * val (Y.take 0) ∧ ∀ j (h : j < L.length), i + 3 ≤ j → L[j] = 0) := Lib.hid ⟨HL.out.1, by rw [HL.out.2.1]; simp [val], HL.out.2.2⟩
      go_loopw [9, 10] (fun v9 v10 wr => ∃ (k : Nat) (c : Int) (M : List Int), k ≤ 3 ∧ v9 = .int .i64 c ∧ v10 = .int .i64 k ∧ 0 ≤ c ∧ c < 2147483648 ∧ M.length = 6 ∧ Hid (DigOK M ∧ val M + c * pw (i + k) = val (X.take i) * b + xi * pw i * val (Y.take k) ∧ ∀ j (h : j < M.length), i + 3 ≤ j → M[j] = 0) ∧ Hid (obj wr (n + 1 + 1 + 1) = some (.cells (rowC M) 173 (0, 0))) ∧ Hid (obj wr (n + 1 + 1) = some (.cells (rowC Y) 178 (0, 0))) ∧ Hid (obj wr (n + 1) = some (.cells (rowC X) 178 (0, 0))) ∧ Hid (obj wr n = some (.cells (rowC [0, 0, 0, 0, 0, 0]) 173 (0, 0))) ∧ Hid (Below n w wr)) (fun _ k _ => 3 - (intOf k).toNat)
      case atStart => exact ⟨0, 0, L, by decide, rfl, rfl, by decide, by decide, hL6, HSt, H3, H2, H1, H0, HB⟩
      case round =>
        obtain ⟨k, c, M, hk, rfl, rfl, hc0, hc1, hM6, HM, G3, G2, G1, G0, GB⟩ := hrel
        clear HSt H3 H2 H1 H0 HB HL
        by_cases hkt : k < 3
        · have hkY : k < Y.length := by rw [HYl.out]; exact hkt
          have hikM : i + k < M.length := by omega
          have hY1 := HY.out.1.at hkY
          have hm1 := HM.out.1.at hikM
          have cy : wr.cell? ⟨n + 1 + 1, k, none⟩ = some (.int .i64 Y[k]) := by rw [cell_at G2.out, rowC_get Y hkY]
          have cx : wr.cell? ⟨n + 1, i, none⟩ = some (.int .i64 xi) := by rw [cell_at G1.out, rowC_get X hiX, HXI.out]
          have cm : wr.cell? ⟨n + 1 + 1 + 1, i + k, none⟩ = some (.int .i64 M[i + k]) := by rw [cell_at G3.out, rowC_get M hikM]
          have fm : ∀ j, wr.frozen? ⟨n + 1 + 1 + 1, j, none⟩ = false := frozen_at G3.out
          have hstep := step_val (c := c) (v := M[i + k] + c + X[i] * Y[k]) (P := val (X.take i) * b) hikM hiX hkY rfl (by rw [HXI.out]; exact HM.out.2.1)
          rw [HXI.out] at hstep
          have hzero : ∀ (d : Int) j (h : j < (M.set (i + k) d).length), i + 3 ≤ j → (M.set (i + k) d)[j] = 0 := fun d j h hj => by
            rw [List.getElem_set_ne (by omega)]
            exact HM.out.2.2 j (by simpa using h) hj
          have hsetok : ∀ d : Int, 0 ≤ d → d < 2147483648 → DigOK (M.set (i + k) d) := fun d h0 h1 => HM.out.1.set _ h0 h1
          have hp0 : 0 ≤ xi * Y[k] := Int.mul_nonneg hX1.1 hY1.1
          have hp1 : xi * Y[k] ≤ 4611686014132420609 := by
            have := Int.mul_le_mul (show xi ≤ 2147483647 by omega) (show Y[k] ≤ 2147483647 by omega) hY1.1 (by decide)
            omega
          generalize Y[k] = yk at *
          generalize hmm : M[i + k] = m at *
          generalize hp : xi * yk = p at *
          have z3 := lt_of_obj G3.out
          have z2 := lt_of_obj G2.out
          have z1 := lt_of_obj G1.out
          have HStep := Lib.hid hstep
          have HZ := Lib.hid hzero
          have HSO := Lib.hid hsetok
          have hk3 : (k : Int) < 3 := by omega
          have hik : (i : Int) + (k : Int) < 6 := by omega
          clear hstep hzero hsetok hmm HM
          go_wp2
          go_quiet (fail)
          go_wp2
          go_roundw
          case rel =>
            have e3 : obj ((wr.drewN nq).setCell ⟨n + 1 + 1 + 1, i + k, none⟩ (.int .i64 ((m + c + p) % 2147483648))) (n + 1 + 1 + 1) = some (.cells (rowC (M.set (i + k) ((m + c + p) % 2147483648))) 173 (0, 0)) := by
              rw [← rowC_set]; exact obj_setCell_at (w := wr.drewN nq) _ G3.out
            refine ⟨k + 1, (m + c + p) / 2147483648, M.set (i + k) ((m + c + p) % 2147483648), by omega, rfl, by go_num, by omega, by omega, by rw [List.length_set]; exact hM6, Lib.hid ⟨HSO.out _ (by omega) (by omega), HStep.out, HZ.out _⟩, Lib.hid e3, ?_, ?_, ?_, ?_⟩
            · exact Lib.hid ((obj_setCell_ne (wr.drewN nq) ⟨n + 1 + 1 + 1, i + k, none⟩ _ (n + 1 + 1) (by simp)).trans G2.out)
            · exact Lib.hid ((obj_setCell_ne (wr.drewN nq) ⟨n + 1 + 1 + 1, i + k, none⟩ _ (n + 1) (by simp <;> omega)).trans G1.out)
            · exact Lib.hid ((obj_setCell_ne (wr.drewN nq) ⟨n + 1 + 1 + 1, i + k, none⟩ _ n (by simp <;> omega)).trans G0.out)
            · exact Lib.hid (show Below n w ((wr.drewN nq).setCell ⟨n + 1 + 1 + 1, i + k, none⟩ _) from (below_drewN GB.out nq).setCell (by simp <;> omega) _)
          case measure => simp [intOf]; omega
        · have hk3 : k = 3 := by omega
          subst hk3
          have hi3M : i + 3 < M.length := by omega
          have z3 := lt_of_obj G3.out
          have fm : ∀ j, wr.frozen? ⟨n + 1 + 1 + 1, j, none⟩ = false := frozen_at G3.out
          have cm : wr.cell? ⟨n + 1 + 1 + 1, i + 3, none⟩ = some (.int .i64 M[i + 3]) := by rw [cell_at G3.out, rowC_get M hi3M]
          have hM0 := HM.out.2.2 (i + 3) hi3M (Nat.le_refl _)
          have e3 := obj_setCell_at (i := i + 3) (.int .i64 c) G3.out
          rw [rowC_set] at e3
          have hval : val (M.set (i + 3) c) = val (X.take (i + 1)) * b := by
            have h1 := HM.out.2.1
            rw [val_set M (i + 3) c hi3M, hM0]
            have hY := HY.out.2
            rw [← HYl.out, List.take_length, hY] at h1
            rw [HYl.out] at h1
            rw [val_take X i hiX, HXI.out]
            generalize pw (i + 3) = q at *
            generalize pw i = q1 at *
            grind
          have E3 := Lib.hid e3
          have E2 := Lib.hid ((obj_setCell_ne wr ⟨n + 1 + 1 + 1, i + 3, none⟩ (.int .i64 c) (n + 1 + 1) (by simp)).trans G2.out)
          have E1 := Lib.hid ((obj_setCell_ne wr ⟨n + 1 + 1 + 1, i + 3, none⟩ (.int .i64 c) (n + 1) (by simp <;> omega)).trans G1.out)
          have E0 := Lib.hid ((obj_setCell_ne wr ⟨n + 1 + 1 + 1, i + 3, none⟩ (.int .i64 c) n (by simp <;> omega)).trans G0.out)
          have EB := Lib.hid (show Below n w (wr.setCell ⟨n + 1 + 1 + 1, i + 3, none⟩ (.int .i64 c)) from GB.out.setCell (by simp <;> omega) _)
          have HV : Hid (DigOK (M.set (i + 3) c) ∧ val (M.set (i + 3) c) = val (X.take (i + 1)) * b ∧ ∀ j (h : j < (M.set (i + 3) c).length), i + 1 + 3 ≤ j → (M.set (i + 3) c)[j] = 0) := Lib.hid ⟨HM.out.1.set _ hc0 hc1, hval, fun j h hj => by
            rw [List.getElem_set_ne (by omega)]
            exact HM.out.2.2 j (by simpa using h) (by omega)⟩
          have hi6 : (i : Int) + 3 < 6 := by omega
          clear e3 hval hM0 HM G3 G2 G1 G0 GB
          go_wp2
          go_roundw
          case rel => exact ⟨i + 1, M.set (i + 3) c, by omega, by go_num, by rw [List.length_set]; exact hM6, HV, E3, E2, E1, E0, EB⟩
          case measure => simp [intOf]; omega
    · have hi3 : i = 3 := by omega
      subst hi3
      have s3 : subOf (obj wr (n + 1 + 1 + 1)) 0 6 = some (rowC L) := by
        rw [H3.out, subOf_cells (by rw [rowC_size]; omega), subA_all (by rw [rowC_size]; exact hL6)]
      have p0 : putOf (obj wr n) 0 6 (rowC L) = some (.cells (rowC L) 173 (0, 0)) := by
        rw [H0.out, putOf_cells (by rw [rowC_size]; simp) (by rw [rowC_size]; exact hL6) (rowC_one L), spliceA_all (by rw [rowC_size, rowC_size, hL6]; rfl)]
      have HV : Hid (L.length = 6 ∧ DigOK L ∧ val L = a * b) := Lib.hid ⟨hL6, HL.out.1, by
        rw [HL.out.2.1, ← HXl.out, List.take_length, HX.out.2]⟩
      have EB := Lib.hid (below_putObj HB.out (Nat.le_refl n) (.cells (rowC L) 173))
      have z0 := lt_of_obj H0.out
      clear H3 H2 H1 H0 HL HB
      go_wp2
      refine bodyPost_ret (v := .agg (rowC L)) (results_cell rfl _ rfl ?_) rfl ⟨L, rfl, HV, by rw [hn]; exact EB.out⟩
      rw [run_load71, obj_putObj_eq _ _ _ z0, subOf_cells (by rw [rowC_size]; omega), subA_all (by rw [rowC_size]; exact hL6)]
      rfl
end Go.Proofs.YtagpclgappcnbaaGreat.Be
namespace Go.Proofs.YtagpclgappcnbaaGreat.Be
open Go.RowKit

theorem val_lt_iff {L M : List Int} (hl : DigOK L) (hm : DigOK M) (he : L.length = M.length) (j : Nat) (hj : j < L.length) (ht : val (L.drop (j + 1)) = val (M.drop (j + 1))) (hne : ¬ L[j] = M[j]'(by omega)) : decide (M[j]'(by omega) < L[j]) = decide (val M ≤ val L) := by
  have h1 := val_drop L j hj
  have h2 := val_drop M j (by omega)
  by_cases h : M[j]'(by omega) < L[j]
  · have := val_gt hl hm he j (by omega) (by omega)
    rw [decide_eq_true h, decide_eq_true (by omega)]
  · have := val_gt hm hl he.symm j (by omega) (by omega)
    rw [decide_eq_false h, decide_eq_false (by omega)]
set_option maxRecDepth 100000 in
set_option maxHeartbeats 2000000 in
/-- flurryref05.AtLeast -/
theorem leastB (w : World) (s t n d : Int) (hs0 : 0 ≤ s) (hs1 : s < 9223372036854775808) (ht0 : 0 ≤ t) (ht1 : t < 9223372036854775808) (hn0 : 0 ≤ n) (hn1 : n < 9223372036854775808) (hd0 : 1 ≤ d) (hd1 : d < 9223372036854775808) :
    Calls Tryz.prog 123 #[.int .i64 s, .int .i64 t, .int .i64 n, .int .i64 d] w fun e w' => e = .returned (.bool (decide (t * n ≤ s * d))) ∧ Below w.heap.size w w' := by
  have H1 := Lib.hid (times_any w s d hs0 hs1 (by omega) hd1)
  have H2 := Lib.hid (fun W => times_any W t n ht0 ht1 hn0 hn1)
  have hs0' : ¬ s < 0 := by omega
  have ht0' : ¬ t < 0 := by omega
  have hn0' : ¬ n < 0 := by omega
  have hd0' : ¬ d < 1 := by omega
  clear hs0 ht0 hn0 hd0 hs1 ht1 hn1 hd1
  go_enter Tryz.func123, Tryz.ntmps123
  go_wp2_with fail
  refine H1.out.mono ?_
  rintro e w1 ⟨L, rfl, HL, b1⟩
  go_wp2_with fail
  refine (H2.out w1).mono ?_
  rintro e w2 ⟨M, rfl, HM, b2⟩
  have HB := Lib.hid (b1.trans (b2.mono b1.size))
  have s1 : (rowC L).size = 6 := by rw [rowC_size]; exact HL.out.1
  have s2 : (rowC M).size = 6 := by rw [rowC_size]; exact HM.out.1
  have a1 := rowC_one L
  have a2 := rowC_one M
  clear b1 b2 H1 H2
  go_wp2
  have hb := (HB.out.alloc HB.out.size (.cells (rowC L) 173)).alloc (by have := HB.out.size; simp; omega) (.cells (rowC M) 173)
  have o1 : obj ((w2.alloc (.cells (rowC L) 173)).alloc (.cells (rowC M) 173)) w2.heap.size = some (.cells (rowC L) 173 (0, 0)) := (obj_alloc_past _ _ _ (by simp)).trans (obj_alloc_at _ _ _ rfl)
  have o2 : obj ((w2.alloc (.cells (rowC L) 173)).alloc (.cells (rowC M) 173)) (w2.heap.size + 1) = some (.cells (rowC M) 173 (0, 0)) := obj_alloc_at _ _ _ (by simp)
  generalize (w2.alloc (.cells (rowC L) 173)).alloc (.cells (rowC M) 173) = w3 at *
  generalize w2.heap.size = p at *
  have B3 := Lib.hid hb
  have O1 := Lib.hid o1
  have O2 := Lib.hid o2
  clear hb o1 o2 HB s1 s2 a1 a2
  go_loopw [11] (fun v11 wr => ∃ (m : Nat) (i : Int), m ≤ 6 ∧ v11 = .int .i64 i ∧ i = (m : Int) - 1 ∧ Hid (val (L.drop m) = val (M.drop m)) ∧ Hid (obj wr p = some (.cells (rowC L) 173 (0, 0))) ∧ Hid (obj wr (p + 1) = some (.cells (rowC M) 173 (0, 0))) ∧ Hid (Below w.heap.size w wr)) (fun i _ => (intOf i + 1).toNat)
  case atStart => exact ⟨6, 5, by decide, rfl, rfl, Lib.hid (by rw [List.drop_eq_nil_of_le (by rw [HL.out.1]; decide), List.drop_eq_nil_of_le (by rw [HM.out.1]; decide)]), O1, O2, B3⟩
  case round =>
    obtain ⟨m, i, hm, rfl, hi, HE, G1, G2, GB⟩ := hrel
    clear O1 O2 B3
    by_cases h0 : m = 0
    · have hi' : i = -1 := by omega
      subst hi' h0
      have HV : Hid (decide (t * n ≤ s * d) = true) := Lib.hid (by
        have := HE.out
        rw [List.drop_zero, List.drop_zero, HL.out.2.2, HM.out.2.2] at this
        simp; omega)
      clear hi hm
      go_wp2
      go_ret
      exact ⟨ret_bool HV.out.symm, GB.out⟩
    · obtain ⟨j, rfl⟩ : ∃ j : Nat, m = j + 1 := ⟨m - 1, by omega⟩
      have hij : i = (j : Int) := by omega
      subst hij
      have hjL : j < L.length := by rw [HL.out.1]; omega
      have hjM : j < M.length := by rw [HM.out.1]; omega
      have cl : wr.cell? ⟨p, j, none⟩ = some (.int .i64 L[j]) := by rw [cell_at G1.out, rowC_get L hjL]
      have cm : wr.cell? ⟨p + 1, j, none⟩ = some (.int .i64 M[j]) := by rw [cell_at G2.out, rowC_get M hjM]
      have z1 := lt_of_obj G1.out
      have z2 := lt_of_obj G2.out
      have hj6 : (j : Int) < 6 := by omega
      have hjp : 0 ≤ (j : Int) := by omega
      have HVV := Lib.hid (fun hne => val_lt_iff HL.out.2.1 HM.out.2.1 (HL.out.1.trans HM.out.1.symm) j hjL HE.out hne)
      have HEE : Hid (L[j] = M[j] → val (L.drop j) = val (M.drop j)) := Lib.hid (fun he => by rw [val_drop L j hjL, val_drop M j hjM, he, HE.out])
      generalize L[j] = x at *
      generalize M[j] = y at *
      clear hi h0 hm hjL hjM
      by_cases he : x = y
      · subst he
        have HE2 := Lib.hid (HEE.out rfl)
        clear HVV HEE HE
        go_wp2
        go_quiet (fail)
        go_wp2
        go_roundw
        case rel => exact ⟨j, (j : Int) - 1, by omega, by go_num, rfl, HE2, Lib.hid G1.out, Lib.hid G2.out, Lib.hid (below_drewN GB.out _)⟩
        case measure => simp [intOf]
      · have HV : Hid (decide (y < x) = decide (t * n ≤ s * d)) := Lib.hid (by rw [HVV.out he, HL.out.2.2, HM.out.2.2])
        have he' : (x == y) = false := by simpa using he
        clear HVV HEE HE
        go_wp2
        go_quiet (fail)
        go_wp2
        go_quiet (fail)
        go_wp2
        go_ret
        exact ⟨ret_bool HV.out, below_drewN (below_drewN GB.out _) _⟩
end Go.Proofs.YtagpclgappcnbaaGreat.Be
namespace Go.Proofs.YtagpclgappcnbaaGreat.Be
open Go.RowKit

set_option maxRecDepth 100000 in
set_option maxHeartbeats 1000000 in
/-- flurryref05.Total -/
theorem totalB (w : World) (v : Value) (l : List Vd) (h : SlIn w v 2 vdL l) (hN : ∀ x ∈ l, x.name.size ≤ 300) : Calls Tryz.prog 124 #[v] w fun e w' => e = .returned (.int .i64 (tot l)) ∧ Below w.heap.size w w' := by
  have HK := Lib.hid (fun W (hb : Below w.heap.size w W) => checkB W v l (h.below hb) hN)
  obtain ⟨oa, cap, rfl, g1, g2, g3⟩ := h
  unfold maxLen at g2
  have H3 := Lib.hid g3
  clear g3 hN
  rcases chk_cases l with hc | hc
  · rw [hc] at HK
    obtain ⟨_, _, _, hw⟩ := chk_32 hc
    obtain ⟨s0, s1, s2⟩ := wtsF_sum _ _ hw (by decide)
    have HT := Lib.hid (show tot l = sumW l from if_pos hc)
    have HD := Lib.hid (fun k => sumW_drop l k s2)
    have hS : 0 ≤ sumW l ∧ sumW l ≤ 4611686018427387903 := ⟨s0, s1⟩
    have HM := Lib.hid s2
    clear hc hw s2 s0 s1
    go_enter Tryz.func124, Tryz.ntmps124
    go_wp2
    go_loopw [3, 4] (fun v3 v4 wr => ∃ (k : Nat) (n : Int), k ≤ l.length ∧ v4 = .int .i64 k ∧ v3 = .int .i64 n ∧ 0 ≤ n ∧ n ≤ 4611686018427387903 ∧ Hid (Below w.heap.size w wr) ∧ Hid (n + sumW (l.drop k) = sumW l)) (fun _ i _ => l.length - (intOf i).toNat)
    case atStart => exact ⟨0, 0, Nat.zero_le _, rfl, rfl, by decide, by decide, Lib.hid (Below.refl _ _), Lib.hid (by simp)⟩
    case round =>
      obtain ⟨k, n, hk, rfl, rfl, hn0, hn1, HB, HF⟩ := hrel
      by_cases hlt : k < l.length
      · obtain ⟨b, off, hoa, hbb, hrow⟩ := H3.out (by omega)
        subst hoa
        have hs1 := hrow k hlt
        have hF := HF.out
        have hd := HD.out (k + 1)
        have hm := HM.out l[k] (List.getElem_mem hlt)
        rw [List.drop_eq_getElem_cons hlt] at hF
        have HC := Lib.hid (HK.out wr HB.out)
        generalize l[k] = x at *
        obtain ⟨xn, xw⟩ := x
        simp only [vdL] at hs1
        simp only [sumW] at hF hm
        have HG : Hid (n + xw + sumW (l.drop (k + 1)) = sumW l) := Lib.hid (by omega)
        have hx1 : n + xw ≤ 4611686018427387903 := by omega
        clear hrow hF HF hd
        go_wp2_with fail
        refine HC.out.mono ?_
        rintro e w1 ⟨rfl, b1⟩
        have HB1 := Lib.hid (HB.out.trans (b1.mono HB.out.size))
        rw [← obj_below HB1.out hbb] at hs1
        have c1 : w1.cell? ⟨b, off + k * 2 + 1, none⟩ = some (.int .i64 xw) := by have := subOf_cell hs1 (j := 1) (by decide); simpa using this
        clear b1 HC hs1
        go_wp2
        go_roundw
        case rel => exact ⟨k + 1, n + xw, by omega, by go_num, by go_num, by omega, hx1, HB1, HG⟩
        case measure => simp [intOf]; omega
      · have hF := HF.out
        rw [List.drop_eq_nil_of_le (by omega)] at hF
        simp only [sumW, Int.add_zero] at hF
        have HG := Lib.hid (hF.trans HT.out.symm)
        clear hF HF
        go_wp2
        go_ret
        exact ⟨ret_int HG.out, HB.out⟩
  · have HT := Lib.hid (show tot l = 0 from if_neg (by simpa using hc))
    have hc2 : ¬ chk l = 0 := by simpa using hc
    generalize chk l = c at *
    have HK2 := Lib.hid (HK.out w (Below.refl _ _))
    by_cases h0 : 0 < l.length
    · have h0' : (0 : Int) < l.length := by omega
      go_enter Tryz.func124, Tryz.ntmps124
      go_wp2
      go_loopw [3, 4] (fun v3 v4 wr => v3 = .int .i64 0 ∧ v4 = .int .i64 0 ∧ w = wr) (fun _ _ _ => 0)
      case atStart => exact ⟨rfl, rfl, rfl⟩
      case round =>
        obtain ⟨rfl, rfl, rfl⟩ := hrel
        go_wp2_with fail
        refine HK2.out.mono ?_
        rintro e w1 ⟨rfl, b1⟩
        go_wp2
        go_ret
        exact ⟨ret_int HT.out.symm, b1⟩
    · have h0' : ¬ (0 : Int) < l.length := by omega
      go_enter Tryz.func124, Tryz.ntmps124
      go_wp2
      go_loopw [3, 4] (fun v3 v4 wr => v3 = .int .i64 0 ∧ v4 = .int .i64 0 ∧ w = wr) (fun _ _ _ => 0)
      case atStart => exact ⟨rfl, rfl, rfl⟩
      case round =>
        obtain ⟨rfl, rfl, rfl⟩ := hrel
        go_wp2
        go_ret
        exact ⟨ret_int HT.out.symm, Below.refl _ _⟩
end Go.Proofs.YtagpclgappcnbaaGreat.Be
