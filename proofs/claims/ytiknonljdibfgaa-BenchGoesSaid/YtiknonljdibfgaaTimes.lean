import Derived.Test.YtiknonljdibfgaaDig
namespace Go.Proofs.Ytiknonljdibfgaa
open Go.RowKit

@[go_sem ↓] theorem hide_load71 (a : Addr) : loadVar 71 a = loadAgg 71 a := rfl
@[go_sem ↓] theorem hide_store71 (a : Addr) (v : Value) : storeVar 71 a v = storeAgg 71 a v := rfl
@[go_sem] theorem run_load71 (b off : Nat) (W : World) : (loadAgg 71 ⟨b, off, none⟩).run Try.prog W = loadRes Try.prog 71 ⟨b, off, none⟩ W (subOf (obj W b) off 6) := run_loadAgg Try.isAgg71 Try.sizeOf71 b off W
@[go_sem] theorem run_store71 (b off : Nat) (cs : Array Value) (W : World) : (storeAgg 71 ⟨b, off, none⟩ (.agg cs)).run Try.prog W = storeRes Try.prog 71 ⟨b, off, none⟩ (.agg cs) W (putOf (obj W b) off 6 cs) := run_storeAgg Try.sizeOf71 b off cs W
theorem val_take : ∀ (Y : List Int) (k : Nat) (hk : k < Y.length), val (Y.take (k + 1)) = val (Y.take k) + Y[k] * pw k := by
  intro Y
  induction Y with
  | nil => intro k hk; simp at hk
  | cons y Y ih =>
    intro k hk
    cases k with
    | zero => simp [val, pw]
    | succ k =>
      have := ih k (by simpa using hk)
      simp only [List.take_succ_cons, val, List.getElem_cons_succ, pw] at this ⊢
      rw [this]
      grind
theorem rowC_one (R : List Int) : allOne (rowC R) = true := by
  simp [allOne, rowC, Value.oneCell']
set_option maxRecDepth 100000 in
set_option maxHeartbeats 2000000 in
/-- flurryref05.times -/
theorem times_any (w : World) (a b : Int) (ha0 : 0 ≤ a) (ha1 : a < 9223372036854775808) (hb0 : 0 ≤ b) (hb1 : b < 9223372036854775808) :
    Calls Try.prog 45 #[.int .i64 a, .int .i64 b] w fun e w' => ∃ L : List Int, e = .returned (.agg (rowC L)) ∧ Hid (L.length = 6 ∧ DigOK L ∧ val L = a * b) ∧ Below w.heap.size w w' := by
  have HX := Lib.hid (dig3_ok ha0 ha1)
  have HY := Lib.hid (dig3_ok hb0 hb1)
  go_enter Try.func45, Try.ntmps45
  go_wp2
  have eX : #[Value.int .i64 (a % 2147483648), .int .i64 (a / 2147483648 % 2147483648), .int .i64 (a / 4611686018427387904)] = rowC (dig3 a) := rfl
  have eY : #[Value.int .i64 (b % 2147483648), .int .i64 (b / 2147483648 % 2147483648), .int .i64 (b / 4611686018427387904)] = rowC (dig3 b) := rfl
  have eZ : #[Value.int .i64 0, .int .i64 0, .int .i64 0, .int .i64 0, .int .i64 0, .int .i64 0] = rowC [0, 0, 0, 0, 0, 0] := rfl
  rw [eX, eY, eZ]
  generalize hn : w.heap.size = n at *
  have b0 : Below n w ((((w.alloc (.cells (rowC [0, 0, 0, 0, 0, 0]) 71)).alloc (.cells (rowC (dig3 a)) 84)).alloc (.cells (rowC (dig3 b)) 84)).alloc (.cells (rowC [0, 0, 0, 0, 0, 0]) 71)) := by
    subst hn
    exact ((((Below.refl _ w).alloc (Nat.le_refl _) _).alloc (by simp) _).alloc (by simp <;> omega) _).alloc (by simp <;> omega) _
  have o3 : obj ((((w.alloc (.cells (rowC [0, 0, 0, 0, 0, 0]) 71)).alloc (.cells (rowC (dig3 a)) 84)).alloc (.cells (rowC (dig3 b)) 84)).alloc (.cells (rowC [0, 0, 0, 0, 0, 0]) 71)) (n + 1 + 1 + 1) = some (.cells (rowC [0, 0, 0, 0, 0, 0]) 71 (0, 0)) := by
    subst hn; exact obj_alloc_at _ _ _ (by simp)
  have o2 : obj ((((w.alloc (.cells (rowC [0, 0, 0, 0, 0, 0]) 71)).alloc (.cells (rowC (dig3 a)) 84)).alloc (.cells (rowC (dig3 b)) 84)).alloc (.cells (rowC [0, 0, 0, 0, 0, 0]) 71)) (n + 1 + 1) = some (.cells (rowC (dig3 b)) 84 (0, 0)) := by
    subst hn; exact (obj_alloc_past _ _ _ (by simp)).trans (obj_alloc_at _ _ _ (by simp))
  have o1 : obj ((((w.alloc (.cells (rowC [0, 0, 0, 0, 0, 0]) 71)).alloc (.cells (rowC (dig3 a)) 84)).alloc (.cells (rowC (dig3 b)) 84)).alloc (.cells (rowC [0, 0, 0, 0, 0, 0]) 71)) (n + 1) = some (.cells (rowC (dig3 a)) 84 (0, 0)) := by
    subst hn; exact (obj_alloc_past _ _ _ (by simp <;> omega)).trans ((obj_alloc_past _ _ _ (by simp)).trans (obj_alloc_at _ _ _ (by simp)))
  have o0 : obj ((((w.alloc (.cells (rowC [0, 0, 0, 0, 0, 0]) 71)).alloc (.cells (rowC (dig3 a)) 84)).alloc (.cells (rowC (dig3 b)) 84)).alloc (.cells (rowC [0, 0, 0, 0, 0, 0]) 71)) n = some (.cells (rowC [0, 0, 0, 0, 0, 0]) 71 (0, 0)) := by
    subst hn; exact (obj_alloc_past _ _ _ (by simp <;> omega)).trans ((obj_alloc_past _ _ _ (by simp <;> omega)).trans ((obj_alloc_past _ _ _ (by simp)).trans (obj_alloc_at _ _ _ rfl)))
  generalize ((((w.alloc (.cells (rowC [0, 0, 0, 0, 0, 0]) 71)).alloc (.cells (rowC (dig3 a)) 84)).alloc (.cells (rowC (dig3 b)) 84)).alloc (.cells (rowC [0, 0, 0, 0, 0, 0]) 71)) = w4 at *
  clear eX eY eZ
  have hXl : (dig3 a).length = 3 := rfl
  have hYl : (dig3 b).length = 3 := rfl
  generalize dig3 a = X at *
  generalize dig3 b = Y at *
  have B0 := Lib.hid b0
  have O1 := Lib.hid o1
  have O2 := Lib.hid o2
  have O3 := Lib.hid o3
  have O0 := Lib.hid o0
  have HXl := Lib.hid hXl
  have HYl := Lib.hid hYl
  clear b0 o1 o2 o3 o0 hXl hYl
  have ST : Hid (∀ wr L, obj wr (n + 1 + 1 + 1) = some (.cells (rowC L) 71 (0, 0)) → True) := Lib.hid (fun _ _ _ => trivial)
  go_loopw [8] (fun v8 wr => ∃ (i : Nat) (L : List Int), i ≤ 3 ∧ v8 = .int .i64 i ∧ L.length = 6 ∧ Hid (DigOK L ∧ val L = val (X.take i) * b ∧ ∀ j (h : j < L.length), i + 3 ≤ j → L[j] = 0) ∧ Hid (obj wr (n + 1 + 1 + 1) = some (.cells (rowC L) 71 (0, 0))) ∧ Hid (obj wr (n + 1 + 1) = some (.cells (rowC Y) 84 (0, 0))) ∧ Hid (obj wr (n + 1) = some (.cells (rowC X) 84 (0, 0))) ∧ Hid (obj wr n = some (.cells (rowC [0, 0, 0, 0, 0, 0]) 71 (0, 0))) ∧ Hid (Below n w wr)) (fun i _ => 3 - (intOf i).toNat)
  case atStart => exact ⟨0, _, by decide, rfl, rfl, Lib.hid ⟨fun x hx => by simp at hx; subst hx; decide, by simp [val], fun j h _ => by match j, h with
    | 0, _ => rfl
    | 1, _ => rfl
    | 2, _ => rfl
    | 3, _ => rfl
    | 4, _ => rfl
    | 5, _ => rfl⟩, O3, O2, O1, O0, B0⟩
  case round =>
    obtain ⟨i, L, hi, rfl, hL6, HL, H3, H2, H1, H0, HB⟩ := hrel
    clear B0 O1 O2 O3 O0
    by_cases hlt : i < 3
    · go_wp2
      generalize wr = wo at *
      have hX1 := HX.out.1.at (show i < X.length by rw [HXl.out]; exact hlt)
      have hiX : i < X.length := by rw [HXl.out]; exact hlt
      obtain ⟨xi, hxi⟩ : ∃ xi : Int, X[i] = xi := ⟨_, rfl⟩
      rw [hxi] at hX1
      have HXI := Lib.hid hxi
      clear hxi
      have hi3 : (i : Int) < 3 := by omega
      have HSt : Hid (DigOK L ∧ val L + 0 * pw (i + 0) = val (X.take i) * b + xi * pw i * val (Y.take 0) ∧ ∀ j (h : j < L.length), i + 3 ≤ j → L[j] = 0) := Lib.hid ⟨HL.out.1, by rw [HL.out.2.1]; simp [val], HL.out.2.2⟩
      go_loopw [9, 10] (fun v9 v10 wr => ∃ (k : Nat) (c : Int) (M : List Int), k ≤ 3 ∧ v9 = .int .i64 c ∧ v10 = .int .i64 k ∧ 0 ≤ c ∧ c < 2147483648 ∧ M.length = 6 ∧ Hid (DigOK M ∧ val M + c * pw (i + k) = val (X.take i) * b + xi * pw i * val (Y.take k) ∧ ∀ j (h : j < M.length), i + 3 ≤ j → M[j] = 0) ∧ Hid (obj wr (n + 1 + 1 + 1) = some (.cells (rowC M) 71 (0, 0))) ∧ Hid (obj wr (n + 1 + 1) = some (.cells (rowC Y) 84 (0, 0))) ∧ Hid (obj wr (n + 1) = some (.cells (rowC X) 84 (0, 0))) ∧ Hid (obj wr n = some (.cells (rowC [0, 0, 0, 0, 0, 0]) 71 (0, 0))) ∧ Hid (Below n w wr)) (fun _ k _ => 3 - (intOf k).toNat)
      case atStart => exact ⟨0, 0, L, by decide, rfl, rfl, by decide, by decide, hL6, HSt, H3, H2, H1, H0, HB⟩
      case round =>
        obtain ⟨k, c, M, hk, rfl, rfl, hc0, hc1, hM6, HM, G3, G2, G1, G0, GB⟩ := hrel
        clear HSt H3 H2 H1 H0 HB HL
        by_cases hkt : k < 3
        · have hkY : k < Y.length := by rw [HYl.out]; exact hkt
          have hikM : i + k < M.length := by omega
          have hY1 := HY.out.1.at hkY
          have hm1 := HM.out.1.at hikM
          have cy : wr.cell? ⟨n + 1 + 1, k, none⟩ = some (.int .i64 Y[k]) := by rw [cell_at G2.out, rowC_get Y hkY]
          have cx : wr.cell? ⟨n + 1, i, none⟩ = some (.int .i64 xi) := by rw [cell_at G1.out, rowC_get X hiX, HXI.out]
          have cm : wr.cell? ⟨n + 1 + 1 + 1, i + k, none⟩ = some (.int .i64 M[i + k]) := by rw [cell_at G3.out, rowC_get M hikM]
          have fm : ∀ j, wr.frozen? ⟨n + 1 + 1 + 1, j, none⟩ = false := frozen_at G3.out
          have hstep := step_val (c := c) (v := M[i + k] + c + X[i] * Y[k]) (P := val (X.take i) * b) hikM hiX hkY rfl (by rw [HXI.out]; exact HM.out.2.1)
          rw [HXI.out] at hstep
          have hzero : ∀ (d : Int) j (h : j < (M.set (i + k) d).length), i + 3 ≤ j → (M.set (i + k) d)[j] = 0 := fun d j h hj => by
            rw [List.getElem_set_ne (by omega)]
            exact HM.out.2.2 j (by simpa using h) hj
          have hsetok : ∀ d : Int, 0 ≤ d → d < 2147483648 → DigOK (M.set (i + k) d) := fun d h0 h1 => HM.out.1.set _ h0 h1
          have hp0 : 0 ≤ xi * Y[k] := Int.mul_nonneg hX1.1 hY1.1
          have hp1 : xi * Y[k] ≤ 4611686014132420609 := by
            have := Int.mul_le_mul (show xi ≤ 2147483647 by omega) (show Y[k] ≤ 2147483647 by omega) hY1.1 (by decide)
            omega
          generalize Y[k] = yk at *
          generalize hmm : M[i + k] = m at *
          generalize hp : xi * yk = p at *
          have z3 := lt_of_obj G3.out
          have z2 := lt_of_obj G2.out
          have z1 := lt_of_obj G1.out
          have HStep := Lib.hid hstep
          have HZ := Lib.hid hzero
          have HSO := Lib.hid hsetok
          have hk3 : (k : Int) < 3 := by omega
          have hik : (i : Int) + (k : Int) < 6 := by omega
          clear hstep hzero hsetok hmm HM
          go_wp2
          go_quiet (fail)
          go_wp2
          go_roundw
          case rel =>
            have e3 : obj ((wr.drewN nq).setCell ⟨n + 1 + 1 + 1, i + k, none⟩ (.int .i64 ((m + c + p) % 2147483648))) (n + 1 + 1 + 1) = some (.cells (rowC (M.set (i + k) ((m + c + p) % 2147483648))) 71 (0, 0)) := by
              rw [← rowC_set]; exact obj_setCell_at (w := wr.drewN nq) _ G3.out
            refine ⟨k + 1, (m + c + p) / 2147483648, M.set (i + k) ((m + c + p) % 2147483648), by omega, rfl, by go_num, by omega, by omega, by rw [List.length_set]; exact hM6, Lib.hid ⟨HSO.out _ (by omega) (by omega), HStep.out, HZ.out _⟩, Lib.hid e3, ?_, ?_, ?_, ?_⟩
            · exact Lib.hid ((obj_setCell_ne (wr.drewN nq) ⟨n + 1 + 1 + 1, i + k, none⟩ _ (n + 1 + 1) (by simp)).trans G2.out)
            · exact Lib.hid ((obj_setCell_ne (wr.drewN nq) ⟨n + 1 + 1 + 1, i + k, none⟩ _ (n + 1) (by simp <;> omega)).trans G1.out)
            · exact Lib.hid ((obj_setCell_ne (wr.drewN nq) ⟨n + 1 + 1 + 1, i + k, none⟩ _ n (by simp <;> omega)).trans G0.out)
            · exact Lib.hid (show Below n w ((wr.drewN nq).setCell ⟨n + 1 + 1 + 1, i + k, none⟩ _) from (below_drewN GB.out nq).setCell (by simp <;> omega) _)
          case measure => simp [intOf]; omega
        · have hk3 : k = 3 := by omega
          subst hk3
          have hi3M : i + 3 < M.length := by omega
          have z3 := lt_of_obj G3.out
          have fm : ∀ j, wr.frozen? ⟨n + 1 + 1 + 1, j, none⟩ = false := frozen_at G3.out
          have cm : wr.cell? ⟨n + 1 + 1 + 1, i + 3, none⟩ = some (.int .i64 M[i + 3]) := by rw [cell_at G3.out, rowC_get M hi3M]
          have hM0 := HM.out.2.2 (i + 3) hi3M (Nat.le_refl _)
          have e3 := obj_setCell_at (i := i + 3) (.int .i64 c) G3.out
          rw [rowC_set] at e3
          have hval : val (M.set (i + 3) c) = val (X.take (i + 1)) * b := by
            have h1 := HM.out.2.1
            rw [val_set M (i + 3) c hi3M, hM0]
            have hY := HY.out.2
            rw [← HYl.out, List.take_length, hY] at h1
            rw [HYl.out] at h1
            rw [val_take X i hiX, HXI.out]
            generalize pw (i + 3) = q at *
            generalize pw i = q1 at *
            grind
          have E3 := Lib.hid e3
          have E2 := Lib.hid ((obj_setCell_ne wr ⟨n + 1 + 1 + 1, i + 3, none⟩ (.int .i64 c) (n + 1 + 1) (by simp)).trans G2.out)
          have E1 := Lib.hid ((obj_setCell_ne wr ⟨n + 1 + 1 + 1, i + 3, none⟩ (.int .i64 c) (n + 1) (by simp <;> omega)).trans G1.out)
          have E0 := Lib.hid ((obj_setCell_ne wr ⟨n + 1 + 1 + 1, i + 3, none⟩ (.int .i64 c) n (by simp <;> omega)).trans G0.out)
          have EB := Lib.hid (show Below n w (wr.setCell ⟨n + 1 + 1 + 1, i + 3, none⟩ (.int .i64 c)) from GB.out.setCell (by simp <;> omega) _)
          have HV : Hid (DigOK (M.set (i + 3) c) ∧ val (M.set (i + 3) c) = val (X.take (i + 1)) * b ∧ ∀ j (h : j < (M.set (i + 3) c).length), i + 1 + 3 ≤ j → (M.set (i + 3) c)[j] = 0) := Lib.hid ⟨HM.out.1.set _ hc0 hc1, hval, fun j h hj => by
            rw [List.getElem_set_ne (by omega)]
            exact HM.out.2.2 j (by simpa using h) (by omega)⟩
          have hi6 : (i : Int) + 3 < 6 := by omega
          clear e3 hval hM0 HM G3 G2 G1 G0 GB
          go_wp2
          go_roundw
          case rel => exact ⟨i + 1, M.set (i + 3) c, by omega, by go_num, by rw [List.length_set]; exact hM6, HV, E3, E2, E1, E0, EB⟩
          case measure => simp [intOf]; omega
    · have hi3 : i = 3 := by omega
      subst hi3
      have s3 : subOf (obj wr (n + 1 + 1 + 1)) 0 6 = some (rowC L) := by
        rw [H3.out, subOf_cells (by rw [rowC_size]; omega), subA_all (by rw [rowC_size]; exact hL6)]
      have p0 : putOf (obj wr n) 0 6 (rowC L) = some (.cells (rowC L) 71 (0, 0)) := by
        rw [H0.out, putOf_cells (by rw [rowC_size]; simp) (by rw [rowC_size]; exact hL6) (rowC_one L), spliceA_all (by rw [rowC_size, rowC_size, hL6]; rfl)]
      have HV : Hid (L.length = 6 ∧ DigOK L ∧ val L = a * b) := Lib.hid ⟨hL6, HL.out.1, by
        rw [HL.out.2.1, ← HXl.out, List.take_length, HX.out.2]⟩
      have EB := Lib.hid (below_putObj HB.out (Nat.le_refl n) (.cells (rowC L) 71))
      have z0 := lt_of_obj H0.out
      clear H3 H2 H1 H0 HL HB
      go_wp2
      refine bodyPost_ret (v := .agg (rowC L)) (results_cell rfl _ rfl ?_) rfl ⟨L, rfl, HV, by rw [hn]; exact EB.out⟩
      rw [run_load71, obj_putObj_eq _ _ _ z0, subOf_cells (by rw [rowC_size]; omega), subA_all (by rw [rowC_size]; exact hL6)]
      rfl
end Go.Proofs.Ytiknonljdibfgaa
