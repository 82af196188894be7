import Derived.Test.YtmgpfmgmpmkkaaaGreatNw
namespace Go.Proofs.YtmgpfmgmpmkkaaaGreat
open Go.RowKit Go.Shelf Go.Sort

/-! ### answers, as they lie in a row -/
structure AnsD where
  fails : Bool
  tip : ID
  oa : Option Addr
  n : Nat
  cap : Nat
instance : Inhabited AnsD := ⟨⟨false, ID.zero, none, 0, 0⟩⟩
def ansL (x : AnsD) : List Value := .bool x.fails :: (idL x.tip ++ [.slice x.oa x.n x.cap])
@[go_sem, simp] theorem ansL_length (x : AnsD) : (ansL x).length = 34 := by simp [ansL]
theorem ansL_one (x : AnsD) : allOne (ansL x).toArray = true := by
  simp [allOne, ansL, Value.oneCell']
  intro v hv
  exact idL_one' _ v hv
@[go_sem ↓] theorem hide_load58 (a : Addr) : loadVar 54 a = loadAgg 54 a := rfl
@[go_sem ↓] theorem hide_store58 (a : Addr) (v : Value) : storeVar 54 a v = storeAgg 54 a v := rfl
@[go_sem] theorem run_load58 (b off : Nat) (W : World) : (loadAgg 54 ⟨b, off, none⟩).run Tryz.prog W = loadRes Tryz.prog 54 ⟨b, off, none⟩ W (subOf (obj W b) off 34) := run_loadAgg Tryz.isAgg54 Tryz.sizeOf54 b off W
@[go_sem] theorem run_store58 (b off : Nat) (cs : Array Value) (W : World) : (storeAgg 54 ⟨b, off, none⟩ (.agg cs)).run Tryz.prog W = storeRes Tryz.prog 54 ⟨b, off, none⟩ (.agg cs) W (putOf (obj W b) off 34 cs) := run_storeAgg Tryz.sizeOf54 b off cs W
def noAns : AnsD := ⟨false, ID.zero, none, 0, 0⟩
@[go_sem ↓] theorem zero58 (w : World) : (zeroValue 54).run Tryz.prog w = .ok (.agg (ansL noAns).toArray) w := by kernel_rfl
@[go_sem ↓] theorem hide_build58 (ps : Array (Nat × Value)) : Instr.build 54 ps = buildAgg 54 ps := rfl
def badAns : AnsD := ⟨true, ID.zero, none, 0, 0⟩
@[go_sem] theorem run_build58 (w : World) : (buildAgg 54 #[(0, .bool true)]).run Tryz.prog w = .ok (.agg (ansL badAns).toArray) w := by kernel_rfl
theorem ansL_one' (x : AnsD) : allOne (ansL x).toArray = true := ansL_one x
attribute [go_sem] ansL_one
theorem ans_get0 (x : AnsD) : (ansL x).toArray[0]? = some (.bool x.fails) := rfl
theorem ans_get33 (x : AnsD) : (ansL x).toArray[33]? = some (.slice x.oa x.n x.cap) := by
  simp [ansL]
theorem ans_tip (x : AnsD) : subA (ansL x).toArray 1 32 = (idL x.tip).toArray := by
  rw [subA_list]
  simp [ansL]
/-- the facts of a box that holds an answer -/
theorem ans_box {W : World} {b : Nat} {T : TypeId} {fr : Nat × Nat} {x : AnsD} (h : obj W b = some (.cells (ansL x).toArray T fr)) : W.cell? ⟨b, 0, none⟩ = some (.bool x.fails) ∧ subOf (obj W b) 1 32 = some (idL x.tip).toArray ∧ W.cell? ⟨b, 33, none⟩ = some (.slice x.oa x.n x.cap) :=
  ⟨(cell_at h 0).trans (ans_get0 x), by rw [h, subOf_cells (by simp), ans_tip], (cell_at h 33).trans (ans_get33 x)⟩
def sliceLo24 (x hi : Value) : Sem Value := Instr.sliceAt 48 x none (some hi) none
theorem run_lo24 {w : World} {oa : Option Addr} {cap : Nat} {xs : List AnsD} (h : SlIn w (.slice oa xs.length cap) 34 ansL xs) {k : Nat} (hk : k ≤ xs.length) : ∀ W, (sliceLo24 (.slice oa xs.length cap) (.int .i64 k)).run Tryz.prog W = .ok (.slice oa k cap) W := by
  intro W
  obtain ⟨oa', cap', e, h1, h2, h3⟩ := h
  simp only [Value.slice.injEq] at e
  obtain ⟨rfl, _, rfl⟩ := e
  unfold maxLen at h2
  unfold sliceLo24
  cases oa with
  | none =>
    go_simp
    intro hlt
    omega
  | some ad =>
    obtain ⟨b, off, pth⟩ := ad
    go_simp
    intro hlt
    omega
@[go_sem ↓] theorem hide_lo24 (x hi : Value) : Instr.sliceAt 48 x none (some hi) none = sliceLo24 x hi := rfl
def sliceLo22 (x hi : Value) : Sem Value := Instr.sliceAt 22 x none (some hi) none
theorem run_lo22 {w : World} {oa : Option Addr} {cap : Nat} {xs : List Vd} (h : SlIn w (.slice oa xs.length cap) 2 vdL xs) {k : Nat} (hk : k ≤ xs.length) : ∀ W, (sliceLo22 (.slice oa xs.length cap) (.int .i64 k)).run Tryz.prog W = .ok (.slice oa k cap) W := by
  intro W
  obtain ⟨oa', cap', e, h1, h2, h3⟩ := h
  simp only [Value.slice.injEq] at e
  obtain ⟨rfl, _, rfl⟩ := e
  unfold maxLen at h2
  unfold sliceLo22
  cases oa with
  | none =>
    go_simp
    intro hlt
    omega
  | some ad =>
    obtain ⟨b, off, pth⟩ := ad
    go_simp
    intro hlt
    omega
@[go_sem ↓] theorem hide_lo22 (x hi : Value) : Instr.sliceAt 22 x none (some hi) none = sliceLo22 x hi := rfl
structure ShortR (w : World) (xs : List AnsD) (e : Ending) (w' : World) : Prop where
  r : ∃ b, e = .returned (.bool b) ∧ (b = true → xs.length ≤ 50 ∧ ∀ x ∈ xs, x.n ≤ 60)
  hb : Below w.heap.size w w'
set_option maxRecDepth 100000 in
set_option maxHeartbeats 2000000 in
theorem short_any (w : World) (v : Value) (xs : List AnsD) (h : SlIn w v 34 ansL xs) : Calls Tryz.prog 21 #[v] w (ShortR w xs) := by
  obtain ⟨m, hm⟩ : ∃ m, m = min xs.length 60 := ⟨_, rfl⟩
  have hmx : m ≤ xs.length := by omega
  have hmi : (m : Int) = min (xs.length : Int) 60 := by omega
  have HX := Lib.hid h
  obtain ⟨oa, cap, rfl, h1, h2, h3⟩ := h
  have HR := Lib.hid (fun W => run_lo24 HX.out hmx W)
  rw [hmi] at HR
  have HR := HR.out
  have H3 := Lib.hid h3
  have HM := Lib.hid hm
  unfold maxLen at h2
  clear h3 hm hmi
  go_enter Tryz.func21, Tryz.ntmps21
  go_wp2_with fail
  go_loopw [4, 11] (fun _ v11 wr => ∃ k : Nat, k ≤ m ∧ v11 = .int .i64 k ∧ Hid (Below w.heap.size w wr) ∧ Hid (∀ x ∈ xs.take k, x.n ≤ 60)) (fun _ i _ => m - (intOf i).toNat)
  case atStart => exact ⟨0, Nat.zero_le _, rfl, Lib.hid (Below.refl _ _), Lib.hid (by simp)⟩
  case round =>
    obtain ⟨k, hk, rfl, HB, HS⟩ := hrel
    have hz := HB.out.size
    by_cases hlt : k < m
    · have hkx : k < xs.length := by omega
      obtain ⟨b, off, rfl, hbb, hr⟩ := H3.out (by omega)
      have hs := hr k hkx
      rw [← obj_below HB.out hbb] at hs
      have hbr : b < wr.heap.size := by omega
      have NX : Hid (xs[k].n ≤ 60 → ∀ x ∈ xs.take (k + 1), x.n ≤ 60) := Lib.hid (fun h x hx => by
        rw [List.take_succ_eq_append_getElem hkx] at hx
        rcases List.mem_append.1 hx with hx | hx
        · exact HS.out x hx
        · simp at hx; subst hx; exact h)
      clear hr
      generalize xs[k] = x at *
      obtain ⟨z0, z1, z2⟩ := ans_box (W := wr.alloc (.cells (ansL x).toArray 54)) (obj_alloc_at _ _ _ rfl)
      have HBA : Hid (Below w.heap.size w (wr.alloc (.cells (ansL x).toArray 54))) := Lib.hid (HB.out.alloc hz _)
      have hki : (k : Int) < m := by omega
      clear z0 z1
      by_cases hn : x.n ≤ 60
      · have hn1 : ¬ (60 : Int) < x.n := by omega
        have HN := Lib.hid (NX.out hn)
        go_wp2_with fail
        go_roundw
        case rel => exact ⟨k + 1, by omega, by go_num, HBA, HN⟩
        case measure => first | exact meas_step' (by omega) | (simp [intOf]; omega)
      · have hn1 : (60 : Int) < x.n := by omega
        go_wp2_with fail
        go_ret
        exact ⟨⟨_, rfl, fun h => by cases h⟩, HBA.out⟩
    · have hk' : k = m := by omega
      subst hk'
      have HF : Hid (decide ((xs.length : Int) ≤ 50) = true → xs.length ≤ 50 ∧ ∀ x ∈ xs, x.n ≤ 60) := Lib.hid (fun h => by
        have h := of_decide_eq_true h
        refine ⟨by omega, fun x hx => HS.out x ?_⟩
        rw [List.take_of_length_le (by have := HM.out; omega)]
        exact hx)
      go_wp2_with fail
      go_ret
      exact ⟨⟨_, rfl, HF.out⟩, HB.out⟩
set_option maxRecDepth 100000 in
set_option maxHeartbeats 2000000 in
theorem fewN_any (w : World) (v : Value) (xs : List Vd) (h : SlIn w v 2 vdL xs) : Calls Tryz.prog 7 #[v, .slice none 0 0] w fun e w' => (∃ b, e = .returned (.bool b)) ∧ Below w.heap.size w w' := by
  obtain ⟨m, hm⟩ : ∃ m, m = min xs.length 100 := ⟨_, rfl⟩
  have hmx : m ≤ xs.length := by omega
  have hmi : (m : Int) = min (xs.length : Int) 100 := by omega
  have HX := Lib.hid h
  obtain ⟨oa, cap, rfl, h1, h2, h3⟩ := h
  have HR := Lib.hid (fun W => run_lo22 HX.out hmx W)
  rw [hmi] at HR
  have HR := HR.out
  have H3 := Lib.hid h3
  unfold maxLen at h2
  clear h3 hm hmi
  go_enter Tryz.func7, Tryz.ntmps7
  go_wp2_with fail
  go_loopw [6, 17] (fun _ v17 wr => ∃ k : Nat, k ≤ m ∧ v17 = .int .i64 k ∧ Hid (Below w.heap.size w wr)) (fun _ i _ => m - (intOf i).toNat)
  case atStart => exact ⟨0, Nat.zero_le _, rfl, Lib.hid (Below.refl _ _)⟩
  case round =>
    obtain ⟨k, hk, rfl, HB⟩ := hrel
    have hz := HB.out.size
    by_cases hlt : k < m
    · have hkx : k < xs.length := by omega
      obtain ⟨b, off, rfl, hbb, hr⟩ := H3.out (by omega)
      have hs := hr k hkx
      rw [← obj_below HB.out hbb] at hs
      have hbr : b < wr.heap.size := by omega
      clear hr
      generalize xs[k] = x at *
      have z0 : (wr.alloc (.cells (vdL x).toArray 58)).cell? ⟨wr.heap.size, 0, none⟩ = some (.string x.name) := cell_at (obj_alloc_at _ _ _ rfl) 0
      have HBA : Hid (Below w.heap.size w (wr.alloc (.cells (vdL x).toArray 58))) := Lib.hid (HB.out.alloc hz _)
      have hki : (k : Int) < m := by omega
      obtain ⟨nm, wt⟩ := x
      simp only at z0
      by_cases hn : nm.size ≤ 300
      · have hn1 : ¬ (300 : Int) < nm.size := by omega
        go_wp2_with fail
        go_roundw
        case rel => exact ⟨k + 1, by omega, by go_num, HBA⟩
        case measure => first | exact meas_step' (by omega) | (simp [intOf]; omega)
      · have hn1 : (300 : Int) < nm.size := by omega
        go_wp2_with fail
        go_ret
        exact ⟨⟨_, rfl⟩, HBA.out⟩
    · have hk' : k = m := by omega
      subst hk'
      go_wp2_with fail
      go_loopw [28] (fun v28 wr' => v28 = .int .i64 0 ∧ Hid (Below w.heap.size w wr')) (fun _ _ => 0)
      case atStart => exact ⟨rfl, HB⟩
      case round =>
        obtain ⟨rfl, HB2⟩ := hrel
        go_wp2_with fail
        go_ret
        exact ⟨⟨_, rfl⟩, HB2.out⟩
end Go.Proofs.YtmgpfmgmpmkkaaaGreat
