import Derived.Test.YtmenfbfekfljbaaSamp
import Derived.Test.YtmenfbfekfljbaaRel
namespace Go.Proofs.Ytmenfbfekfljbaa
open Go.RowKit

/-! ### votes -/
@[go_sem ↓] theorem hide_load114 (a : Addr) : loadVar 114 a = loadAgg 114 a := rfl
@[go_sem ↓] theorem hide_store114 (a : Addr) (v : Value) : storeVar 114 a v = storeAgg 114 a v := rfl
@[go_sem] theorem run_load114 (b off : Nat) (W : World) : (loadAgg 114 ⟨b, off, none⟩).run Try.prog W = loadRes Try.prog 114 ⟨b, off, none⟩ W (subOf (obj W b) off 33) := run_loadAgg Try.isAgg114 Try.sizeOf114 b off W
@[go_sem] theorem run_store114 (b off : Nat) (cs : Array Value) (W : World) : (storeAgg 114 ⟨b, off, none⟩ (.agg cs)).run Try.prog W = storeRes Try.prog 114 ⟨b, off, none⟩ (.agg cs) W (putOf (obj W b) off 33 cs) := run_storeAgg Try.sizeOf114 b off cs W
section
variable (x : Vt)
@[go_sem, simp] theorem vtL_length : (vtL x).length = 33 := by simp [vtL]
@[go_sem] theorem vtL_one : allOne (vtL x).toArray = true := by
  simp only [allOne, List.all_eq_true]
  intro v hv
  simp only [vtL, List.mem_append, List.mem_singleton] at hv
  rcases hv with h | rfl
  · exact idL_one' _ _ h
  · rfl
@[go_sem] theorem vtL_32 : (vtL x)[32]? = some (.int .i64 x.n) := by
  unfold vtL
  rw [List.getElem?_append_right (by simp)]
  simp
@[go_sem] theorem vtL_g32 (h : 32 < (vtL x).length) : (vtL x)[32]'h = .int .i64 x.n := Option.some.inj ((List.getElem?_eq_getElem h).symm.trans (vtL_32 x))
@[go_sem] theorem vtL_id : subA (vtL x).toArray 0 32 = (idL x.id).toArray := by
  rw [subA_list]
  congr 1
  exact List.take_left' (idL_length _)
end
def Vt.zero : Vt := ⟨ID.zero, 0⟩
@[go_sem ↓] theorem zero114 (w : World) : (zeroValue 114).run Try.prog w = .ok (.agg (vtL Vt.zero).toArray) w := by kernel_rfl
theorem vt_parts {W : World} {b o : Nat} {x : Vt} (h : subOf (obj W b) o 33 = some (vtL x).toArray) : subOf (obj W b) o 32 = some (idL x.id).toArray ∧ W.cell? ⟨b, o + 32, none⟩ = some (.int .i64 x.n) := by
  constructor
  · have := subOf_sub h (i := 0) (m := 32) (by decide)
    rw [Nat.add_zero, vtL_id] at this
    exact this
  · rw [subOf_cell h (by decide), List.getElem?_toArray]
    exact vtL_32 x
def enoughF (und : ID → Bool) : Int → List Vt → Bool
  | need, [] => decide (need ≤ 0)
  | need, v :: r => enoughF und (if 0 < need ∧ 0 < v.n ∧ und v.id = true then (if need ≤ v.n then 0 else need - v.n) else need) r
def votesF (und : ID → Bool) : Int → List Vt → Bool
  | left, [] => decide (left ≤ 0)
  | left, v :: r => if 1 ≤ v.n ∧ und v.id = true then (if left ≤ v.n then true else votesF und (left - v.n) r) else votesF und left r
theorem enoughF_0 (und : ID → Bool) : ∀ (l : List Vt) (need : Int), need ≤ 0 → enoughF und need l = true := by
  intro l
  induction l with
  | nil => intro need h; simp [enoughF, h]
  | cons v r ih =>
    intro need h
    unfold enoughF
    rw [if_neg (by omega)]
    exact ih _ h
theorem votesF_0 (und : ID → Bool) : ∀ (l : List Vt) (left : Int), left ≤ 0 → votesF und left l = true := by
  intro l
  induction l with
  | nil => intro left h; simp [votesF, h]
  | cons v r ih =>
    intro left h
    unfold votesF
    split
    · rw [if_pos (by omega)]
    · exact ih _ h
theorem votes_eq (und : ID → Bool) : ∀ (l : List Vt) (need : Int), votesF und need l = enoughF und need l := by
  intro l
  induction l with
  | nil => intro need; rfl
  | cons v r ih =>
    intro need
    by_cases h0 : need ≤ 0
    · rw [votesF_0 und _ _ h0, enoughF_0 und _ _ h0]
    · have e1 : votesF und need (v :: r) = if 1 ≤ v.n ∧ und v.id = true then (if need ≤ v.n then true else votesF und (need - v.n) r) else votesF und need r := rfl
      have e2 : enoughF und need (v :: r) = enoughF und (if 0 < need ∧ 0 < v.n ∧ und v.id = true then (if need ≤ v.n then 0 else need - v.n) else need) r := rfl
      rw [e1, e2]
      by_cases c : 1 ≤ v.n ∧ und v.id = true
      · have c2 : 0 < need ∧ 0 < v.n ∧ und v.id = true := ⟨by omega, by omega, c.2⟩
        rw [if_pos c, if_pos c2]
        by_cases hge : need ≤ v.n
        · rw [if_pos hge, if_pos hge, enoughF_0 und _ _ (Int.le_refl _)]
        · rw [if_neg hge, if_neg hge, ih]
      · have c2 : ¬ (0 < need ∧ 0 < v.n ∧ und v.id = true) := fun h => c ⟨by omega, h.2.2⟩
        rw [if_neg c, if_neg c2, ih]
set_option maxRecDepth 100000 in
set_option maxHeartbeats 4000000 in
/-- judge.relation.enough -/
theorem enough_any (w : World) (ub m : Nat) (xs : List FactD) (v : Value) (vs : List Vt) (id : ID) (need : Int) (hr : RelAt w ub m xs) (h : SlIn w v 33 vtL vs) (hne : need ≤ 9223372036854775807) (hvn : ∀ x ∈ vs, x.n ≤ 9223372036854775807) :
    Calls Try.prog 54 #[.agg #[.map (some m), .func (.func 63) #[] #[.pointer (some ⟨ub, 0, none⟩)]], v, .agg (idL id).toArray, .int .i64 need] w fun e w' => e = .returned (.bool (enoughF (fun a => underM xs a id) need vs)) ∧ Below w.heap.size w w' := by
  have HVN := Lib.hid hvn
  have HRel := Lib.hid hr
  have HEF : Hid (∀ n v r, enoughF (fun a => underM xs a id) n (v :: r) = enoughF (fun a => underM xs a id) (if 0 < n ∧ 0 < v.n ∧ underM xs v.id id = true then (if n ≤ v.n then 0 else n - v.n) else n) r) := Lib.hid fun _ _ _ => rfl
  have HE0 : Hid (∀ n, enoughF (fun a => underM xs a id) n [] = decide (n ≤ 0)) := Lib.hid fun _ => rfl
  have HU := fun W (hW : Below w.heap.size w W) a => Lib.hid (under_any W ub m xs a id (hr.below hW))
  have B0 := Lib.hid (((Below.refl _ w).alloc (Nat.le_refl _) (.cells #[.map (some m), .func (.func 63) #[] #[.pointer (some ⟨ub, 0, none⟩)]] 85)).alloc (by simp) (.cells (idL id).toArray 45))
  have O0 : Hid (obj ((w.alloc (.cells #[.map (some m), .func (.func 63) #[] #[.pointer (some ⟨ub, 0, none⟩)]] 85)).alloc (.cells (idL id).toArray 45)) w.heap.size = some (.cells #[.map (some m), .func (.func 63) #[] #[.pointer (some ⟨ub, 0, none⟩)]] 85 (0, 0))) := Lib.hid ((obj_alloc_past _ _ _ (by simp)).trans (obj_alloc_at _ _ _ rfl))
  have O1 : Hid (obj ((w.alloc (.cells #[.map (some m), .func (.func 63) #[] #[.pointer (some ⟨ub, 0, none⟩)]] 85)).alloc (.cells (idL id).toArray 45)) (w.heap.size + 1) = some (.cells (idL id).toArray 45 (0, 0))) := Lib.hid (obj_alloc_at _ _ _ (by simp))
  have hz0 : ((w.alloc (.cells #[.map (some m), .func (.func 63) #[] #[.pointer (some ⟨ub, 0, none⟩)]] 85)).alloc (.cells (idL id).toArray 45)).heap.size = w.heap.size + 2 := by simp
  obtain ⟨oa, cap, rfl, h1, h2, h3⟩ := h
  unfold maxLen at h2
  have H3 := Lib.hid h3
  have HT : Hid (enoughF (fun a => underM xs a id) need (vs.drop 0) = enoughF (fun a => underM xs a id) need vs) := Lib.hid rfl
  generalize enoughF (fun a => underM xs a id) need vs = r at *
  clear h3 hr hvn
  go_enter Try.func54, Try.ntmps54
  go_wp2
  generalize (w.alloc (.cells #[.map (some m), .func (.func 63) #[] #[.pointer (some ⟨ub, 0, none⟩)]] 85)).alloc (.cells (idL id).toArray 45) = w0 at *
  generalize hB : w.heap.size = B at *
  go_loopw [3, 13] (fun v3 v13 wr => ∃ (k : Nat) (n : Int), k ≤ vs.length ∧ v13 = .int .i64 k ∧ v3 = .int .i64 n ∧ Hid (n ≤ 9223372036854775807) ∧ Hid (enoughF (fun a => underM xs a id) n (vs.drop k) = r) ∧ Hid (Below (B + 2) w0 wr)) (fun _ i _ => vs.length - (intOf i).toNat)
  case atStart => exact ⟨0, need, Nat.zero_le _, rfl, rfl, Lib.hid hne, HT, Lib.hid (Below.refl _ _)⟩
  case round =>
    obtain ⟨k, n, hk, rfl, rfl, HNN, HT, HQ⟩ := hrel
    have hzq := HQ.out.size
    have HQW := Lib.hid (B0.out.trans (HQ.out.mono (by omega)))
    by_cases hlt : k < vs.length
    · obtain ⟨b, off, hoa, hbb, hrow⟩ := H3.out (by omega)
      subst hoa
      have hsub := hrow k hlt
      rw [← obj_below HQW.out (by omega)] at hsub
      have hbr : b < wr.heap.size := by omega
      have hmulk : off + k * 33 + 33 ≤ off + k * 33 + 33 := Nat.le_refl _
      have HT2 := HT.out
      rw [List.drop_eq_getElem_cons hlt, HEF.out] at HT2
      have hxn := HVN.out vs[k] (List.getElem_mem hlt)
      have hnn := HNN.out
      have o2 : obj (wr.alloc (.cells (vtL vs[k]).toArray 114)) wr.heap.size = some (.cells (vtL vs[k]).toArray 114 (0, 0)) := obj_alloc_at _ _ _ rfl
      have HQA := Lib.hid (HQ.out.alloc (by omega) (.cells (vtL vs[k]).toArray 114))
      have hzx : (wr.alloc (.cells (vtL vs[k]).toArray 114)).heap.size = wr.heap.size + 1 := by simp
      generalize vs[k] = x at *
      have HTT := Lib.hid HT2
      obtain ⟨g0, g1⟩ := vt_parts (x := x) (W := wr.alloc (.cells (vtL x).toArray 114)) (b := wr.heap.size) (o := 0) (by rw [o2, subOf_cells (by simp), subA_all (by simp)])
      rw [Nat.zero_add] at g1
      have R0 := (obj_below HQA.out (by omega)).trans O0.out
      have R1 := (obj_below HQA.out (by omega)).trans O1.out
      have rc : (wr.alloc (.cells (vtL x).toArray 114)).cell? ⟨B, 1, none⟩ = some (.func (.func 63) #[] #[.pointer (some ⟨ub, 0, none⟩)]) := cell_at R0 1
      have ri : subOf (obj (wr.alloc (.cells (vtL x).toArray 114)) (B + 1)) 0 32 = some (idL id).toArray := by rw [R1, subOf_cells (by simp), subA_all (by simp)]
      have hBl := lt_of_obj R0
      have hBl1 := lt_of_obj R1
      have HU1 := Lib.hid ((HU _ (B0.out.trans (HQA.out.mono (by omega))) x.id).out)
      have O2 := Lib.hid o2
      clear hrow HT2 HT o2 R0 R1
      by_cases hn0 : 0 < n
      · have d0 : decide (0 < n) = true := by simpa using hn0
        by_cases hx0 : 0 < x.n
        · have d1 : decide (0 < x.n) = true := by simpa using hx0
          cases hu : underM xs x.id id with
          | true =>
            rw [hu] at HU1
            have HTE := HTT.out
            rw [if_pos ⟨hn0, hx0, hu⟩] at HTE
            have HTF := Lib.hid HTE
            have hwr : IntKind.i64.wrap (n - x.n) = n - x.n := by simp [IntKind.wrap, IntKind.signed, IntKind.bits]; omega
            clear HTE HTT hu HU
            go_wp2_with fail
            generalize wr.alloc (.cells (vtL x).toArray 114) = wx at *
            generalize hbx : wr.heap.size = bx at *
            clear hsub
            refine HU1.out.mono ?_
            rintro e w5 ⟨rfl, b5⟩
            have hz5 := b5.size
            have HQ5 := Lib.hid (HQA.out.trans (b5.mono (by omega)))
            obtain ⟨_, g1'⟩ := vt_parts (x := x) (W := w5) (b := bx) (o := 0) (by rw [obj_below b5 (by omega), O2.out, subOf_cells (by simp), subA_all (by simp)])
            rw [Nat.zero_add] at g1'
            have hx5 : bx < w5.heap.size := by omega
            clear b5 HU1 g0 g1 rc ri
            have heq : (if n ≤ x.n then (0 : Int) else n - x.n) = (if n - x.n < 0 then 0 else n - x.n) := by
              split <;> split <;> omega
            have HNX : Hid ((if n - x.n < 0 then (0 : Int) else n - x.n) ≤ 9223372036854775807) := Lib.hid (by split <;> omega)
            rw [heq] at HTF
            clear heq
            go_wp2
            go_roundw
            case rel => exact ⟨k + 1, _, by omega, by go_num, rfl, HNX, HTF, HQ5⟩
            case measure => simp [intOf]; omega
          | false =>
            rw [hu] at HU1
            have HTE := HTT.out
            rw [if_neg (by rw [hu]; simp)] at HTE
            have HTF := Lib.hid HTE
            clear HTE HTT hu HU
            go_wp2_with fail
            generalize wr.alloc (.cells (vtL x).toArray 114) = wx at *
            generalize hbx : wr.heap.size = bx at *
            clear hsub
            refine HU1.out.mono ?_
            rintro e w5 ⟨rfl, b5⟩
            have HQ5 := Lib.hid (HQA.out.trans (b5.mono (by omega)))
            clear b5 HU1 g0 g1 rc ri
            go_wp2
            go_roundw
            case rel => exact ⟨k + 1, _, by omega, by go_num, rfl, HNN, HTF, HQ5⟩
            case measure => simp [intOf]; omega
        · have d1 : decide (0 < x.n) = false := by simpa using hx0
          have HTE := HTT.out
          rw [if_neg (fun h => hx0 h.2.1)] at HTE
          have HTF := Lib.hid HTE
          clear HTE HTT HU HU1
          go_wp2
          go_roundw
          case rel => exact ⟨k + 1, _, by omega, by go_num, rfl, HNN, HTF, HQA⟩
          case measure => simp [intOf]; omega
      · have d0 : decide (0 < n) = false := by simpa using hn0
        have HTE := HTT.out
        rw [if_neg (fun h => hn0 h.1)] at HTE
        have HTF := Lib.hid HTE
        clear HTE HTT HU HU1
        go_wp2
        go_roundw
        case rel => exact ⟨k + 1, _, by omega, by go_num, rfl, HNN, HTF, HQA⟩
        case measure => simp [intOf]; omega
    · have HG : Hid (decide (n ≤ 0) = r) := Lib.hid (by
        have := HT.out
        rw [List.drop_eq_nil_of_le (by omega), HE0.out] at this
        exact this)
      go_wp2
      go_ret
      exact ⟨ret_bool HG.out, by rw [hB]; exact HQW.out⟩
end Go.Proofs.Ytmenfbfekfljbaa
