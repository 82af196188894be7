import Derived.Test.YtfejhekoijemdaaTakes
namespace Go.Proofs.Ytfejhekoijemdaa
open Go.RowKit

def leftM (S : SetM) (n : Int) : Int × Int :=
  match findI n S.l with
  | none => (0, 4)
  | some i => match S.l[i]? with
    | none => (0, 4)
    | some o => if isDone S o = true then (0, 0) else (o.left, 0)
def waitsM (S : SetM) (n v : Int) : Bool :=
  match findI n S.l with
  | none => false
  | some i => match S.l[i]? with
    | none => false
    | some o => if isDone S o = true then false else decide (0 < waitsOf o v)
theorem ret_two {a c : Int} {r : Int × Int} (h : r = (a, c)) : Ending.returned (.tuple #[.int .i64 a, .int .i64 c]) = .returned (.tuple #[.int .i64 r.1, .int .i64 r.2]) := by rw [h]
set_option maxRecDepth 100000 in
/-- (*Set).Len -/
theorem len_any (w : World) (M V : Nat → Prop) (b : Nat) (lv : Value) (ps : List (Nat × Nat)) (S : SetM) (h : SetW w M V b lv ps S) (hp : 1 ≤ S.pref) :
    Calls Try.prog 19 #[.pointer (some ⟨b, 0, none⟩)] w fun e w' => e = .returned (.int .i64 S.l.length) ∧ w' = w := by
  have HN := Lib.hid (none_no w M V b lv ps S h hp)
  have c3 : w.cell? ⟨b, 3, none⟩ = some lv := cell_at h.box 3
  obtain ⟨la, lc, rfl, _⟩ := h.row.slIn
  rw [h.len] at c3
  clear h
  generalize S.l.length = n at *
  go_enter Try.func19, Try.ntmps19
  go_wp2_with fail
  refine HN.out.mono ?_
  rintro e w ⟨rfl, rfl⟩
  go_wp2
  go_ret
  exact ⟨rfl, rfl⟩
set_option maxRecDepth 100000 in
set_option maxHeartbeats 1000000 in
/-- (*Set).Left -/
theorem left_any (w : World) (M V : Nat → Prop) (b : Nat) (lv : Value) (ps : List (Nat × Nat)) (S : SetM) (h : SetW w M V b lv ps S) (hok : SetOK S) (n : Int) :
    Calls Try.prog 21 #[.pointer (some ⟨b, 0, none⟩), .int .i64 n] w fun e w' => e = .returned (.tuple #[.int .i64 (leftM S n).1, .int .i64 (leftM S n).2]) ∧ Below w.heap.size w w' := by
  have HN := Lib.hid (none_no w M V b lv ps S h hok.p0)
  have HF := Lib.hid (find_any w M V b lv ps S h hok.p0 n)
  cases hf : findI n S.l with
  | none =>
    rw [hf] at HF
    have hr : ptrO ps none = none := rfl
    rw [hr] at HF
    have HR : Hid (leftM S n = (0, 4)) := Lib.hid (by unfold leftM; rw [hf])
    clear h hok hf hr
    go_enter Try.func21, Try.ntmps21
    go_wp2_with fail
    refine HN.out.mono ?_
    rintro e w ⟨rfl, rfl⟩
    go_wp2_with fail
    refine HF.out.mono ?_
    rintro e w2 ⟨rfl, b2⟩
    have B2 := Lib.hid b2
    clear b2
    go_wp2
    go_ret2
    exact ⟨ret_two HR.out, B2.out⟩
  | some i =>
    obtain ⟨hi, _⟩ := findI_lt hf
    have hil : i < ps.length := by rw [h.len]; exact hi
    have ho := List.getElem?_eq_getElem hi
    have hpi := List.getElem?_eq_getElem hil
    have hoo := hok.one _ (List.getElem_mem hi)
    generalize S.l[i] = o at *
    generalize ps[i] = p at *
    have hr : ptrO ps (some i) = some ⟨p.1, 0, none⟩ := by simp [ptrO, hpi]
    rw [hf, hr] at HF
    have HD := fun W (hb : Below w.heap.size w W) => Lib.hid (done_any W M V b lv ps S (h.below hb) i p o hpi ho hoo)
    obtain ⟨v0, h0⟩ := h.one i p o hpi ho
    have C3 := Lib.hid (fun W (hb : Below w.heap.size w W) => (cell_at ((obj_below hb (lt_of_obj h0.at_)).trans h0.at_) 3 : W.cell? ⟨p.1, 3, none⟩ = some (.int .i64 o.left)))
    cases hd : isDone S o with
    | true =>
      have HR : Hid (leftM S n = (0, 0)) := Lib.hid (by unfold leftM; rw [hf]; simp [ho, hd])
      rw [hd] at HD
      clear h hok hf hi hil ho hpi hoo hd hr h0
      go_enter Try.func21, Try.ntmps21
      go_wp2_with fail
      refine HN.out.mono ?_
      rintro e w ⟨rfl, rfl⟩
      go_wp2_with fail
      refine HF.out.mono ?_
      rintro e w1 ⟨rfl, b1⟩
      have B1 := Lib.hid b1
      have HD1 := HD w1 b1
      clear b1 HD
      go_wp2_with fail
      refine HD1.out.mono ?_
      rintro e w2 ⟨rfl, b2⟩
      have B2 := Lib.hid (B1.out.trans (b2.mono B1.out.size))
      clear b2
      go_wp2
      go_ret2
      exact ⟨ret_two HR.out, B2.out⟩
    | false =>
      have HR : Hid (leftM S n = (o.left, 0)) := Lib.hid (by unfold leftM; rw [hf]; simp [ho, hd])
      rw [hd] at HD
      clear h hok hf hi hil ho hpi hoo hd hr h0
      go_enter Try.func21, Try.ntmps21
      go_wp2_with fail
      refine HN.out.mono ?_
      rintro e w ⟨rfl, rfl⟩
      go_wp2_with fail
      refine HF.out.mono ?_
      rintro e w1 ⟨rfl, b1⟩
      have B1 := Lib.hid b1
      have HD1 := HD w1 b1
      clear b1 HD
      go_wp2_with fail
      refine HD1.out.mono ?_
      rintro e w2 ⟨rfl, b2⟩
      have B2 := Lib.hid (B1.out.trans (b2.mono B1.out.size))
      have c3 := C3.out w2 B2.out
      clear b2
      go_wp2
      go_ret2
      exact ⟨ret_two HR.out, B2.out⟩
set_option maxRecDepth 100000 in
set_option maxHeartbeats 1000000 in
/-- (*Set).Waits -/
theorem waits_any (w : World) (M V : Nat → Prop) (b : Nat) (lv : Value) (ps : List (Nat × Nat)) (S : SetM) (h : SetW w M V b lv ps S) (hok : SetOK S) (n v : Int) :
    Calls Try.prog 12 #[.pointer (some ⟨b, 0, none⟩), .int .i64 n, .int .i64 v] w fun e w' => e = .returned (.bool (waitsM S n v)) ∧ Below w.heap.size w w' := by
  have HF := Lib.hid (find_any w M V b lv ps S h hok.p0 n)
  cases hf : findI n S.l with
  | none =>
    rw [hf] at HF
    have hr : ptrO ps none = none := rfl
    rw [hr] at HF
    have HR : Hid (waitsM S n v = false) := Lib.hid (by unfold waitsM; rw [hf])
    clear h hok hf hr
    go_enter Try.func12, Try.ntmps12
    go_wp2_with fail
    refine HF.out.mono ?_
    rintro e w2 ⟨rfl, b2⟩
    have B2 := Lib.hid b2
    clear b2
    go_wp2
    go_ret
    exact ⟨ret_bool HR.out.symm, B2.out⟩
  | some i =>
    obtain ⟨hi, _⟩ := findI_lt hf
    have hil : i < ps.length := by rw [h.len]; exact hi
    have ho := List.getElem?_eq_getElem hi
    have hpi := List.getElem?_eq_getElem hil
    have hoo := hok.one _ (List.getElem_mem hi)
    generalize S.l[i] = o at *
    generalize ps[i] = p at *
    have hr : ptrO ps (some i) = some ⟨p.1, 0, none⟩ := by simp [ptrO, hpi]
    rw [hf, hr] at HF
    have HD := fun W (hb : Below w.heap.size w W) => Lib.hid (done_any W M V b lv ps S (h.below hb) i p o hpi ho hoo)
    obtain ⟨v0, h0⟩ := h.one i p o hpi ho
    have C2 := Lib.hid (fun W (hb : Below w.heap.size w W) => (cell_at ((obj_below hb (lt_of_obj h0.at_)).trans h0.at_) 2 : W.cell? ⟨p.1, 2, none⟩ = some (.map (some p.2))))
    obtain ⟨es, clk, hm, hrep⟩ := h0.map
    have LK := Lib.hid (fun W (hb : Below w.heap.size w W) => (show (Instr.lookup 31 (.map (some p.2)) (.int .i64 v) false).run Try.prog W = .ok (.int .i64 (waitsOf o v)) W by
      rw [run_lookup1_int (enc := intV) Try.underlying31 Try.underlying3 (z := .int .i64 0) (fun w => by kernel_rfl) ⟨es, clk, (obj_below hb (lt_of_obj hm)).trans hm, hrep⟩ v]
      unfold waitsOf intV
      cases aGet v o.W <;> rfl))
    cases hd : isDone S o with
    | true =>
      have HR : Hid (waitsM S n v = false) := Lib.hid (by unfold waitsM; rw [hf]; simp [ho, hd])
      rw [hd] at HD
      clear h hok hf hi hil ho hpi hoo hd hr h0 hm hrep
      go_enter Try.func12, Try.ntmps12
      go_wp2_with fail
      refine HF.out.mono ?_
      rintro e w1 ⟨rfl, b1⟩
      have B1 := Lib.hid b1
      have HD1 := HD w1 b1
      clear b1 HD
      go_wp2_with fail
      refine HD1.out.mono ?_
      rintro e w2 ⟨rfl, b2⟩
      have B2 := Lib.hid (B1.out.trans (b2.mono B1.out.size))
      clear b2
      go_wp2
      go_ret
      exact ⟨ret_bool HR.out.symm, B2.out⟩
    | false =>
      have HR : Hid (waitsM S n v = decide (0 < waitsOf o v)) := Lib.hid (by unfold waitsM; rw [hf]; simp [ho, hd])
      rw [hd] at HD
      clear h hok hf hi hil ho hpi hoo hd hr h0 hm hrep
      obtain ⟨pp, m⟩ := p
      simp only at HF HD C2 LK
      generalize waitsOf o v = q at *
      go_enter Try.func12, Try.ntmps12
      go_wp2_with fail
      refine HF.out.mono ?_
      rintro e w1 ⟨rfl, b1⟩
      have B1 := Lib.hid b1
      have HD1 := HD w1 b1
      clear b1 HD
      go_wp2_with fail
      refine HD1.out.mono ?_
      rintro e w2 ⟨rfl, b2⟩
      have B2 := Lib.hid (B1.out.trans (b2.mono B1.out.size))
      have c2 := C2.out w2 B2.out
      have lk := LK.out w2 B2.out
      clear b2
      go_wp2
      go_ret
      exact ⟨ret_bool HR.out.symm, B2.out⟩
end Go.Proofs.Ytfejhekoijemdaa
