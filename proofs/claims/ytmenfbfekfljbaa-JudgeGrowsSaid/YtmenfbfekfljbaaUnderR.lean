import Derived.Test.YtmenfbfekfljbaaRefs
namespace Go.Proofs.Ytmenfbfekfljbaa
open Go.RowKit

/-- is it found by going from parent to parent, so often -/
def underF (par : ID → Option ID) : Nat → ID → ID → Bool
  | 0, _, _ => false
  | n + 1, a, b => if a = b then true else match par a with
    | some p => underF par n p b
    | none => false
def underM (xs : List FactD) (a b : ID) : Bool := underF (parM xs) (xs.length + 1) a b
theorem ref_parent_some {w : World} {v : Value} {xs : List FactD} {a p : ID} (h : SlIn w v 72 factL xs) (hlen : xs.length ≤ 1000) (hp : parM xs a = some p) :
    Calls Try.prog 19 #[v, .agg (idL a).toArray] w fun e w' => e = .returned (.tuple #[.agg (idL p).toArray, .bool true]) ∧ Below w.heap.size w w' :=
  (ref_parent_any w v xs a h hlen).mono fun e w' ⟨h1, h2⟩ => ⟨by rw [h1, hp]; rfl, h2⟩
theorem ref_parent_none {w : World} {v : Value} {xs : List FactD} {a : ID} (h : SlIn w v 72 factL xs) (hlen : xs.length ≤ 1000) (hp : parM xs a = none) :
    Calls Try.prog 19 #[v, .agg (idL a).toArray] w fun e w' => e = .returned (.tuple #[.agg (idL ID.zero).toArray, .bool false]) ∧ Below w.heap.size w w' :=
  (ref_parent_any w v xs a h hlen).mono fun e w' ⟨h1, h2⟩ => ⟨by rw [h1, hp]; rfl, h2⟩
theorem SlIn.len {α : Type} {w : World} {v : Value} {k : Nat} {enc : α → List Value} {xs : List α} (h : SlIn w v k enc xs) : ∃ oa cap, v = .slice oa xs.length cap := by
  obtain ⟨oa, cap, h1, _⟩ := h
  exact ⟨oa, cap, h1⟩

set_option maxRecDepth 100000 in
set_option maxHeartbeats 1000000 in
theorem ref_under_any (w : World) (v : Value) (xs : List FactD) (a b : ID) (h : SlIn w v 72 factL xs) (hlen : xs.length ≤ 1000) :
    Calls Try.prog 25 #[v, .agg (idL a).toArray, .agg (idL b).toArray] w fun e w' => e = .returned (.bool (underM xs a b)) ∧ Below w.heap.size w w' := by
  have HS := Lib.hid h
  obtain ⟨oa, cap, rfl⟩ := h.len
  clear h
  go_enter Try.func25, Try.ntmps25
  go_wp2
  go_loopw [7] (fun v7 wr => ∃ (k : Nat) (c : ID), k ≤ xs.length + 1 ∧ v7 = .int .i64 k ∧ Hid (underF (parM xs) (xs.length + 1 - k) c b = underM xs a b) ∧ Below w.heap.size w wr ∧ Hid (obj wr w.heap.size = some (.cells (idL c).toArray 45 (0, 0))) ∧ Hid (obj wr (w.heap.size + 1) = some (.cells (idL b).toArray 45 (0, 0)))) (fun i _ => xs.length + 1 - (intOf i).toNat)
  case atStart => exact ⟨0, a, by omega, rfl, Lib.hid rfl, ((Below.refl _ w).alloc (Nat.le_refl _) _).alloc (by simp) _, Lib.hid (by simp [go_sem]), Lib.hid (by simp [go_sem])⟩
  case round =>
    obtain ⟨k, c, hk, rfl, HU, hb, O1, O2⟩ := hrel
    have o1 := O1.out
    have o2 := O2.out
    have hz := lt_of_obj o2
    have hz1 := lt_of_obj o1
    by_cases hlt : k ≤ xs.length
    · have hu := HU.out
      rw [show xs.length + 1 - k = (xs.length - k) + 1 by omega] at hu
      by_cases hcb : c = b
      · have hd : decide (c = b) = true := by simpa using hcb
        rw [underF, if_pos hcb] at hu
        have HU2 := Lib.hid hu
        clear hu hcb
        go_wp2
        go_ret
        exact ⟨ret_bool HU2.out, hb⟩
      · have hd : decide (c = b) = false := by simpa using hcb
        rw [underF, if_neg hcb] at hu
        clear hcb
        have hS := HS.out.below (hb.mono (by omega) : Below w.heap.size w wr)
        cases hp : parM xs c with
        | none =>
          have CP := Lib.hid (ref_parent_none hS hlen hp)
          rw [hp] at hu
          have HU2 := Lib.hid hu
          clear hu hp hS
          go_wp2_with fail
          refine CP.out.mono ?_
          rintro e w1 ⟨rfl, hb1⟩
          go_wp2_with fail
          go_ret
          exact ⟨ret_bool HU2.out, (hb.trans (hb1.mono (by omega))).alloc (by have := hb1.size; omega) _⟩
        | some p =>
          have CP := Lib.hid (ref_parent_some hS hlen hp)
          rw [hp] at hu
          have HU2 := Lib.hid hu
          clear hu hp hS
          go_wp2_with fail
          refine CP.out.mono ?_
          rintro e w1 ⟨rfl, hb1⟩
          have p1 := (obj_below hb1 hz1).trans o1
          have p2 := (obj_below hb1 hz).trans o2
          have hz2 := hb1.size
          have hz3 := lt_of_obj p1
          go_wp2_with fail
          go_roundw
          case rel => exact ⟨k + 1, p, by omega, by go_num, Lib.hid (by rw [← HU2.out]; congr 1; omega), (below_putObj (hb.trans (hb1.mono (by omega))) (Nat.le_refl _) _).alloc (by rw [size_putObj]; omega) _, Lib.hid ((obj_alloc_past _ _ _ (by rw [size_putObj]; omega)).trans (obj_putObj_at _ _ _ hz3)), Lib.hid ((obj_alloc_past _ _ _ (by rw [size_putObj]; omega)).trans ((obj_putObj_ne _ _ _ _ (by omega)).trans p2))⟩
          case measure => simp [intOf]; omega
    · have hk' : k = xs.length + 1 := by omega
      have hu := HU.out
      rw [hk', Nat.sub_self, underF] at hu
      have HU2 := Lib.hid hu
      clear hu
      go_wp2
      go_ret
      exact ⟨ret_bool HU2.out, hb⟩

def conflictR (xs : List FactD) (a b : ID) : Bool := (parM xs a).isSome && (parM xs b).isSome && !underM xs a b && !underM xs b a
theorem ref_parent_any' (w : World) (v : Value) (xs : List FactD) (a : ID) (h : SlIn w v 72 factL xs) (hlen : xs.length ≤ 1000) :
    Calls Try.prog 19 #[v, .agg (idL a).toArray] w fun e w' => e = .returned (.tuple #[.agg (idL ((parM xs a).getD ID.zero)).toArray, .bool (parM xs a).isSome]) ∧ Below w.heap.size w w' :=
  (ref_parent_any w v xs a h hlen).mono fun e w' ⟨h1, h2⟩ => ⟨by rw [h1]; cases parM xs a <;> rfl, h2⟩
set_option maxRecDepth 100000 in
set_option maxHeartbeats 1000000 in
theorem ref_conflict_any (w : World) (v : Value) (xs : List FactD) (a b : ID) (h : SlIn w v 72 factL xs) (hlen : xs.length ≤ 1000) :
    Calls Try.prog 26 #[v, .agg (idL a).toArray, .agg (idL b).toArray] w fun e w' => e = .returned (.bool (conflictR xs a b)) ∧ Below w.heap.size w w' := by
  have HS := Lib.hid h
  obtain ⟨oa, cap, rfl⟩ := h.len
  clear h
  have HC : Hid (conflictR xs a b = ((parM xs a).isSome && (parM xs b).isSome && !underM xs a b && !underM xs b a)) := Lib.hid rfl
  go_enter Try.func26, Try.ntmps26
  go_wp2_with fail
  refine (ref_parent_any' _ _ xs a (HS.out.below (((Below.refl _ w).alloc (Nat.le_refl _) _).alloc (by simp) _)) hlen).mono ?_
  rintro e w1 ⟨rfl, hb1⟩
  generalize (parM xs a).getD ID.zero = p1 at *
  generalize (parM xs a).isSome = x1 at *
  have b1 : Below w.heap.size w w1 := (((Below.refl _ w).alloc (Nat.le_refl _) _).alloc (by simp) _).trans (hb1.mono (by simp; omega))
  have o1 : obj w1 w.heap.size = some (.cells (idL a).toArray 45 (0, 0)) := (obj_below hb1 (by simp; omega)).trans (by simp [go_sem])
  have o2 : obj w1 (w.heap.size + 1) = some (.cells (idL b).toArray 45 (0, 0)) := (obj_below hb1 (by simp)).trans (by simp [go_sem])
  have z2 := lt_of_obj o2
  have z1 := lt_of_obj o1
  clear hb1
  go_wp2_with fail
  refine (ref_parent_any' _ _ xs b (HS.out.below ((b1.alloc (by omega) _).mono (Nat.le_refl _))) hlen).mono ?_
  rintro e w2 ⟨rfl, hb2⟩
  generalize (parM xs b).getD ID.zero = p2 at *
  generalize (parM xs b).isSome = x2 at *
  have b2 : Below w.heap.size w w2 := (b1.alloc (by omega) _).trans (hb2.mono (by simp; omega))
  have q1 : obj w2 w.heap.size = some (.cells (idL a).toArray 45 (0, 0)) := (obj_below hb2 (by simp; omega)).trans (by simp [go_sem, o1, z1])
  have q2 : obj w2 (w.heap.size + 1) = some (.cells (idL b).toArray 45 (0, 0)) := (obj_below hb2 (by simp; omega)).trans (by simp [go_sem, o2, z2])
  have z4 := lt_of_obj q2
  have z3 := lt_of_obj q1
  clear hb2 o1 o2
  have CA := fun W (hb : Below w.heap.size w W) => ref_under_any W _ xs a b (HS.out.below hb) hlen
  have CB := fun W (hb : Below w.heap.size w W) => ref_under_any W _ xs b a (HS.out.below hb) hlen
  generalize underM xs a b = y1 at *
  generalize underM xs b a = y2 at *
  have HA := Lib.hid CA
  have HB := Lib.hid CB
  clear CA CB
  cases x1
  · go_wp2
    go_ret
    exact ⟨ret_bool (by rw [HC.out]; rfl), b2.alloc (by omega) _⟩
  cases x2
  · go_wp2
    go_ret
    exact ⟨ret_bool (by rw [HC.out]; rfl), b2.alloc (by omega) _⟩
  go_wp2_with fail
  refine (HA.out _ (b2.alloc (by omega) _)).mono ?_
  rintro e w3 ⟨rfl, hb3⟩
  have b3 : Below w.heap.size w w3 := (b2.alloc (by omega) _).trans (hb3.mono (by simp; omega))
  have r1 : obj w3 w.heap.size = some (.cells (idL a).toArray 45 (0, 0)) := (obj_below hb3 (by simp; omega)).trans (by simp [go_sem, q1, z3])
  have r2 : obj w3 (w.heap.size + 1) = some (.cells (idL b).toArray 45 (0, 0)) := (obj_below hb3 (by simp; omega)).trans (by simp [go_sem, q2, z4])
  clear hb3 q1 q2
  cases y1
  · go_wp2_with fail
    refine (HB.out _ b3).mono ?_
    rintro e w4 ⟨rfl, hb4⟩
    have b4 : Below w.heap.size w w4 := b3.trans (hb4.mono (by have := b3.size; omega))
    cases y2
    · go_wp2
      go_ret
      exact ⟨ret_bool (by rw [HC.out]; rfl), b4⟩
    · go_wp2
      go_ret
      exact ⟨ret_bool (by rw [HC.out]; rfl), b4⟩
  · go_wp2
    go_ret
    exact ⟨ret_bool (by rw [HC.out]; rfl), b3⟩
end Go.Proofs.Ytmenfbfekfljbaa
