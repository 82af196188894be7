import Derived.Test.YtfejhekoijemdaaState
namespace Go.Proofs.Ytfejhekoijemdaa
open Go.RowKit

set_option maxRecDepth 100000 in
/-- (*Set).none: a set that was made -/
theorem none_no (w : World) (M V : Nat → Prop) (b : Nat) (lv : Value) (ps : List (Nat × Nat)) (S : SetM) (h : SetW w M V b lv ps S) (hp : 1 ≤ S.pref) :
    Calls Try.prog 31 #[.pointer (some ⟨b, 0, none⟩)] w fun e w' => e = .returned (.bool false) ∧ w' = w := by
  have c0 : w.cell? ⟨b, 0, none⟩ = some (.int .i64 S.pref) := cell_at h.box 0
  have hn : (S.pref == 0) = false := by simpa using (by omega : ¬ S.pref = 0)
  clear h hp
  generalize S.pref = p at *
  go_enter Try.func31, Try.ntmps31
  go_wp2
  go_ret
  exact ⟨rfl, rfl⟩
set_option maxRecDepth 100000 in
theorem none_nil (w : World) : Calls Try.prog 31 #[.pointer none] w fun e w' => e = .returned (.bool true) ∧ w' = w := by
  go_enter Try.func31, Try.ntmps31
  go_wp2
  go_ret
  exact ⟨rfl, rfl⟩
set_option maxRecDepth 100000 in
theorem none_zero (w : World) (b : Nat) (h : w.cell? ⟨b, 0, none⟩ = some (.int .i64 0)) : Calls Try.prog 31 #[.pointer (some ⟨b, 0, none⟩)] w fun e w' => e = .returned (.bool true) ∧ w' = w := by
  go_enter Try.func31, Try.ntmps31
  go_wp2
  go_ret
  exact ⟨rfl, rfl⟩
set_option maxRecDepth 100000 in
theorem new_no (w : World) (pref conf : Int) (h : pref < 1 ∨ conf < pref ∨ 64 < conf) :
    Calls Try.prog 10 #[.int .i64 pref, .int .i64 conf] w fun e w' => e = .returned (.tuple #[.pointer none, .int .i64 1]) ∧ w' = w := by
  by_cases d1 : pref < 1
  · clear h
    go_enter Try.func10, Try.ntmps10
    go_wp2
    go_ret2
    exact ⟨rfl, rfl⟩
  by_cases d2 : conf < pref
  · clear h
    go_enter Try.func10, Try.ntmps10
    go_wp2
    go_ret2
    exact ⟨rfl, rfl⟩
  · have d3 : 64 < conf := by omega
    clear h
    go_enter Try.func10, Try.ntmps10
    go_wp2
    go_ret2
    exact ⟨rfl, rfl⟩
set_option maxRecDepth 100000 in
theorem new_yes (w : World) (pref conf : Int) (h1 : 1 ≤ pref) (h2 : pref ≤ conf) (h3 : conf ≤ 64) :
    Calls Try.prog 10 #[.int .i64 pref, .int .i64 conf] w fun e w' => e = .returned (.tuple #[.pointer (some ⟨w.heap.size, 0, none⟩), .int .i64 0]) ∧
      w' = w.alloc (.cells #[.int .i64 pref, .int .i64 conf, .int .i64 0, .slice none 0 0] 78) := by
  have d1 : ¬ pref < 1 := by omega
  have d2 : ¬ conf < pref := by omega
  have d3 : ¬ 64 < conf := by omega
  go_enter Try.func10, Try.ntmps10
  go_wp2
  go_ret2
  exact ⟨rfl, rfl⟩
theorem new_set (w : World) (pref conf : Int) : SetW (w.alloc (.cells #[.int .i64 pref, .int .i64 conf, .int .i64 0, .slice none 0 0] 78)) (fun n => n = w.heap.size) (fun _ => False) w.heap.size (.slice none 0 0) [] ⟨pref, conf, 0, []⟩ where
  box := obj_alloc_at _ _ _ rfl
  row := ⟨rfl, .inl ⟨rfl, rfl⟩⟩
  len := rfl
  one := fun i p o h => by simp at h
  nd1 := List.Pairwise.nil
  nd2 := List.Pairwise.nil
  mb := rfl
  ml := fun g hg => by simp [Value.ownBlock] at hg
  mp := fun p hp => by cases hp
  dis := fun _ _ h => h
  mlt := fun n hn => by subst hn; simp
  vlt := fun _ h => h.elim
/-! ### find -/
def idIs (n : Int) (o : OneM) : Bool := o.id == n
theorem eg51 : ∀ args w, (callFunc 51 args).run Try.prog w = .ok (.enter 51 args) w := enters_of Try.func51 (by kernel_rfl) rfl
set_option maxRecDepth 100000 in
theorem is_any (w : World) (p c : Nat) (n id : Int) (h1 : w.cell? ⟨p, 0, none⟩ = some (.int .i64 id)) (h2 : w.cell? ⟨c, 0, none⟩ = some (.int .i64 n)) :
    Calls Try.prog 51 #[.pointer (some ⟨p, 0, none⟩), .pointer (some ⟨c, 0, none⟩)] w fun e w' => e = .returned (.bool (id == n)) ∧ Below w.heap.size w w' := by
  go_enter Try.func51, Try.ntmps51
  go_wp2
  go_quiet (fail)
  go_wp2
  go_ret
  exact ⟨rfl, ⟨rfl, rfl, rfl, Nat.le_refl _, fun _ _ => rfl⟩⟩

def findR (n : Int) (l : List OneM) : Int := match findI n l with | some i => (i : Int) | none => -1
theorem findI_hit {n : Int} : ∀ {l : List OneM} {k : Nat} (hk : k < l.length), (∀ (j : Nat) (h : j < l.length), j < k → l[j].id ≠ n) → l[k].id = n → findI n l = some k
  | o :: r, 0, _, _, h2 => by unfold findI; rw [if_pos (by simpa using h2)]
  | o :: r, k + 1, hk, h1, h2 => by
    unfold findI
    rw [if_neg (by have := h1 0 (by simp) (by omega); simpa using this)]
    rw [findI_hit (k := k) (by simpa using hk) (fun j hj hlt => by have := h1 (j + 1) (by simpa using hj) (by omega); simpa using this) (by simpa using h2)]
    rfl
theorem findI_miss {n : Int} : ∀ {l : List OneM}, (∀ (j : Nat) (h : j < l.length), l[j].id ≠ n) → findI n l = none
  | [], _ => rfl
  | o :: r, h => by
    unfold findI
    rw [if_neg (by have := h 0 (by simp); simpa using this), findI_miss (fun j hj => by have := h (j + 1) (by simpa using hj); simpa using this)]
    rfl
set_option maxRecDepth 100000 in
set_option maxHeartbeats 1000000 in
theorem index_any (w : World) (M V : Nat → Prop) (b : Nat) (lv : Value) (ps : List (Nat × Nat)) (S : SetM) (h : SetW w M V b lv ps S) (c : Nat) (n : Int) (hc : w.cell? ⟨c, 0, none⟩ = some (.int .i64 n)) :
    Calls Try.prog 50 #[lv, .func (.func 51) #[] #[.pointer (some ⟨c, 0, none⟩)]] w fun e w' => e = .returned (.int .i64 (findR n S.l)) ∧ Below w.heap.size w w' := by
  have HW := Lib.hid h
  have hlen := h.len
  obtain ⟨oa, cap, rfl, h1, h2, h3⟩ := h.row.slIn
  have H3 := Lib.hid h3
  unfold maxLen at h2
  have hcl := World.block_lt_of_cell? w _ hc
  have hcl : c < w.heap.size := hcl
  have eg := eg51
  clear h3 h
  go_enter Try.func50, Try.ntmps50
  go_wp2
  go_loopw [5, 8] (fun _ v8 wr => ∃ k : Nat, k ≤ ps.length ∧ v8 = .int .i64 k ∧ Hid (∀ (j : Nat) (h1 : j < S.l.length), j < k → S.l[j].id ≠ n) ∧ Below w.heap.size w wr) (fun _ i _ => ps.length - (intOf i).toNat)
  case atStart => exact ⟨0, Nat.zero_le _, rfl, Lib.hid (by omega), Below.refl _ w⟩
  case round =>
    obtain ⟨k, hk, rfl, HK, hb⟩ := hrel
    by_cases hlt : k < ps.length
    · obtain ⟨bb, off, hoa, hbb, hrow⟩ := H3.out (by omega)
      subst hoa
      have hs1 := hrow k hlt
      rw [← obj_below hb hbb] at hs1
      have hbl : bb < wr.heap.size := Nat.lt_of_lt_of_le hbb hb.size
      have c1 : wr.cell? ⟨bb, off + k * 1, none⟩ = some (ptrV ps[k]) := by
        have := subOf_cell hs1 (j := 0) (by decide)
        simpa [ptrL] using this
      rw [Nat.mul_one] at c1
      obtain ⟨v, ho⟩ := (HW.out.below hb).one k ps[k] (S.l[k]'(by omega)) (List.getElem?_eq_getElem hlt) (List.getElem?_eq_getElem (by omega))
      have hid : wr.cell? ⟨ps[k].1, 0, none⟩ = some (.int .i64 (S.l[k]'(by omega)).id) := cell_at ho.at_ 0
      have hcr : wr.cell? ⟨c, 0, none⟩ = some (.int .i64 n) := (World.cell?_of_block (w := w) (a := ⟨c, 0, none⟩) (obj_below hb hcl)).trans hc
      have HC := Lib.hid (is_any wr ps[k].1 c n (S.l[k]'(by omega)).id hid hcr)
      have NX : Hid (((S.l[k]'(by omega)).id == n) = false → ∀ (j : Nat) (h1 : j < S.l.length), j < k + 1 → S.l[j].id ≠ n) := Lib.hid (fun h j h1 hlt' => by
          by_cases e : j = k
          · subst e; simpa using h
          · exact HK.out j h1 (by omega))
      have NO : Hid (((S.l[k]'(by omega)).id == n) = true → findR n S.l = k) := Lib.hid (fun h => by
          unfold findR
          rw [findI_hit (by omega) HK.out (by simpa using h)])
      unfold ptrV at c1
      clear ho hid hcr hrow hs1
      generalize ps[k] = x at *
      generalize (S.l[k]'(by omega)).id = i at *
      generalize (i == n) = r at *
      cases r
      · go_wp2_with (go_at_fn 51; refine HC.out.mono ?_; rintro e w' ⟨rfl, hb'⟩)
        go_roundw
        case rel => exact ⟨k + 1, by omega, by go_num, Lib.hid (NX.out (by first | rfl | trivial)), hb.trans (hb'.mono hb.size)⟩
        case measure => simp [intOf]; omega
      · go_wp2_with (go_at_fn 51; refine HC.out.mono ?_; rintro e w' ⟨rfl, hb'⟩)
        go_ret
        exact ⟨ret_int (NO.out (by first | rfl | trivial)).symm, hb.trans (hb'.mono hb.size)⟩
    · have hk' : k = ps.length := by omega
      subst hk'
      have NO : Hid (findR n S.l = -1) := Lib.hid (by unfold findR; rw [findI_miss (fun j hj => HK.out j hj (by omega))])
      go_wp2
      go_ret
      exact ⟨ret_int NO.out.symm, hb⟩
end Go.Proofs.Ytfejhekoijemdaa
namespace Go.Proofs.Ytfejhekoijemdaa
open Go.RowKit

set_option maxRecDepth 100000 in
set_option maxHeartbeats 1000000 in
/-- (*Set).find -/
theorem find_any (w : World) (M V : Nat → Prop) (b : Nat) (lv : Value) (ps : List (Nat × Nat)) (S : SetM) (h : SetW w M V b lv ps S) (hp : 1 ≤ S.pref) (n : Int) :
    Calls Try.prog 33 #[.pointer (some ⟨b, 0, none⟩), .int .i64 n] w fun e w' => e = .returned (.pointer (ptrO ps (findI n S.l))) ∧ Below w.heap.size w w' := by
  have hw1 := h.alloc (.cells #[.int .i64 n] 2)
  have B1 := Lib.hid ((Below.refl _ w).alloc (Nat.le_refl _) (.cells #[.int .i64 n] 2))
  have hc : (w.alloc (.cells #[.int .i64 n] 2)).cell? ⟨w.heap.size, 0, none⟩ = some (.int .i64 n) := cell_at (obj_alloc_at w _ _ rfl) 0
  have HN := Lib.hid (none_no _ M V b lv ps S hw1 hp)
  have HI := Lib.hid (index_any _ M V b lv ps S hw1 w.heap.size n hc)
  have HW := Lib.hid hw1
  have c3 : (w.alloc (.cells #[.int .i64 n] 2)).cell? ⟨b, 3, none⟩ = some lv := cell_at hw1.box 3
  have hlen := h.len
  cases hf : findI n S.l with
  | none =>
    have hr : findR n S.l = -1 := by unfold findR; rw [hf]
    rw [hr] at HI
    clear h hw1 hf hr
    go_enter Try.func33, Try.ntmps33
    go_wp2_with fail
    refine HN.out.mono ?_
    rintro e w1 ⟨rfl, rfl⟩
    go_wp2_with fail
    refine HI.out.mono ?_
    rintro e w2 ⟨rfl, b2⟩
    go_wp2
    go_ret
    exact ⟨rfl, B1.out.trans (b2.mono B1.out.size)⟩
  | some i =>
    have hr : findR n S.l = i := by unfold findR; rw [hf]
    obtain ⟨hi, _⟩ := findI_lt hf
    have hil : i < ps.length := by omega
    have hP : Hid (ptrO ps (some i) = some ⟨ps[i].1, 0, none⟩) := Lib.hid (by unfold ptrO; simp [hil])
    rw [hr] at HI
    obtain ⟨oa, cap, rfl, h1, h2, h3⟩ := h.row.slIn
    have H3 := Lib.hid h3
    unfold maxLen at h2
    obtain ⟨bb, off, hoa, hbb, hrow⟩ := H3.out (by omega)
    subst hoa
    have hs1 := hrow i hil
    have hz1 : (w.alloc (.cells #[.int .i64 n] 2)).heap.size = w.heap.size + 1 := by simp
    have hbl := h.lt
    have e0 : ∀ W : World, Below (w.heap.size + 1) (w.alloc (.cells #[.int .i64 n] 2)) W → W.cell? ⟨bb, off + i, none⟩ = some (.pointer (some ⟨ps[i].1, 0, none⟩)) ∧ W.cell? ⟨b, 3, none⟩ = some (.slice (some ⟨bb, off, none⟩) ps.length cap) := fun W hb => by
      refine ⟨?_, (World.cell?_of_block (a := ⟨b, 3, none⟩) (obj_below hb (show b < w.heap.size + 1 by omega))).trans c3⟩
      refine (World.cell?_of_block (a := ⟨bb, off + i, none⟩) (obj_below hb (show bb < w.heap.size + 1 by omega))).trans ?_
      refine (World.cell?_of_block (w := w) (a := ⟨bb, off + i, none⟩) (obj_alloc_past _ _ _ hbb)).trans ?_
      have := subOf_cell hs1 (j := 0) (by decide)
      simpa [ptrL, ptrV] using this
    have E0 := Lib.hid e0
    have hil2 : ¬ (i : Int) < 0 := by omega
    clear h hw1 hf hr h3 hrow hs1 e0 hlen
    go_enter Try.func33, Try.ntmps33
    go_wp2_with fail
    refine HN.out.mono ?_
    rintro e w1 ⟨rfl, rfl⟩
    go_wp2_with fail
    refine HI.out.mono ?_
    rintro e w2 ⟨rfl, b2⟩
    obtain ⟨d1, d2⟩ := E0.out w2 (by rw [← hz1]; exact b2)
    go_wp2
    go_ret
    exact ⟨by rw [hP.out]; rfl, B1.out.trans (b2.mono (by omega))⟩
end Go.Proofs.Ytfejhekoijemdaa
