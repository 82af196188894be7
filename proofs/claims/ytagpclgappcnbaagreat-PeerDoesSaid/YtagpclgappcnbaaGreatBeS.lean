import Derived.Test.YtagpclgappcnbaaGreatBeN
import Derived.Test.YtagpclgappcnbaaGreatRange
import Derived.BigRegionIn
import Derived.RangeFuncBox
namespace Go.Proofs.YtagpclgappcnbaaGreat.Be
open Go.RowKit

/-! ### seats and rules -/
structure St where
  f : Int
  s : Int
  u : Int
@[reducible] def stL (a : St) : List Value := [.int .i64 a.f, .int .i64 a.s, .int .i64 a.u]
@[reducible] def stV (a : St) : Value := .agg #[.int .i64 a.f, .int .i64 a.s, .int .i64 a.u]
theorem stL_length (a : St) : (stL a).length = 3 := rfl
theorem stL_one (a : St) : allOne (stL a).toArray = true := rfl
@[go_sem ↓] theorem hide_load50 (a : Addr) : loadVar 138 a = loadAgg 138 a := rfl
@[go_sem ↓] theorem hide_store50 (a : Addr) (v : Value) : storeVar 138 a v = storeAgg 138 a v := rfl
@[go_sem] theorem run_load50 (b off : Nat) (W : World) : (loadAgg 138 ⟨b, off, none⟩).run Tryz.prog W = loadRes Tryz.prog 138 ⟨b, off, none⟩ W (subOf (obj W b) off 3) := run_loadAgg Tryz.isAgg138 Tryz.sizeOf138 b off W
@[go_sem] theorem run_store50 (b off : Nat) (cs : Array Value) (W : World) : (storeAgg 138 ⟨b, off, none⟩ (.agg cs)).run Tryz.prog W = storeRes Tryz.prog 138 ⟨b, off, none⟩ (.agg cs) W (putOf (obj W b) off 3 cs) := run_storeAgg Tryz.sizeOf138 b off cs W
structure Rul where
  f : Int
  lo : Int
  fo : Int
  nu : Int
  de : Int
@[reducible] def ruV (r : Rul) : Value := .agg #[.int .i64 r.f, .int .i64 r.lo, .int .i64 r.fo, .int .i64 r.nu, .int .i64 r.de]
@[reducible] def ruC (r : Rul) : Array Value := #[.int .i64 r.f, .int .i64 r.lo, .int .i64 r.fo, .int .i64 r.nu, .int .i64 r.de]
def ruleE (r : Rul) : Int := if r.f < 1 ∨ 1000 < r.f ∨ r.lo < 0 ∨ 1099511627776 < r.lo ∨ r.fo < 1 ∨ 1099511627776 < r.fo ∨ r.de < 1 ∨ r.nu < 0 ∨ r.de < r.nu then 150 else 0
def mayB (x : St) : Bool := !(decide (x.f = 0) && !decide (x.s = 0)) && (decide (0 ≤ x.f) && decide (x.f ≤ 1000) && decide (0 ≤ x.s) && decide (x.s ≤ 4611686018427387903) && decide (0 ≤ x.u) && decide (x.u ≤ 4611686018427387903))
def mayE (r : Rul) (l : List Vd) (s : List St) : Int := if ruleE r = 0 ∧ chk l = 0 ∧ s.length = l.length ∧ s.all mayB = true then 0 else 150
def isB (s : List St) (v now : Int) : Bool := decide (0 ≤ v) && decide (v < s.length) && decide (0 ≤ now) && decide (now < (s.getD v.toNat ⟨0, 0, 0⟩).u)

set_option maxHeartbeats 1000000 in
theorem rule_any (r : Rul) (w : World) : Calls Tryz.prog 31 #[ruV r] w fun e w' => e = .returned (.int .i64 (ruleE r)) ∧ Below w.heap.size w w' := by
  obtain ⟨a, b, c, d, e⟩ := r
  have hb : Below w.heap.size w (w.alloc (.cells #[.int .i64 a, .int .i64 b, .int .i64 c, .int .i64 d, .int .i64 e] 25)) := (Below.refl _ _).alloc (Nat.le_refl _) _
  have HB := Lib.hid hb
  clear hb
  simp only [ruV]
  by_cases hh : a < 1 ∨ 1000 < a ∨ b < 0 ∨ 1099511627776 < b ∨ c < 1 ∨ 1099511627776 < c ∨ e < 1 ∨ d < 0 ∨ e < d
  · have HR := Lib.hid (show ruleE ⟨a, b, c, d, e⟩ = 150 from if_pos hh)
    have hx : ∃ p1 p2 p3 p4 p5 p6 p7 p8 p9 : Bool, decide (a < 1) = p1 ∧ decide (1000 < a) = p2 ∧ decide (b < 0) = p3 ∧ decide (1099511627776 < b) = p4 ∧ decide (c < 1) = p5 ∧ decide (1099511627776 < c) = p6 ∧ decide (e < 1) = p7 ∧ decide (d < 0) = p8 ∧ decide (e < d) = p9 ∧ (p1 || p2 || p3 || p4 || p5 || p6 || p7 || p8 || p9) = true := ⟨_, _, _, _, _, _, _, _, _, rfl, rfl, rfl, rfl, rfl, rfl, rfl, rfl, rfl, by simpa using (by simpa [or_assoc] using hh)⟩
    obtain ⟨p1, p2, p3, p4, p5, p6, p7, p8, p9, q1, q2, q3, q4, q5, q6, q7, q8, q9, hor⟩ := hx
    clear hh
    cases p1
    · cases p2
      · cases p3
        · cases p4
          · cases p5
            · cases p6
              · cases p7
                · cases p8
                  · cases p9
                    · cases hor
                    · go_enter Tryz.func31, Tryz.ntmps31
                      go_wp2
                      go_ret
                      exact ⟨ret_int HR.out.symm, HB.out⟩
                  · go_enter Tryz.func31, Tryz.ntmps31
                    go_wp2
                    go_ret
                    exact ⟨ret_int HR.out.symm, HB.out⟩
                · go_enter Tryz.func31, Tryz.ntmps31
                  go_wp2
                  go_ret
                  exact ⟨ret_int HR.out.symm, HB.out⟩
              · go_enter Tryz.func31, Tryz.ntmps31
                go_wp2
                go_ret
                exact ⟨ret_int HR.out.symm, HB.out⟩
            · go_enter Tryz.func31, Tryz.ntmps31
              go_wp2
              go_ret
              exact ⟨ret_int HR.out.symm, HB.out⟩
          · go_enter Tryz.func31, Tryz.ntmps31
            go_wp2
            go_ret
            exact ⟨ret_int HR.out.symm, HB.out⟩
        · go_enter Tryz.func31, Tryz.ntmps31
          go_wp2
          go_ret
          exact ⟨ret_int HR.out.symm, HB.out⟩
      · go_enter Tryz.func31, Tryz.ntmps31
        go_wp2
        go_ret
        exact ⟨ret_int HR.out.symm, HB.out⟩
    · go_enter Tryz.func31, Tryz.ntmps31
      go_wp2
      go_ret
      exact ⟨ret_int HR.out.symm, HB.out⟩
  · have HR := Lib.hid (show ruleE ⟨a, b, c, d, e⟩ = 0 from if_neg hh)
    obtain ⟨n1, hh⟩ := not_or.1 hh
    obtain ⟨n2, hh⟩ := not_or.1 hh
    obtain ⟨n3, hh⟩ := not_or.1 hh
    obtain ⟨n4, hh⟩ := not_or.1 hh
    obtain ⟨n5, hh⟩ := not_or.1 hh
    obtain ⟨n6, hh⟩ := not_or.1 hh
    obtain ⟨n7, hh⟩ := not_or.1 hh
    obtain ⟨n8, n9⟩ := not_or.1 hh
    go_enter Tryz.func31, Tryz.ntmps31
    go_wp2
    go_ret
    exact ⟨ret_int HR.out.symm, HB.out⟩
set_option maxHeartbeats 1000000 in
theorem may_any (x : St) (w : World) : Calls Tryz.prog 130 #[stV x] w fun e w' => e = .returned (.bool (mayB x)) ∧ Below w.heap.size w w' := by
  obtain ⟨a, b, c⟩ := x
  have hb : Below w.heap.size w (w.alloc (.cells #[.int .i64 a, .int .i64 b, .int .i64 c] 138)) := (Below.refl _ _).alloc (Nat.le_refl _) _
  have HB := Lib.hid hb
  have ho : obj (w.alloc (.cells #[.int .i64 a, .int .i64 b, .int .i64 c] 138)) w.heap.size = some (.cells #[.int .i64 a, .int .i64 b, .int .i64 c] 138 (0, 0)) := obj_alloc_at _ _ _ rfl
  clear hb
  simp only [stV]
  go_enter Tryz.func130, Tryz.ntmps130
  go_wp2
  all_goals (go_ret; refine ⟨ret_bool ?_, (Below.refl _ _).alloc (Nat.le_refl _) _⟩; unfold mayB; rw [Bool.eq_iff_iff]; simp_all <;> omega)
theorem is_any (w : World) (v : Value) (s : List St) (i now : Int) (h : SlIn w v 3 stL s) : Calls Tryz.prog 55 #[v, .int .i64 i, .int .i64 now] w fun e w' => e = .returned (.bool (isB s i now)) ∧ w = w' := by
  obtain ⟨oa, cap, rfl, g1, g2, g3⟩ := h
  unfold maxLen at g2
  by_cases h1 : 0 ≤ i
  · obtain ⟨k, rfl⟩ := Int.eq_ofNat_of_zero_le h1
    by_cases h2 : k < s.length
    · obtain ⟨b, off, hoa, hbb, hrow⟩ := g3 (by omega)
      subst hoa
      have hs1 := hrow k h2
      have hg : s.getD k ⟨0, 0, 0⟩ = s[k] := by simp [List.getD, h2]
      have HI := Lib.hid (show isB s (k : Int) now = (decide (0 ≤ now) && decide (now < s[k].u)) by unfold isB; simp only [Int.toNat_natCast, hg]; simp [h2])
      generalize s[k] = x at *
      obtain ⟨a, b', c⟩ := x
      have c2 : w.cell? ⟨b, off + k * 3 + 2, none⟩ = some (.int .i64 c) := by have := subOf_cell hs1 (j := 2) (by decide); simpa using this
      clear hs1 hrow g3 hg
      go_enter Tryz.func55, Tryz.ntmps55
      go_wp2
      all_goals (go_ret; refine ⟨ret_bool ?_, rfl⟩; rw [HI.out, Bool.eq_iff_iff]; simp_all <;> omega)
    · have HI := Lib.hid (show isB s (k : Int) now = false by unfold isB; simp; omega)
      have h2' : ¬ (k : Int) < (s.length : Int) := by omega
      clear g3
      go_enter Tryz.func55, Tryz.ntmps55
      go_wp2
      go_ret
      exact ⟨ret_bool HI.out.symm, rfl⟩
  · have HI := Lib.hid (show isB s i now = false by unfold isB; simp; omega)
    clear g3
    go_enter Tryz.func55, Tryz.ntmps55
    go_wp2
    go_ret
    exact ⟨ret_bool HI.out.symm, rfl⟩
end Go.Proofs.YtagpclgappcnbaaGreat.Be
namespace Go.Proofs.YtagpclgappcnbaaGreat.Be
open Go.RowKit

theorem mayE_cases (r : Rul) (l : List Vd) (s : List St) : mayE r l s = 0 ∨ mayE r l s = 150 := by unfold mayE; split <;> simp
theorem mayE_0 {r : Rul} {l : List Vd} {s : List St} (h : mayE r l s = 0) : ruleE r = 0 ∧ chk l = 0 ∧ s.length = l.length ∧ s.all mayB = true := by
  unfold mayE at h
  split at h
  · assumption
  · cases h
theorem ruleE_cases (r : Rul) : ruleE r = 0 ∨ ruleE r = 150 := by unfold ruleE; split <;> simp
set_option maxRecDepth 100000 in
set_option maxHeartbeats 1000000 in
/-- bench.May -/
theorem mayL_any (w : World) (r : Rul) (v1 v2 : Value) (l : List Vd) (s : List St) (h : SlIn w v1 2 vdL l) (h2 : SlIn w v2 3 stL s) :
    Calls Tryz.prog 105 #[ruV r, v1, v2] w fun e w' => e = .returned (.int .i64 (mayE r l s)) ∧ Below w.heap.size w w' := by
  have b1 : Below w.heap.size w (w.alloc (.cells (ruC r) 25)) := (Below.refl _ _).alloc (Nat.le_refl _) _
  have HR := Lib.hid (rule_any r (w.alloc (.cells (ruC r) 25)))
  have HS := Lib.hid h
  have HS2 := Lib.hid h2
  have B1 := Lib.hid b1
  obtain ⟨oa, cap, rfl, g1, g2, g3⟩ := h
  obtain ⟨oa2, cap2, rfl, k1, k2, k3⟩ := h2
  unfold maxLen at g2 k2
  have H3 := Lib.hid g3
  have K3 := Lib.hid k3
  clear g3 k3 b1
  simp only [ruV, ruC] at *
  rcases ruleE_cases r with hr | hr
  · rw [hr] at HR
    go_enter Tryz.func105, Tryz.ntmps105
    go_wp2_with fail
    generalize w.alloc (.cells #[.int .i64 r.f, .int .i64 r.lo, .int .i64 r.fo, .int .i64 r.nu, .int .i64 r.de] 25) = w1 at *
    refine HR.out.mono ?_
    rintro e w2 ⟨rfl, b2⟩
    have B2 := Lib.hid (B1.out.trans (b2.mono B1.out.size))
    have HC := Lib.hid (checkA w2 _ l (HS.out.below B2.out))
    clear b2 HR
    rcases chk_cases l with hc | hc
    · rw [hc] at HC
      go_wp2_with fail
      refine HC.out.mono ?_
      rintro e w3 ⟨rfl, b3⟩
      have B3 := Lib.hid (B2.out.trans (b3.mono B2.out.size))
      clear b3 HC
      by_cases hl : s.length = l.length
      · have hl' : (s.length : Int) = (l.length : Int) := by omega
        have HE := Lib.hid (show mayE r l s = if s.all mayB = true then 0 else 150 by unfold mayE; by_cases ha : s.all mayB = true <;> simp [hr, hc, hl, ha])
        have HL := Lib.hid hl
        clear hl hr hc
        go_wp2
        go_loopw [26] (fun v18 wr => ∃ k : Nat, k ≤ s.length ∧ v18 = .int .i64 k ∧ Hid (Below w.heap.size w wr) ∧ Hid ((s.drop k).all mayB = s.all mayB)) (fun i _ => s.length - (intOf i).toNat)
        case atStart => exact ⟨0, Nat.zero_le _, rfl, B3, Lib.hid rfl⟩
        case round =>
          obtain ⟨k, hk, rfl, HB, HF⟩ := hrel
          clear hl'
          by_cases hlt : k < s.length
          · have hlt2 : k < l.length := by have := HL.out; omega
            obtain ⟨b, off, hoa, hbb, hrow⟩ := K3.out (by omega)
            subst hoa
            have hs1 := hrow k hlt
            rw [← obj_below HB.out hbb] at hs1
            have hbl : b < wr.heap.size := Nat.lt_of_lt_of_le hbb HB.out.size
            have hF := HF.out
            rw [List.drop_eq_getElem_cons hlt] at hF
            generalize s[k] = x at *
            obtain ⟨xf, xs, xu⟩ := x
            simp only [stL] at hs1
            clear hrow
            rw [List.all_cons] at hF
            have oz : obj (wr.alloc (.cells #[.int .i64 xf, .int .i64 xs, .int .i64 xu] 138)) wr.heap.size = some (.cells #[.int .i64 xf, .int .i64 xs, .int .i64 xu] 138 (0, 0)) := obj_alloc_at _ _ _ rfl
            have HBA := Lib.hid (HB.out.alloc HB.out.size (.cells #[.int .i64 xf, .int .i64 xs, .int .i64 xu] 138))
            have HM := Lib.hid (may_any ⟨xf, xs, xu⟩ (wr.alloc (.cells #[.int .i64 xf, .int .i64 xs, .int .i64 xu] 138)))
            simp only [stV] at HM
            cases hm : mayB ⟨xf, xs, xu⟩
            · rw [hm] at HM hF
              have HG := Lib.hid (show mayE r l s = 150 by rw [HE.out, if_neg (by rw [← hF]; simp)])
              clear hF HF hm
              go_wp2_with fail
              refine HM.out.mono ?_
              rintro e w4 ⟨rfl, b4⟩
              have B4 := Lib.hid (HBA.out.trans (b4.mono HBA.out.size))
              clear b4
              go_wp2
              go_ret
              exact ⟨ret_int HG.out.symm, B4.out⟩
            · rw [hm] at HM hF
              rw [Bool.true_and] at hF
              have HG := Lib.hid hF
              clear hF HF hm
              go_wp2_with fail
              refine HM.out.mono ?_
              rintro e w4 ⟨rfl, b4⟩
              have B4 := Lib.hid (HBA.out.trans (b4.mono HBA.out.size))
              clear b4
              go_wp2
              go_roundw
              case rel => exact ⟨k + 1, by omega, by go_num, B4, HG⟩
              case measure => simp [intOf]; omega
          · have hlt2 : ¬ k < l.length := by have := HL.out; omega
            have hF := HF.out
            rw [List.drop_eq_nil_of_le (by omega)] at hF
            have HG := Lib.hid (show mayE r l s = 0 by rw [HE.out, if_pos (by rw [← hF]; rfl)])
            clear hF HF
            go_wp2
            go_ret
            exact ⟨ret_int HG.out.symm, HB.out⟩
      · have HG := Lib.hid (show mayE r l s = 150 by unfold mayE; rw [if_neg]; rintro ⟨_, _, h, _⟩; exact hl h)
        have hl' : ¬ (s.length : Int) = (l.length : Int) := by omega
        clear hl hr hc
        go_wp2
        go_ret
        exact ⟨ret_int HG.out.symm, B3.out⟩
    · have HG := Lib.hid (show mayE r l s = 150 by unfold mayE; rw [if_neg]; rintro ⟨_, h, _⟩; rw [h] at hc; cases hc)
      generalize chk l = c at *
      clear hr
      go_wp2_with fail
      refine HC.out.mono ?_
      rintro e w3 ⟨rfl, b3⟩
      have B3 := Lib.hid (B2.out.trans (b3.mono B2.out.size))
      clear b3 HC
      go_wp2
      go_ret
      exact ⟨ret_int HG.out.symm, B3.out⟩
  · have HG := Lib.hid (show mayE r l s = 150 by unfold mayE; rw [if_neg]; rintro ⟨h, _⟩; rw [hr] at h; cases h)
    rw [hr] at HR
    clear hr
    go_enter Tryz.func105, Tryz.ntmps105
    go_wp2_with fail
    refine HR.out.mono ?_
    rintro e w2 ⟨rfl, b2⟩
    have B2 := Lib.hid (B1.out.trans (b2.mono B1.out.size))
    clear b2
    go_wp2
    go_ret
    exact ⟨ret_int HG.out.symm, B2.out⟩
end Go.Proofs.YtagpclgappcnbaaGreat.Be
namespace Go.Proofs.YtagpclgappcnbaaGreat.Be
open Go.RowKit Go.Shelf

/-! ### those that are benched -/
@[reducible] def iL (n : Int) : List Value := [.int .i64 n]
theorem iL_length (n : Int) : (iL n).length = 1 := rfl
theorem iL_one (n : Int) : allOne (iL n).toArray = true := rfl
theorem info3 : (Tryz.prog.info? 3).map (fun i => (i.zero, i.size, i.bytes)) = some (some (.int .i64 0), 1, 8) := by kernel_rfl
def blF (now : Int) : List St → Nat → List Int
  | [], _ => []
  | x :: r, i => if 0 ≤ now ∧ now < x.u then (i : Int) :: blF now r (i + 1) else blF now r (i + 1)
def blL (s : List St) (now : Int) : List Int := blF now s 0
theorem blF_cons (now : Int) (x : St) (r : List St) (i : Nat) : blF now (x :: r) i = if 0 ≤ now ∧ now < x.u then (i : Int) :: blF now r (i + 1) else blF now r (i + 1) := rfl
theorem isB_at (s : List St) (k : Nat) (hk : k < s.length) (now : Int) : isB s (k : Int) now = decide (0 ≤ now ∧ now < s[k].u) := by
  have hg : s.getD k ⟨0, 0, 0⟩ = s[k] := by simp [List.getD, hk]
  unfold isB
  simp only [Int.toNat_natCast, hg]
  simp [hk]
theorem blF_len (now : Int) : ∀ (r : List St) (i : Nat), (blF now r i).length ≤ r.length := by
  intro r
  induction r with
  | nil => intro i; exact Nat.le_refl _
  | cons x r ih => intro i; rw [blF_cons]; have := ih (i + 1); split <;> simp <;> omega
theorem hide_row45 (n : Int) (w : World) : (Instr.buildSlice 177 1 #[(0, .int .i64 n)]).run Tryz.prog w = .ok (.slice (some ⟨w.heap.size, 0, none⟩) 1 1) (w.alloc (.cells #[.int .i64 n] 3)) := by kernel_rfl
theorem push45 {ops : Array Oper} {rest : List Oper} {o : Oper} {a : Act} {w : World} {Q : Exit → Act → World → Prop} (hgd : o.guard = none) (s x : Operand) (ho : o.op = .call { callee := .builtin .append, args := #[s, x], argTypes := #[177, 177] })
    (base : Nat) (v : Value) (xs : List Int) (y : Int) (hs : a.eval s = v) (hown : OwnS w base 3 1 iL v xs) (g : Nat) (hx : a.eval x = .slice (some ⟨g, 0, none⟩) 1 1) (hg : obj w g = some (.cells #[.int .i64 y] 3 (0, 0)))
    (hlen : xs.length ≤ 1048576) (hbase : base ≤ w.heap.size)
    (h : ∀ v' w', OwnS w' base 3 1 iL v' (xs ++ [y]) → Below base w w' → (∀ k, k < w.heap.size → v.ownBlock ≠ some k → obj w' k = obj w k) → wpList Tryz.prog ops Q rest (a.put o.dst v') w') : wpList Tryz.prog ops Q (o :: rest) a w := by
  obtain ⟨i0, hi, hz0, hz1, hz2⟩ := info_parts info3
  exact wpList_push (i := i0) (z := .int .i64 0) (bytes := 8) Tryz.underlying177 hi hz0 hz1 hz2 (by simp [Value.cells]) (by decide) iL iL_length iL_one hgd s x ho base v xs y hs hown g hx hg hlen (by decide) hbase h
/-- a slice in a box behind an append -/
theorem box_push {α : Type} {W W3 : World} {T E k base bx : Nat} {enc : α → List Value} {xs ys : List α} {sv v' : Value} {o : Obj} (hTE : T ≠ E) (h1 : obj W bx = some (.cells #[sv] T (0, 0))) (h2 : OwnS W base E k enc sv xs)
    (h3 : OwnS W3 base E k enc v' ys) (hg : ∀ k, k < (W.alloc o).heap.size → sv.ownBlock ≠ some k → obj W3 k = obj (W.alloc o) k) :
    obj W3 bx = some (.cells #[sv] T (0, 0)) ∧ obj (W3.setCell ⟨bx, 0, none⟩ v') bx = some (.cells #[v'] T (0, 0)) ∧ OwnS (W3.setCell ⟨bx, 0, none⟩ v') base E k enc v' ys := by
  have hlt := lt_of_obj h1
  have hne : sv.ownBlock ≠ some bx := h2.ne h1 (fun cur e => by cases e; exact hTE rfl)
  have o3 : obj W3 bx = some (.cells #[sv] T (0, 0)) := (hg bx (by simp; omega) hne).trans ((obj_alloc_past _ _ _ hlt).trans h1)
  have hne3 : v'.ownBlock ≠ some bx := h3.ne o3 (fun cur e => by cases e; exact hTE rfl)
  exact ⟨o3, obj_setCell_at v' o3, h3.keeps fun g hg' => obj_setCell_ne _ ⟨bx, 0, none⟩ _ _ (fun e => hne3 (by rw [hg', e]))⟩
set_option maxRecDepth 100000 in
set_option maxHeartbeats 1000000 in
theorem all_any (w : World) (v : Value) (s : List St) (now : Int) (h : SlIn w v 3 stL s) (hlen : s.length ≤ 4096) :
    Calls Tryz.prog 132 #[v, .int .i64 now] w fun e w' => ∃ lb sv, e = .returned (.func (.func 137) #[] #[.pointer (some ⟨lb, 0, none⟩)]) ∧ obj w' lb = some (.cells #[sv] 177 (0, 0)) ∧ w.heap.size ≤ lb ∧ OwnS w' w.heap.size 3 1 iL sv (blL s now) ∧ Below w.heap.size w w' := by
  have hmf : ∀ (fn : Fn) (first cap : Array Value) (w : World), (Instr.makeFunc fn first cap).run Tryz.prog w = .ok (.func fn first cap) w := fun _ _ _ _ => rfl
  have hrow := hide_row45
  have b1 : Below w.heap.size w (w.alloc (.cells #[.slice none 0 0] 177)) := (Below.refl _ w).alloc (Nat.le_refl _) _
  have o1 : obj (w.alloc (.cells #[.slice none 0 0] 177)) w.heap.size = some (.cells #[.slice none 0 0] 177 (0, 0)) := obj_alloc_at _ _ _ rfl
  have HS := Lib.hid h
  obtain ⟨oa, cap, rfl, g1, g2, g3⟩ := h
  unfold maxLen at g2
  have HI : Hid (Below w.heap.size w (w.alloc (.cells #[.slice none 0 0] 177)) ∧ obj (w.alloc (.cells #[.slice none 0 0] 177)) w.heap.size = some (.cells #[.slice none 0 0] 177 (0, 0))) := Lib.hid ⟨b1, o1⟩
  clear g3 b1 o1
  go_enter Tryz.func132, Tryz.ntmps132
  go_wp2
  go_loopw [9] (fun v9 wr => ∃ (k : Nat) (sv : Value) (D : List Int), k ≤ s.length ∧ v9 = .int .i64 k ∧ D.length ≤ k ∧ Hid (Below w.heap.size w wr) ∧ Hid (obj wr w.heap.size = some (.cells #[sv] 177 (0, 0))) ∧ Hid (OwnS wr w.heap.size 3 1 iL sv D) ∧ Hid (D ++ blF now (s.drop k) k = blL s now)) (fun i _ => s.length - (intOf i).toNat)
  case atStart => exact ⟨0, _, [], Nat.zero_le _, rfl, Nat.le_refl _, Lib.hid HI.out.1, Lib.hid HI.out.2, Lib.hid (OwnS.nil _ _ _ _ _), Lib.hid rfl⟩
  case round =>
    obtain ⟨k, sv, D, hk, rfl, hD, HB, HX, HO, HF⟩ := hrel
    clear HI
    by_cases hlt : k < s.length
    · have HQ := Lib.hid (is_any wr _ s (k : Int) now (HS.out.below HB.out))
      have hF := HF.out
      rw [List.drop_eq_getElem_cons hlt, blF_cons] at hF
      rw [isB_at s k hlt] at HQ
      generalize s[k] = x at *
      by_cases hc : 0 ≤ now ∧ now < x.u
      · rw [if_pos hc] at hF
        rw [decide_eq_true hc] at HQ
        have HG := Lib.hid hF
        clear hF HF hc
        go_wp2_with fail
        refine HQ.out.mono ?_
        rintro e w2 ⟨rfl, rfl⟩
        have hx := HX.out
        have hlb := lt_of_obj hx
        have c0 : wr.cell? ⟨w.heap.size, 0, none⟩ = some sv := cell_at hx 0
        clear hx
        go_wp2_with (at_builtin; refine push45 rfl _ _ rfl w.heap.size sv D (k : Int) rfl (HO.out.alloc _) wr.heap.size rfl (obj_alloc_at _ _ _ rfl) (by omega) (by have := HB.out.size; simp; omega) ?_; intro v' W3 q1 q2 q3; obtain ⟨oa2, cap2, e2⟩ := q1.slice; rw [List.length_append, List.length_singleton] at e2; subst e2; obtain ⟨r1, r2, r3⟩ := box_push (by decide) HX.out HO.out q1 q3; have hl3 := lt_of_obj r1; have hd1 := cell_at r1 0; have hf1 := frozen_at r1; have R2 := Lib.hid r2; have R3 := Lib.hid r3; have Q2 := Lib.hid ((HB.out.alloc HB.out.size (.cells #[.int .i64 (k : Int)] 3)).trans q2); clear r1 r2 r3 q1 q2 q3)
        go_roundw
        case rel => exact ⟨k + 1, _, D ++ [(k : Int)], by omega, by go_num, by simp; omega, Lib.hid (Q2.out.setCell (Nat.le_refl _) _), R2, R3, Lib.hid (by rw [List.append_assoc]; exact HG.out)⟩
        case measure => simp [intOf]; omega
      · rw [if_neg hc] at hF
        rw [decide_eq_false hc] at HQ
        have HG := Lib.hid hF
        clear hF HF hc
        go_wp2_with fail
        refine HQ.out.mono ?_
        rintro e w2 ⟨rfl, rfl⟩
        go_wp2
        go_roundw
        case rel => exact ⟨k + 1, sv, D, by omega, by go_num, by omega, HB, HX, HO, HG⟩
        case measure => simp [intOf]; omega
    · have hF := HF.out
      rw [List.drop_eq_nil_of_le (by omega)] at hF
      have HG : Hid (D = blL s now) := Lib.hid (by rw [← hF]; simp [blF])
      clear hF HF
      go_wp2
      go_ret
      exact ⟨_, sv, rfl, HX.out, Nat.le_refl _, HG.out ▸ HO.out, HB.out⟩
end Go.Proofs.YtagpclgappcnbaaGreat.Be
namespace Go.Proofs.YtagpclgappcnbaaGreat.Be
open Go.RowKit Go.Shelf
attribute [local go_sem] Oper.semAt_some

theorem eg49 : ∀ args w, (callFunc 137 args).run Tryz.prog w = .ok (.enter 137 args) w := enters_of Tryz.func137 (by kernel_rfl) rfl
set_option maxRecDepth 100000 in
set_option maxHeartbeats 2000000 in
/-- All's iterator: the slice's box lies at Bs -/
theorem values_seq (n : Nat) (hn : 1 ≤ n) {D : Nat → Prop} {w0 : World} (hD : ∀ k, D k → k < w0.heap.size) {Bs : Nat} {v : Value} {xs : List Int} (hV : ValAt 177 1 iL D w0 Bs v xs) : SeqG Fence.wide n Tryz.prog 137 #[.pointer (some ⟨Bs, 0, none⟩)] (fun x : Int => #[.int .i64 x]) xs D w0 := by
  intro l J Jx W G0 hb hJo hJ hJx hY h0
  refine callsIn_of_wp Tryz.func137 rfl trivial ?_ rfl
  simp only [Tryz.ntmps137, List.size_toArray, List.length_cons, List.length_nil, Nat.reduceAdd, Nat.reduceSub, Array.replicate_succ, Array.replicate_zero, List.push_toArray, List.append_toArray, List.nil_append, List.cons_append]
  have hVW := hV.agree hb
  have c0 : W.cell? ⟨Bs, 0, none⟩ = some v := cell_at hVW.box 0
  obtain ⟨oa, cap, rfl, q1, q2, q3⟩ := hVW.sl
  unfold maxLen at q2
  have hG0 := Lib.hid (hJo _ _ _ h0)
  have HJO := Lib.hid hJo
  have HJ := Lib.hid hJ
  have HY := Lib.hid hY
  have HV := Lib.hid hV
  have HB := Lib.hid hb
  have H0 := Lib.hid h0
  clear q3 hVW hV hJo hJ hJx hY h0 hb
  gi_wp2
  gi_loopw [7] (fun v7 wr => ∃ k : Nat, k ≤ xs.length ∧ v7 = .int .i64 k ∧ Hid (∃ G, J (xs.take k) G wr ∧ Keeps G0 W wr ∧ GrowsG W G0 G)) (fun i _ => xs.length - (intOf i).toNat)
  case atStart => exact ⟨0, Nat.zero_le _, rfl, Lib.hid ⟨G0, H0.out, Keeps.refl _ _, GrowsG.refl _ _⟩⟩
  case round =>
    obtain ⟨k, hk, rfl, HK⟩ := hrel
    obtain ⟨G, hJk, hkp, hgr⟩ := HK.out
    have hbr := HB.out.keeps hD (fun k hk => (hG0.out k hk).1) hkp
    have hVr := HV.out.agree hbr
    by_cases hlt : k < xs.length
    · obtain ⟨oa', cap', e', _, _, q3'⟩ := hVr.sl
      simp only [Value.slice.injEq] at e'
      obtain ⟨rfl, _, rfl⟩ := e'
      obtain ⟨b, off, hoa, hbb, hrow⟩ := q3' (by omega)
      subst hoa
      have hs1 := hrow k hlt
      have HTS := Lib.hid (take_snocA hlt)
      have HPX : Hid (xs.take k ++ [xs[k]] <+: xs) := Lib.hid (by rw [← take_snocA hlt]; exact List.take_prefix _ _)
      generalize xs[k] = x at *
      have cx : wr.cell? ⟨b, off + k, none⟩ = some (.int .i64 x) := by have := subOf_cell hs1 (j := 0) (by decide); simpa using this
      have hJa := HJ.out _ _ _ _ hJk (Keeps.refl _ _)
      obtain ⟨fn, tmps, assign, body, hy, hR⟩ := HY.out _ G x _ hJa HPX.out
      have HRR := Lib.hid hR
      have HKP := Lib.hid hkp
      have HGR := Lib.hid hgr
      have hzw : W.heap.size ≤ wr.heap.size := hkp.size
      have HJO2 := Lib.hid (HJO.out _ _ _ hJk)
      clear hrow hJk hkp hgr hbr hVr q3' hJa hR hs1
      gi_wp2
      refine HRR.out.mono ?_
      rintro e W3 ⟨G', t, rfl, hW3, hk3, hg3⟩
      have HG3 := Lib.hid hg3
      have HK3 := Lib.hid hk3
      have H3 := Lib.hid hW3
      clear hg3 hk3 hW3 HRR hy
      have fin : Hid (Keeps G0 W W3 ∧ GrowsG W G0 G') := Lib.hid (by
        have hs3 := HK3.out.size
        have hk0 := HKP.out
        have hk3 := HK3.out
        refine ⟨?_, fun k hk => ?_⟩
        · refine ⟨hk3.os.trans hk0.os, hk3.tape.trans hk0.tape, hk3.output.trans hk0.output, Nat.le_trans hk0.size (by omega), fun j hj hg => ?_⟩
          refine (hk3.block j (by omega) (fun h => ?_)).trans (hk0.block j hj hg)
          rcases HGR.out j h with h | h
          · exact hg h
          · omega
        · rcases HG3.out k hk with h | h
          · exact HGR.out k h
          · exact .inr (by omega))
      cases t
      · gi_wp2
        go_end0
        refine ⟨⟨_, rfl⟩, G', .inr ⟨_, HPX.out, ?_⟩, fin.out.1, fin.out.2⟩
        rcases H3.out with ⟨h, _⟩ | ⟨_, h⟩
        · cases h
        · exact h
      · have HJ3 : Hid (J (xs.take (k + 1)) G' W3) := Lib.hid (by
          rw [HTS.out]
          rcases H3.out with ⟨_, h⟩ | ⟨h, _⟩
          · exact h
          · cases h)
        gi_wp2
        go_roundw
        case rel => exact ⟨k + 1, by omega, by go_num, Lib.hid ⟨G', HJ3.out, fin.out.1, fin.out.2⟩⟩
        case measure => simp [intOf]; omega
    · have hk' : k = xs.length := by omega
      rw [hk', List.take_length] at hJk
      have HJ4 := Lib.hid hJk
      have HKP := Lib.hid hkp
      have HGR := Lib.hid hgr
      clear hJk hkp hgr hbr hVr
      gi_wp2
      go_end0
      exact ⟨⟨_, rfl⟩, G, .inl HJ4.out, HKP.out, HGR.out⟩
end Go.Proofs.YtagpclgappcnbaaGreat.Be
namespace Go.Proofs.YtagpclgappcnbaaGreat.Be

/-! ### the weight of some (plain) -/
def wtA (l : List Vd) (v : Int) : Int := (l.getD v.toNat ⟨ByteArray.empty, 0⟩).wt
def stkF (l : List Vd) : List Int → Int
  | [] => 0
  | v :: r => wtA l v + stkF l r
def stkI (l : List Vd) (s : List St) (now : Int) : Int := if chk l = 0 ∧ s.length = l.length then stkF l (blL s now) else 0
theorem stkF_app (l : List Vd) : ∀ a b, stkF l (a ++ b) = stkF l a + stkF l b := by
  intro a
  induction a with
  | nil => intro b; simp [stkF]
  | cons x a ih => intro b; simp only [List.cons_append, stkF, ih]; omega
theorem wtA_pos {l : List Vd} (h : ∀ x ∈ l, 1 ≤ x.wt) (v : Int) : 0 ≤ wtA l v := by
  unfold wtA
  by_cases hk : v.toNat < l.length
  · have : l.getD v.toNat ⟨ByteArray.empty, 0⟩ = l[v.toNat] := by simp [List.getD, hk]
    rw [this]; have := h _ (List.getElem_mem hk); omega
  · have : l.getD v.toNat ⟨ByteArray.empty, 0⟩ = ⟨ByteArray.empty, 0⟩ := by simp [List.getD, hk]
    rw [this]; exact Int.le_refl _
theorem stkF_pos {l : List Vd} (h : ∀ x ∈ l, 1 ≤ x.wt) : ∀ a, 0 ≤ stkF l a := by
  intro a
  induction a with
  | nil => exact Int.le_refl _
  | cons x a ih => have := wtA_pos h x; simp only [stkF]; omega
theorem stkF_pre {l : List Vd} (h : ∀ x ∈ l, 1 ≤ x.wt) {a b : List Int} (hp : a <+: b) : stkF l a ≤ stkF l b := by
  obtain ⟨c, rfl⟩ := hp
  have := stkF_pos h c
  rw [stkF_app]; omega
theorem blF_mem (now : Int) : ∀ (r : List St) (i : Nat) (x : Int), x ∈ blF now r i → ∃ k : Nat, x = k ∧ i ≤ k ∧ k < i + r.length := by
  intro r
  induction r with
  | nil => intro i x h; simp [blF] at h
  | cons y r ih =>
    intro i x h
    rw [blF_cons] at h
    have rest : x ∈ blF now r (i + 1) → ∃ k : Nat, x = k ∧ i ≤ k ∧ k < i + (y :: r).length := fun h => by
      obtain ⟨k, e, h1, h2⟩ := ih _ _ h
      exact ⟨k, e, by omega, by simp; omega⟩
    split at h
    · rcases List.mem_cons.1 h with rfl | h
      · exact ⟨i, rfl, Nat.le_refl _, by simp⟩
      · exact rest h
    · exact rest h
theorem stkF_blF {l : List Vd} (now : Int) (h : ∀ x ∈ l, 1 ≤ x.wt) : ∀ (r : List St) (i : Nat), i + r.length = l.length → stkF l (blF now r i) ≤ sumW (l.drop i) := by
  intro r
  induction r with
  | nil => intro i hi; simp only [blF, stkF]; exact sumW_drop l i h
  | cons y r ih =>
    intro i hi
    have hlt : i < l.length := by simp at hi; omega
    have h1 := ih (i + 1) (by simp at hi; omega)
    have hg : wtA l (i : Int) = l[i].wt := by unfold wtA; simp [List.getD, hlt]
    have hw := h _ (List.getElem_mem hlt)
    rw [blF_cons, List.drop_eq_getElem_cons hlt]
    split
    · simp only [stkF, sumW]; omega
    · simp only [sumW]; omega
theorem stkF_le {l : List Vd} {s : List St} {now : Int} (h : ∀ x ∈ l, 1 ≤ x.wt) (hl : s.length = l.length) {a : List Int} (hp : a <+: blL s now) : stkF l a ≤ sumW l := by
  have h1 := stkF_pre h hp
  have h2 := stkF_blF now h s 0 (by simpa using hl)
  rw [List.drop_zero] at h2
  exact Int.le_trans h1 h2
end Go.Proofs.YtagpclgappcnbaaGreat.Be
namespace Go.Proofs.YtagpclgappcnbaaGreat.Be
open Go.RowKit Go.Shelf
attribute [local go_sem] Oper.semAt_some

theorem valAt_of {w : World} {base lb : Nat} {sv : Value} {xs : List Int} (h1 : obj w lb = some (.cells #[sv] 177 (0, 0))) (h2 : base ≤ lb) (h3 : OwnS w base 3 1 iL sv xs) : ValAt 177 1 iL (fun k => base ≤ k ∧ k < w.heap.size) w lb sv xs := by
  refine ⟨h1, h3.slIn iL_length, ⟨h2, lt_of_obj h1⟩, fun a l c e => ?_⟩
  rcases h3.1.2 with ⟨e', _⟩ | ⟨g, cap, cur, e', hb, hg, _⟩
  · rw [e] at e'; cases e'
  · rw [e] at e'; cases e'; exact ⟨hb, lt_of_obj hg⟩
def stkFrame (v1 v2 : Value) (now : Int) (bx nb n : Nat) (x : Int) (sq : Value) : Act :=
  { tmps := #[v1, v2, .int .i64 now, .pointer (some ⟨bx, 0, none⟩), undef, undef, .int .i64 0, .pointer (some ⟨nb, 0, none⟩), .int .i64 x, v1, .int .i64 0, .bool false, .bool false, v2, .int .i64 n, v1, .int .i64 n, .bool false, .bool false, v2, .int .i64 now, sq, .int .i64 x, undef, undef, undef, undef, undef, undef, undef, undef], defers := [] }
set_option maxRecDepth 100000 in
set_option maxHeartbeats 2000000 in
theorem stake_any (w : World) (v1 v2 : Value) (l : List Vd) (s : List St) (now : Int) (h : SlIn w v1 2 vdL l) (h2 : SlIn w v2 3 stL s) (hlen : s.length ≤ 4096) :
    Calls Tryz.prog 109 #[v1, v2, .int .i64 now] w fun e w' => e = .returned (.int .i64 (stkI l s now)) ∧ Below w.heap.size w w' := by
  have HS := Lib.hid h
  have HS2 := Lib.hid h2
  obtain ⟨oa, cap, rfl, g1, g2, g3⟩ := h
  unfold maxLen at g2
  have b1 : Below w.heap.size w (w.alloc (.cells #[.slice oa l.length cap] 28)) := (Below.refl _ w).alloc (Nat.le_refl _) _
  have o1 : obj (w.alloc (.cells #[.slice oa l.length cap] 28)) w.heap.size = some (.cells #[.slice oa l.length cap] 28 (0, 0)) := obj_alloc_at _ _ _ rfl
  have HK := Lib.hid (checkA _ _ l (HS.out.below b1))
  obtain ⟨oa2, cap2, rfl, k1, k2, k3⟩ := h2
  unfold maxLen at k2
  have H3 := Lib.hid g3
  clear g3 k3
  refine (callsIn_wide (n := 5)).1 ?_
  refine callsIn_of_wp_marks Tryz.func109 rfl trivial ?_ rfl
  simp only [Tryz.ntmps109, List.size_toArray, List.length_cons, List.length_nil, Nat.reduceAdd, Nat.reduceSub, Array.replicate_succ, Array.replicate_zero, List.push_toArray, List.append_toArray, List.nil_append, List.cons_append]
  gi_wp2
  refine ⟨trivial, (callsIn_wide.2 HK.out).mono ?_⟩
  generalize w.alloc (.cells #[.slice oa l.length cap] 28) = w1 at *
  rintro e w2 ⟨rfl, b2⟩
  have o2 := (obj_below b2 (lt_of_obj o1)).trans o1
  have B2 := Lib.hid (b1.trans (b2.mono b1.size))
  have z2 := lt_of_obj o2
  clear b2 o1 b1 HK
  rcases chk_cases l with hc | hc
  · by_cases hl : s.length = l.length
    · have HV := Lib.hid (show stkI l s now = stkF l (blL s now) from if_pos ⟨hc, hl⟩)
      obtain ⟨_, hl32, _, hw⟩ := chk_32 hc
      obtain ⟨s0, s1, s2⟩ := wtsF_sum _ _ hw (by decide)
      have HP := Lib.hid s2
      have HT := Lib.hid s1
      have HL := Lib.hid hl
      rw [hc]
      have cl : w2.cell? ⟨w.heap.size, 0, none⟩ = some (.slice oa l.length cap) := cell_at o2 0
      have hl' : (s.length : Int) = (l.length : Int) := by omega
      have o3 : obj (w2.alloc (.cells #[.int .i64 0] 2)) w.heap.size = some (.cells #[.slice oa l.length cap] 28 (0, 0)) := (obj_alloc_past _ _ _ z2).trans o2
      have n3 : obj (w2.alloc (.cells #[.int .i64 0] 2)) w2.heap.size = some (.cells #[.int .i64 0] 2 (0, 0)) := obj_alloc_at _ _ _ rfl
      have B3 := Lib.hid (B2.out.alloc B2.out.size (.cells #[.int .i64 0] 2))
      have HA := Lib.hid (all_any _ _ s now (HS2.out.below B3.out) hlen)
      clear hc hl hw s0 s1 s2
      gi_wp2
      refine ⟨trivial, (callsIn_wide.2 HA.out).mono ?_⟩
      generalize w2.heap.size = nb at *
      generalize w2.alloc (.cells #[.int .i64 0] 2) = w3 at *
      rintro e w4 ⟨lb, sv, rfl, q1, q2, q3, q4⟩
      have hV := valAt_of q1 q2 q3
      have HQ := Lib.hid (values_seq 4 (by decide) (fun k hk => hk.2) hV)
      have o4 := (obj_below q4 (lt_of_obj o3)).trans o3
      have n4 := (obj_below q4 (lt_of_obj n3)).trans n3
      have B4 := Lib.hid (B3.out.trans (q4.mono B3.out.size))
      have hz3 := lt_of_obj o3
      have hz3n := lt_of_obj n3
      have hz4 := q4.size
      clear hV q1 q2 q3 q4 HA
      gi_wp2
      refine wpIn_range_own rfl (by decide) (gf := 137) (lb := #[.pointer (some ⟨lb, 0, none⟩)]) rfl trivial eg49 (fun k hk => hk.2) HQ.out (Agree.refl _ _) (fun _ => rfl)
        (fun pre G W => (G = fun k => k = nb) ∧ obj W w.heap.size = some (.cells #[.slice oa l.length cap] 28 (0, 0)) ∧ obj W nb = some (.cells #[.int .i64 (stkF l pre)] 2 (0, 0)) ∧ Below w.heap.size w W)
        (fun c pre G W => False) ?hIo ?hI ?hIx (fun k => k = nb) ⟨rfl, o4, n4, B4.out⟩
        (fun x a' W => a' = stkFrame (.slice oa l.length cap) (.slice oa2 s.length cap2) now w.heap.size nb l.length x (.func (.func 137) #[] #[.pointer (some ⟨lb, 0, none⟩)]))
        ?hAx ?assign ?body ?done ?stop
      case hIo =>
        rintro pre G W ⟨rfl, _, h, _⟩ k rfl
        exact ⟨fun hd => by omega, lt_of_obj h⟩
      case hI =>
        rintro pre G W W' ⟨rfl, h1, h2, h3⟩ hk
        have hz := B4.out.size
        exact ⟨rfl, (hk.block _ (lt_of_obj h1) (fun hh => by omega)).trans h1, (hk.block _ (lt_of_obj h2) (fun hh => hh.2 rfl)).trans h2, h3.trans (hk.below (fun k hh => by omega) h3.size)⟩
      case hIx =>
        rintro c pre G W W' h _
        exact h
      case hAx =>
        rintro x a' W r o o' h _ _
        exact h
      case assign =>
        rintro l' pre G x W' K _ hK
        have HK := Lib.hid hK
        clear hK
        gi_wp2
        exact HK.out _ _ (Below.refl _ _) rfl
      case body =>
        rintro l' pre G x a' W hl hlw hnl ⟨rfl, i1, i2, i3⟩ rfl hpre
        obtain ⟨k, rfl, _, hk⟩ := blF_mem now s 0 x (hpre.subset (by simp))
        have hk2 : k < l.length := by have := HL.out; omega
        obtain ⟨b, off, hoa, hbb, hrow⟩ := H3.out (by omega)
        subst hoa
        have hs1 := hrow k hk2
        rw [← obj_below i3 hbb] at hs1
        have hw0 : wtA l (k : Int) = l[k].wt := by unfold wtA; simp [List.getD, hk2]
        have hle := stkF_le HP.out HL.out hpre
        have hp0 := stkF_pos HP.out pre
        have hp1 := HP.out _ (List.getElem_mem hk2)
        have ht := HT.out
        rw [stkF_app] at hle
        have hone : stkF l [(k : Int)] = l[k].wt := by simp [stkF, hw0]
        rw [hone] at hle
        have hfin : stkF l (pre ++ [(k : Int)]) = stkF l pre + l[k].wt := by rw [stkF_app, hone]
        generalize l[k] = y at *
        obtain ⟨yn, yw⟩ := y
        simp only at hp1 hle hfin hone
        have c1 : W.cell? ⟨b, off + k * 2 + 1, none⟩ = some (.int .i64 yw) := by have := subOf_cell hs1 (j := 1) (by decide); simpa using this
        have cn : W.cell? ⟨nb, 0, none⟩ = some (.int .i64 (stkF l pre)) := cell_at i2 0
        have cx : W.cell? ⟨w.heap.size, 0, none⟩ = some (.slice (some ⟨b, off, none⟩) l.length cap) := cell_at i1 0
        have fn : ∀ i, W.frozen? ⟨nb, i, none⟩ = false := frozen_at i2
        have HF : Hid (stkF l (pre ++ [(k : Int)]) = stkF l pre + yw) := Lib.hid hfin
        have I1 := Lib.hid i1
        have I2 := Lib.hid i2
        have I3 := Lib.hid i3
        have hnb := lt_of_obj i2
        generalize hn : stkF l pre = n at *
        have mixed : Tryz.prog.follows .mixedOrders = true := by kernel_rfl
        have hny : n + yw ≤ 4611686018427387903 := by omega
        have hwr : IntKind.i64.wrap (n + yw) = n + yw := by simp [IntKind.wrap, IntKind.signed, IntKind.bits]; omega
        have fin : Hid (bodyG (fun pre G W => (G = fun k => k = nb) ∧ obj W w.heap.size = some (.cells #[.slice (some ⟨b, off, none⟩) l.length cap] 28 (0, 0)) ∧ obj W nb = some (.cells #[.int .i64 (stkF l pre)] 2 (0, 0)) ∧ Below w.heap.size w W) (fun c pre G W => False) (pre ++ [(k : Int)]) (fun k => k = nb) W .normal { tmps := #[], defers := [] } (W.setCell ⟨nb, 0, none⟩ (.int .i64 (n + yw))).drew) := Lib.hid (by
          refine ⟨fun k => k = nb, ⟨rfl, ?_, ?_, ?_⟩, ?_, GrowsG.refl _ _⟩
          · rw [obj_drew]; exact (obj_setCell_ne _ ⟨nb, 0, none⟩ _ _ (Nat.ne_of_lt z2)).trans I1.out
          · rw [obj_drew, HF.out]; exact obj_setCell_at _ I2.out
          · exact (I3.out.setCell (Nat.le_of_lt z2) _).drew
          · exact ((Keeps.refl (fun k => k = nb) W).setCell (a := ⟨nb, 0, none⟩) (.inl rfl) _).drew)
        clear hn hfin hone hw0 hrow hs1 i1 i2 i3 hle HS ht
        simp only [stkFrame]
        gi_wp2
        gi_region
        all_goals exact fin.out
      case done =>
        rintro d G W hD _ ⟨rfl, i1, i2, i3⟩ hk _ hKD
        have hb := lt_of_obj i2
        have cb : W.cell? ⟨nb, 0, none⟩ = some (.int .i64 (stkF l (blL s now))) := cell_at i2 0
        have HK := Lib.hid hk
        have hz := B4.out.size
        clear hk
        gi_wp2
        refine ⟨by simp, .inl ⟨_, _, rfl, run_takeDeferred hKD, ?_⟩⟩
        have hgr := grownBy_putObj' W d (.deferred none)
        have hrr : ∀ r, some d = some r → w.heap.size ≤ r ∧ ∃ o : Obj, W.heap[r]? = some o ∧ o.isCells = false := fun r e => by cases e; exact ⟨by omega, _, hKD, rfl⟩
        exact ⟨_, results_tmp rfl _ _ _, by rw [HV.out]; rfl, below_grown i3 (Nat.le_refl _) (Nat.le_refl _) hgr hrr⟩
      case stop =>
        rintro d c pre G W _ _ _ h
        exact h.elim
    · have HV := Lib.hid (show stkI l s now = 0 from if_neg (fun h => hl h.2))
      rw [hc]
      have cl : w2.cell? ⟨w.heap.size, 0, none⟩ = some (.slice oa l.length cap) := cell_at o2 0
      have hl' : ¬ (s.length : Int) = (l.length : Int) := by omega
      clear hc hl
      gi_wp2
      exact ⟨_, results_tmp rfl _ _ _, by rw [HV.out]; rfl, B2.out⟩
  · have HV := Lib.hid (show stkI l s now = 0 from if_neg (fun h => by rw [h.1] at hc; cases hc))
    have cl : w2.cell? ⟨w.heap.size, 0, none⟩ = some (.slice oa l.length cap) := cell_at o2 0
    generalize chk l = c at *
    gi_wp2
    exact ⟨_, results_tmp rfl _ _ _, by rw [HV.out]; rfl, B2.out⟩
end Go.Proofs.YtagpclgappcnbaaGreat.Be
