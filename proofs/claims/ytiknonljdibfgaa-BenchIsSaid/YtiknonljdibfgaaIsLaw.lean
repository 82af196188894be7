import Derived.Test.YtiknonljdibfgaaMayR
import Derived.Test.YtiknonljdibfgaaRefN
import Derived.Test.YtiknonljdibfgaaWhileLaw
import Derived.Deep.RegionHeld3
namespace Go.Proofs.Ytiknonljdibfgaa
open Go.RowKit Go.Shelf

theorem yieldsIf_move' {P : Program} {ops : Array Oper} {S : World → Prop} {op : Oper} {a : Act} {v : Value} (hw : Region.wanted op (yielded ops a.tmps) = true) (x : Operand) (ho : op.op = .move x) (hv : a.eval x = v) : YieldsIf P ops S op v a :=
  hv ▸ yieldsIf_move hw x ho
theorem all_told (w : World) (v : Value) (s : List St) (now : Int) (h : SlIn w v 3 stL s) (hlen : s.length ≤ 4096) :
    Calls Try.prog 31 #[v, .int .i64 now] w fun e w' => ∃ lb, e = .returned (.func (.func 49) #[] #[.pointer (some ⟨lb, 0, none⟩)]) ∧ (∀ most, Calls Try.prog 30 #[.func (.func 49) #[] #[.pointer (some ⟨lb, 0, none⟩)], .int .i64 most] w' (RetOwn w' 3 1 iL ((blL s now).take most.toNat))) ∧ Below w.heap.size w w' := by
  refine (all_any w v s now h hlen).mono ?_
  rintro e w1 ⟨lb, sv, rfl, q1, q2, q3, q4⟩
  refine ⟨lb, rfl, fun most => ?_, q4⟩
  exact told_any w1 w1 49 #[.pointer (some ⟨lb, 0, none⟩)] (blL s now) (fun k hk => hk.2) eg49 (values_seq 4 (by decide) (fun k hk => hk.2) (valAt_of q1 q2 q3)) (Agree.refl _ _) (by have : (blL s now).length ≤ s.length := blF_len now s 0; omega) most
def nwS (n : Int) : List St := if 1 ≤ n ∧ n ≤ 32 then List.replicate n.toNat ⟨0, 0, 0⟩ else []
def nwE (n : Int) : Int := if 1 ≤ n ∧ n ≤ 32 then 0 else 1
theorem newA_all (n : Int) (w : World) : Calls Try.prog 12 #[.int .i64 n] w fun e w' => ∃ v, e = .returned (.tuple #[v, .int .i64 (nwE n)]) ∧ OwnS w' w.heap.size 50 3 stL v (nwS n) ∧ Below w.heap.size w w' := by
  unfold nwE nwS
  by_cases h : 1 ≤ n ∧ n ≤ 32
  · rw [if_pos h, if_pos h]
    obtain ⟨k, rfl⟩ := Int.eq_ofNat_of_zero_le (show 0 ≤ n by omega)
    exact makeSeats k (by omega) (by omega) w
  · rw [if_neg h, if_neg h]
    exact (newA_bad n (by omega) w).mono fun e w' hh => ⟨_, hh.1, OwnS.nil _ _ _ _ _, by rw [← hh.2]; exact Below.refl _ _⟩
theorem newR_all (n : Int) (w : World) : Calls Try.prog 19 #[.int .i64 n] w fun e w' => ∃ v, e = .returned (.tuple #[v, .int .i64 (nwE n)]) ∧ OwnS w' w.heap.size 50 3 stL v (nwS n) ∧ Below w.heap.size w w' := by
  unfold nwE nwS
  by_cases h : 1 ≤ n ∧ n ≤ 32
  · rw [if_pos h, if_pos h]
    obtain ⟨k, rfl⟩ := Int.eq_ofNat_of_zero_le (show 0 ≤ n by omega)
    exact makeSeatsR k (by omega) (by omega) w
  · rw [if_neg h, if_neg h]
    exact (newR_bad n (by omega) w).mono fun e w' hh => ⟨_, hh.1, OwnS.nil _ _ _ _ _, by rw [← hh.2]; exact Below.refl _ _⟩
set_option maxRecDepth 100000 in
set_option maxHeartbeats 8000000 in
theorem isLaw_any (w : World) (r : Rul) (v1 v2 : Value) (l : List Vd) (s : List St) (i now : Int) (h : SlIn w v1 2 vdL l) (h2 : SlIn w v2 3 stL s) :
    Calls Try.prog 5 #[ruV r, v1, v2, .int .i64 i, .int .i64 now] w fun e w' => e = .returned (.bool true) ∧ Below w.heap.size w w' := by
  have HS := Lib.hid h
  have HS2 := Lib.hid h2
  have b1 : Below w.heap.size w (w.alloc (.cells (ruC r) 23)) := (Below.refl _ _).alloc (Nat.le_refl _) _
  have o1 : obj (w.alloc (.cells (ruC r) 23)) w.heap.size = some (.cells (ruC r) 23 (0, 0)) := obj_alloc_at _ _ _ rfl
  obtain ⟨oa, cap, rfl, g1, g2, g3⟩ := h
  unfold maxLen at g2
  obtain ⟨oa2, cap2, rfl, k1, k2, k3⟩ := h2
  unfold maxLen at k2
  have HL := Lib.hid (live_any (w.alloc (.cells (ruC r) 23)))
  have HLL := Lib.hid live_any
  have B1 := Lib.hid b1
  have O1 := Lib.hid o1
  have HF := Lib.hid (fun W (hb : Below w.heap.size w W) => few_any W _ l oa2 s.length cap2 (HS.out.below hb))
  clear g3 k3 b1 o1
  simp only [ruV, ruC] at *
  go_enter Try.func5, Try.ntmps5
  go_wp2_with fail
  generalize w.alloc (.cells #[.int .i64 r.f, .int .i64 r.lo, .int .i64 r.fo, .int .i64 r.nu, .int .i64 r.de] 23) = w1 at *
  refine HL.out.mono ?_
  rintro e w2 ⟨rfl, b2⟩
  have B2 := Lib.hid (B1.out.trans (b2.mono B1.out.size))
  have O2 := Lib.hid ((obj_below b2 (lt_of_obj O1.out)).trans O1.out)
  clear b2 B1 O1
  go_wp2_with fail
  refine (HF.out w2 B2.out).mono ?_
  rintro e w3 ⟨rfl, b3⟩
  have B3 := Lib.hid (B2.out.trans (b3.mono B2.out.size))
  have O3 := Lib.hid ((obj_below b3 (lt_of_obj O2.out)).trans O2.out)
  clear b3 B2 O2 HF HL
  cases hfw : fewB l s.length with
  | false =>
    clear hfw
    go_wp2_with fail
    refine (HLL.out w3).mono ?_
    rintro e w4 ⟨rfl, b4⟩
    go_wp2
    go_ret
    exact ⟨rfl, B3.out.trans (b4.mono B3.out.size)⟩
  | true =>
    obtain ⟨hN, hl50, hs50⟩ := fewB_t hfw
    have HNN := Lib.hid hN
    have HS50 : Hid (s.length ≤ 4096) := Lib.hid (by omega)
    have HA := Lib.hid (newA_all i w3)
    have HB := Lib.hid (newR_all i)
    have HC := Lib.hid (fun W (hb : Below w.heap.size w W) => allR_any W _ s now (HS2.out.below hb) HS50.out)
    clear hfw hl50 hs50 hN
    go_wp2_with fail
    refine HA.out.mono ?_
    rintro e w4 ⟨va, rfl, q4, b4⟩
    have B4 := Lib.hid (B3.out.trans (b4.mono B3.out.size))
    have O4 := Lib.hid ((obj_below b4 (lt_of_obj O3.out)).trans O3.out)
    have Q4 := Lib.hid (q4.slIn stL_length)
    clear b4 B3 O3 HA q4
    go_wp2_with fail
    refine (HB.out w4).mono ?_
    rintro e w5 ⟨vb, rfl, q5, b5⟩
    have B5 := Lib.hid (B4.out.trans (b5.mono B4.out.size))
    have O5 := Lib.hid ((obj_below b5 (lt_of_obj O4.out)).trans O4.out)
    have Q4 := Lib.hid (Q4.out.below b5)
    have Q5 := Lib.hid (q5.slIn stL_length)
    clear b5 B4 O4 HB q5
    go_wp2_with fail
    refine (HC.out w5 B5.out).mono ?_
    rintro e w6 ⟨vc, rfl, q6, b6⟩
    have B6 := Lib.hid (B5.out.trans (b6.mono B5.out.size))
    have O6 := Lib.hid ((obj_below b6 (lt_of_obj O5.out)).trans O5.out)
    have Q4 := Lib.hid (Q4.out.below b6)
    have Q5 := Lib.hid (Q5.out.below b6)
    have Q6 := Lib.hid (q6.slIn iL_length)
    obtain ⟨oac, cpc, rfl⟩ := q6.slice
    clear b6 B5 O5 HC q6
    go_wp2
    have y5 : ∀ W, Below w6.heap.size w6 W → (loadAgg 23 ⟨w.heap.size, 0, none⟩).run Try.prog W = .ok (.agg #[.int .i64 r.f, .int .i64 r.lo, .int .i64 r.fo, .int .i64 r.nu, .int .i64 r.de]) W := fun W hW => by
      rw [run_loadAgg Try.isAgg23 Try.sizeOf23, (obj_below hW (lt_of_obj O6.out)).trans O6.out, subOf_cells (by simp), subA_all (by simp)]
      rfl
    have hX : ∀ {W : World}, Below w6.heap.size w6 W → Below w.heap.size w W := fun hW => B6.out.trans (hW.mono B6.out.size)
    have C11 := Lib.hid (fun W (_ : Below w6.heap.size w6 W) => rule_any r W)
    have C21 := Lib.hid (fun W (_ : Below w6.heap.size w6 W) => ruleR_any r W)
    have C22 := Lib.hid (fun W (hW : Below w6.heap.size w6 W) => mayL_any W r _ _ l s (HS.out.below (hX hW)) (HS2.out.below (hX hW)))
    have C23 := Lib.hid (fun W (hW : Below w6.heap.size w6 W) => mayR_any W r _ _ l s (HS.out.below (hX hW)) (HS2.out.below (hX hW)) HNN.out)
    have C24 := Lib.hid (fun W (hW : Below w6.heap.size w6 W) => equalS W va vb _ _ (Q4.out.below hW) (Q5.out.below hW))
    have C15 := Lib.hid (fun W (hW : Below w6.heap.size w6 W) => (show Calls Try.prog 15 #[.slice oa2 s.length cap2, .int .i64 i, .int .i64 now] W (fun e w' => e = .returned (.bool (isB s i now)) ∧ Below W.heap.size W w') from (is_any W _ s i now (HS2.out.below (hX hW))).mono fun _ w' hh => ⟨hh.1, by rw [← hh.2]; exact Below.refl _ _⟩))
    have C25 := Lib.hid (fun W (hW : Below w6.heap.size w6 W) => (show Calls Try.prog 25 #[.slice oa2 s.length cap2, .int .i64 i, .int .i64 now] W (fun e w' => e = .returned (.bool (isB s i now)) ∧ Below W.heap.size W w') from (isR_any W _ s i now (HS2.out.below (hX hW))).mono fun _ w' hh => ⟨hh.1, by rw [← hh.2]; exact Below.refl _ _⟩))
    have C17 := Lib.hid (fun W (hW : Below w6.heap.size w6 W) => stake_any W _ _ l s now (HS.out.below (hX hW)) (HS2.out.below (hX hW)) HS50.out)
    have C26 := Lib.hid (fun W (hW : Below w6.heap.size w6 W) => stakeR_any W _ _ l s now (HS.out.below (hX hW)) (HS2.out.below (hX hW)) HNN.out)
    have C27 := Lib.hid (fun W (hW : Below w6.heap.size w6 W) => next_any W _ s now (HS2.out.below (hX hW)) HS50.out)
    have C28 := Lib.hid (fun W (hW : Below w6.heap.size w6 W) => nextR_any W _ s now (HS2.out.below (hX hW)))
    have C31 := Lib.hid (fun W (hW : Below w6.heap.size w6 W) => all_told W _ s now (HS2.out.below (hX hW)) HS50.out)
    have C29 := Lib.hid (fun W v1 v2 (xs ys : List Int) => fun h1 h2 => equalI W v1 v2 xs ys h1 h2)
    have HT1 := Lib.hid (bl_take (s := s) now HS50.out)
    rw [decide_eq_true rfl] at C24
    simp only [ruV] at C11 C21 C22 C23
    generalize ruleE r = re at *
    generalize mayE r l s = me at *
    generalize nwE i = ne at *
    generalize isB s i now = ib at *
    generalize stkI l s now = st at *
    generalize nxF s (blL s now) = nx at *
    generalize blL s now = lo at *
    obtain ⟨m, hm⟩ : ∃ m : Nat, m = min 1 lo.length := ⟨_, rfl⟩
    have hmi : (if (lo.length : Int) < 1 then (lo.length : Int) else 1) = (m : Int) := by split <;> omega
    have HT2 : Hid (lo.take (1 : Int).toNat = lo.take m) := Lib.hid (by rw [hm]; exact List.take_eq_take_min)
    have Q7 := Lib.hid (Q6.out.take (n := m) (by omega))
    have hmc : m ≤ cpc ∧ cpc ≤ 9223372036854775807 := by
      obtain ⟨_, _, e, h1, h2, _⟩ := Q6.out
      simp only [Value.slice.injEq] at e
      obtain ⟨_, _, rfl⟩ := e
      unfold maxLen at h2
      omega
    clear hm
    refine wp_region_held_drew (S := fun W => Below w6.heap.size w6 W) (by kernel_rfl) (Below.refl _ _).drew (fun hS => ?_)
    refine wpAnyH_take (i := 0) (oi := { dst := some 38, op := Op.load 23 (Operand.tmp 5), type := 23, pos := _, after := _, guard := none }) (v := (.agg #[.int .i64 r.f, .int .i64 r.lo, .int .i64 r.fo, .int .i64 r.nu, .int .i64 r.de])) rfl (by kernel_rfl) (by kernel_rfl) (by kernel_rfl) (fun _ _ _ h => h) (yieldsIf_agg (by kernel_rfl) 23 (.tmp 5) (by kernel_rfl) w.heap.size 0 (by kernel_rfl) y5) hS ?_
    try simp only [Act.put, List.setIfInBounds_toArray, List.set_cons_zero, List.set_cons_succ]
    refine wpAnyH_take (i := 2) (oi := { dst := some 40, op := Op.load 23 (Operand.tmp 5), type := 23, pos := _, after := _, guard := none }) (v := (.agg #[.int .i64 r.f, .int .i64 r.lo, .int .i64 r.fo, .int .i64 r.nu, .int .i64 r.de])) rfl (by kernel_rfl) (by kernel_rfl) (by kernel_rfl) (fun _ _ _ h => h) (yieldsIf_agg (by kernel_rfl) 23 (.tmp 5) (by kernel_rfl) w.heap.size 0 (by kernel_rfl) y5) hS ?_
    try simp only [Act.put, List.setIfInBounds_toArray, List.set_cons_zero, List.set_cons_succ]
    refine wpAnyH_ready (rs := [1]) (by kernel_rfl) (by simp) (AllReadyH.cons rfl (fun K hK => ?_) AllReadyH.nil)
    go_simp
    refine (C11.out _ hS).mono ?_
    rintro _ x1 ⟨rfl, hb1x⟩
    refine hK.out _ _ (hS.trans (hb1x.mono hS.size)) (fun hS1 => ?_)
    clear hK K
    try simp only [Act.put, List.setIfInBounds_toArray, List.set_cons_zero, List.set_cons_succ]
    refine wpAnyH_ready (rs := [3]) (by kernel_rfl) (by simp) (AllReadyH.cons rfl (fun K hK => ?_) AllReadyH.nil)
    go_simp
    refine (C21.out _ hS1).mono ?_
    rintro _ x2 ⟨rfl, hb2x⟩
    refine hK.out _ _ (hS1.trans (hb2x.mono hS1.size)) (fun hS2 => ?_)
    clear hK K
    try simp only [Act.put, List.setIfInBounds_toArray, List.set_cons_zero, List.set_cons_succ]
    refine wpAnyH_take (i := 4) (oi := { dst := some 42, op := Op.binOp BinOp.eql 28 (Operand.tmp 39) (Operand.tmp 41) 28, type := 4, pos := _, after := _, guard := none }) (v := (.bool true)) rfl (by kernel_rfl) (by kernel_rfl) (by kernel_rfl) (fun _ _ _ h => h) (.inl ⟨by kernel_rfl, fun W _ => by go_simp⟩) hS2 ?_
    try simp only [Act.put, List.setIfInBounds_toArray, List.set_cons_zero, List.set_cons_succ]
    refine wpAnyH_take (i := 5) (oi := { dst := some 43, op := Op.move (Operand.tmp 42), type := 4, pos := _, after := _, guard := none }) (v := (.bool true)) rfl (by kernel_rfl) (by kernel_rfl) (by kernel_rfl) (fun _ _ _ h => h) (yieldsIf_move' (by kernel_rfl) (.tmp 42) (by kernel_rfl) (by kernel_rfl)) hS2 ?_
    try simp only [Act.put, List.setIfInBounds_toArray, List.set_cons_zero, List.set_cons_succ]
    refine wpAnyH_take (i := 6) (oi := { dst := some 44, op := Op.load 23 (Operand.tmp 5), type := 23, pos := _, after := _, guard := some (5, true) }) (v := (.agg #[.int .i64 r.f, .int .i64 r.lo, .int .i64 r.fo, .int .i64 r.nu, .int .i64 r.de])) rfl (by kernel_rfl) (by kernel_rfl) (by kernel_rfl) (fun _ _ _ h => h) (yieldsIf_agg (by kernel_rfl) 23 (.tmp 5) (by kernel_rfl) w.heap.size 0 (by kernel_rfl) y5) hS2 ?_
    try simp only [Act.put, List.setIfInBounds_toArray, List.set_cons_zero, List.set_cons_succ]
    refine wpAnyH_take (i := 7) (oi := { dst := some 45, op := Op.move (Operand.tmp 1), type := 24, pos := _, after := _, guard := some (5, true) }) (v := (.slice oa l.length cap)) rfl (by kernel_rfl) (by kernel_rfl) (by kernel_rfl) (fun _ _ _ h => h) (yieldsIf_move' (by kernel_rfl) (.tmp 1) (by kernel_rfl) (by kernel_rfl)) hS2 ?_
    try simp only [Act.put, List.setIfInBounds_toArray, List.set_cons_zero, List.set_cons_succ]
    refine wpAnyH_take (i := 8) (oi := { dst := some 46, op := Op.move (Operand.tmp 2), type := 31, pos := _, after := _, guard := some (5, true) }) (v := (.slice oa2 s.length cap2)) rfl (by kernel_rfl) (by kernel_rfl) (by kernel_rfl) (fun _ _ _ h => h) (yieldsIf_move' (by kernel_rfl) (.tmp 2) (by kernel_rfl) (by kernel_rfl)) hS2 ?_
    try simp only [Act.put, List.setIfInBounds_toArray, List.set_cons_zero, List.set_cons_succ]
    refine wpAnyH_take (i := 10) (oi := { dst := some 48, op := Op.load 23 (Operand.tmp 5), type := 23, pos := _, after := _, guard := some (5, true) }) (v := (.agg #[.int .i64 r.f, .int .i64 r.lo, .int .i64 r.fo, .int .i64 r.nu, .int .i64 r.de])) rfl (by kernel_rfl) (by kernel_rfl) (by kernel_rfl) (fun _ _ _ h => h) (yieldsIf_agg (by kernel_rfl) 23 (.tmp 5) (by kernel_rfl) w.heap.size 0 (by kernel_rfl) y5) hS2 ?_
    try simp only [Act.put, List.setIfInBounds_toArray, List.set_cons_zero, List.set_cons_succ]
    refine wpAnyH_take (i := 11) (oi := { dst := some 49, op := Op.move (Operand.tmp 1), type := 24, pos := _, after := _, guard := some (5, true) }) (v := (.slice oa l.length cap)) rfl (by kernel_rfl) (by kernel_rfl) (by kernel_rfl) (fun _ _ _ h => h) (yieldsIf_move' (by kernel_rfl) (.tmp 1) (by kernel_rfl) (by kernel_rfl)) hS2 ?_
    try simp only [Act.put, List.setIfInBounds_toArray, List.set_cons_zero, List.set_cons_succ]
    refine wpAnyH_take (i := 12) (oi := { dst := some 50, op := Op.move (Operand.tmp 2), type := 31, pos := _, after := _, guard := some (5, true) }) (v := (.slice oa2 s.length cap2)) rfl (by kernel_rfl) (by kernel_rfl) (by kernel_rfl) (fun _ _ _ h => h) (yieldsIf_move' (by kernel_rfl) (.tmp 2) (by kernel_rfl) (by kernel_rfl)) hS2 ?_
    try simp only [Act.put, List.setIfInBounds_toArray, List.set_cons_zero, List.set_cons_succ]
    refine wpAnyH_ready (rs := [9]) (by kernel_rfl) (by simp) (AllReadyH.cons rfl (fun K hK => ?_) AllReadyH.nil)
    go_simp
    refine (C22.out _ hS2).mono ?_
    rintro _ x3 ⟨rfl, hb3x⟩
    refine hK.out _ _ (hS2.trans (hb3x.mono hS2.size)) (fun hS3 => ?_)
    clear hK K
    try simp only [Act.put, List.setIfInBounds_toArray, List.set_cons_zero, List.set_cons_succ]
    refine wpAnyH_ready (rs := [13]) (by kernel_rfl) (by simp) (AllReadyH.cons rfl (fun K hK => ?_) AllReadyH.nil)
    go_simp
    refine (C23.out _ hS3).mono ?_
    rintro _ x4 ⟨rfl, hb4x⟩
    refine hK.out _ _ (hS3.trans (hb4x.mono hS3.size)) (fun hS4 => ?_)
    clear hK K
    try simp only [Act.put, List.setIfInBounds_toArray, List.set_cons_zero, List.set_cons_succ]
    refine wpAnyH_take (i := 14) (oi := { dst := some 52, op := Op.binOp BinOp.eql 28 (Operand.tmp 47) (Operand.tmp 51) 28, type := 4, pos := _, after := _, guard := some (5, true) }) (v := (.bool true)) rfl (by kernel_rfl) (by kernel_rfl) (by kernel_rfl) (fun _ _ _ h => h) (.inl ⟨by kernel_rfl, fun W _ => by go_simp⟩) hS4 ?_
    try simp only [Act.put, List.setIfInBounds_toArray, List.set_cons_zero, List.set_cons_succ]
    refine wpAnyH_take (i := 15) (oi := { dst := some 53, op := Op.pick (Operand.tmp 43) (Operand.tmp 52) (Operand.const (Value.bool false)), type := 4, pos := _, after := _, guard := none }) (v := (.bool true)) rfl (by kernel_rfl) (by kernel_rfl) (by kernel_rfl) (fun _ _ _ h => h) (.inl ⟨by kernel_rfl, fun W _ => by go_simp⟩) hS4 ?_
    try simp only [Act.put, List.setIfInBounds_toArray, List.set_cons_zero, List.set_cons_succ]
    refine wpAnyH_take (i := 16) (oi := { dst := some 54, op := Op.move (Operand.tmp 53), type := 4, pos := _, after := _, guard := none }) (v := (.bool true)) rfl (by kernel_rfl) (by kernel_rfl) (by kernel_rfl) (fun _ _ _ h => h) (yieldsIf_move' (by kernel_rfl) (.tmp 53) (by kernel_rfl) (by kernel_rfl)) hS4 ?_
    try simp only [Act.put, List.setIfInBounds_toArray, List.set_cons_zero, List.set_cons_succ]
    refine wpAnyH_take (i := 17) (oi := { dst := some 55, op := Op.move (Operand.tmp 11), type := 31, pos := _, after := _, guard := some (16, true) }) (v := va) rfl (by kernel_rfl) (by kernel_rfl) (by kernel_rfl) (fun _ _ _ h => h) (yieldsIf_move' (by kernel_rfl) (.tmp 11) (by kernel_rfl) (by kernel_rfl)) hS4 ?_
    try simp only [Act.put, List.setIfInBounds_toArray, List.set_cons_zero, List.set_cons_succ]
    refine wpAnyH_take (i := 18) (oi := { dst := some 56, op := Op.move (Operand.tmp 13), type := 31, pos := _, after := _, guard := some (16, true) }) (v := vb) rfl (by kernel_rfl) (by kernel_rfl) (by kernel_rfl) (fun _ _ _ h => h) (yieldsIf_move' (by kernel_rfl) (.tmp 13) (by kernel_rfl) (by kernel_rfl)) hS4 ?_
    try simp only [Act.put, List.setIfInBounds_toArray, List.set_cons_zero, List.set_cons_succ]
    refine wpAnyH_ready (rs := [19]) (by kernel_rfl) (by simp) (AllReadyH.cons rfl (fun K hK => ?_) AllReadyH.nil)
    go_simp
    refine (C24.out _ hS4).mono ?_
    rintro _ x5 ⟨rfl, hb5x⟩
    refine hK.out _ _ (hS4.trans (hb5x.mono hS4.size)) (fun hS5 => ?_)
    clear hK K
    try simp only [Act.put, List.setIfInBounds_toArray, List.set_cons_zero, List.set_cons_succ]
    refine wpAnyH_take (i := 20) (oi := { dst := some 58, op := Op.pick (Operand.tmp 54) (Operand.tmp 57) (Operand.const (Value.bool false)), type := 4, pos := _, after := _, guard := none }) (v := (.bool true)) rfl (by kernel_rfl) (by kernel_rfl) (by kernel_rfl) (fun _ _ _ h => h) (.inl ⟨by kernel_rfl, fun W _ => by go_simp⟩) hS5 ?_
    try simp only [Act.put, List.setIfInBounds_toArray, List.set_cons_zero, List.set_cons_succ]
    refine wpAnyH_take (i := 21) (oi := { dst := some 59, op := Op.move (Operand.tmp 58), type := 4, pos := _, after := _, guard := none }) (v := (.bool true)) rfl (by kernel_rfl) (by kernel_rfl) (by kernel_rfl) (fun _ _ _ h => h) (yieldsIf_move' (by kernel_rfl) (.tmp 58) (by kernel_rfl) (by kernel_rfl)) hS5 ?_
    try simp only [Act.put, List.setIfInBounds_toArray, List.set_cons_zero, List.set_cons_succ]
    refine wpAnyH_take (i := 22) (oi := { dst := some 60, op := Op.move (Operand.tmp 12), type := 28, pos := _, after := _, guard := some (21, true) }) (v := (.int .i64 ne)) rfl (by kernel_rfl) (by kernel_rfl) (by kernel_rfl) (fun _ _ _ h => h) (yieldsIf_move' (by kernel_rfl) (.tmp 12) (by kernel_rfl) (by kernel_rfl)) hS5 ?_
    try simp only [Act.put, List.setIfInBounds_toArray, List.set_cons_zero, List.set_cons_succ]
    refine wpAnyH_take (i := 23) (oi := { dst := some 61, op := Op.move (Operand.tmp 14), type := 28, pos := _, after := _, guard := some (21, true) }) (v := (.int .i64 ne)) rfl (by kernel_rfl) (by kernel_rfl) (by kernel_rfl) (fun _ _ _ h => h) (yieldsIf_move' (by kernel_rfl) (.tmp 14) (by kernel_rfl) (by kernel_rfl)) hS5 ?_
    try simp only [Act.put, List.setIfInBounds_toArray, List.set_cons_zero, List.set_cons_succ]
    refine wpAnyH_take (i := 24) (oi := { dst := some 62, op := Op.binOp BinOp.eql 28 (Operand.tmp 60) (Operand.tmp 61) 28, type := 4, pos := _, after := _, guard := some (21, true) }) (v := (.bool true)) rfl (by kernel_rfl) (by kernel_rfl) (by kernel_rfl) (fun _ _ _ h => h) (.inl ⟨by kernel_rfl, fun W _ => by go_simp⟩) hS5 ?_
    try simp only [Act.put, List.setIfInBounds_toArray, List.set_cons_zero, List.set_cons_succ]
    refine wpAnyH_take (i := 25) (oi := { dst := some 63, op := Op.pick (Operand.tmp 59) (Operand.tmp 62) (Operand.const (Value.bool false)), type := 4, pos := _, after := _, guard := none }) (v := (.bool true)) rfl (by kernel_rfl) (by kernel_rfl) (by kernel_rfl) (fun _ _ _ h => h) (.inl ⟨by kernel_rfl, fun W _ => by go_simp⟩) hS5 ?_
    try simp only [Act.put, List.setIfInBounds_toArray, List.set_cons_zero, List.set_cons_succ]
    refine wpAnyH_take (i := 26) (oi := { dst := some 64, op := Op.move (Operand.tmp 63), type := 4, pos := _, after := _, guard := none }) (v := (.bool true)) rfl (by kernel_rfl) (by kernel_rfl) (by kernel_rfl) (fun _ _ _ h => h) (yieldsIf_move' (by kernel_rfl) (.tmp 63) (by kernel_rfl) (by kernel_rfl)) hS5 ?_
    try simp only [Act.put, List.setIfInBounds_toArray, List.set_cons_zero, List.set_cons_succ]
    refine wpAnyH_take (i := 27) (oi := { dst := some 65, op := Op.move (Operand.tmp 2), type := 31, pos := _, after := _, guard := some (26, true) }) (v := (.slice oa2 s.length cap2)) rfl (by kernel_rfl) (by kernel_rfl) (by kernel_rfl) (fun _ _ _ h => h) (yieldsIf_move' (by kernel_rfl) (.tmp 2) (by kernel_rfl) (by kernel_rfl)) hS5 ?_
    try simp only [Act.put, List.setIfInBounds_toArray, List.set_cons_zero, List.set_cons_succ]
    refine wpAnyH_take (i := 28) (oi := { dst := some 66, op := Op.move (Operand.tmp 3), type := 3, pos := _, after := _, guard := some (26, true) }) (v := (.int .i64 i)) rfl (by kernel_rfl) (by kernel_rfl) (by kernel_rfl) (fun _ _ _ h => h) (yieldsIf_move' (by kernel_rfl) (.tmp 3) (by kernel_rfl) (by kernel_rfl)) hS5 ?_
    try simp only [Act.put, List.setIfInBounds_toArray, List.set_cons_zero, List.set_cons_succ]
    refine wpAnyH_take (i := 29) (oi := { dst := some 67, op := Op.move (Operand.tmp 4), type := 2, pos := _, after := _, guard := some (26, true) }) (v := (.int .i64 now)) rfl (by kernel_rfl) (by kernel_rfl) (by kernel_rfl) (fun _ _ _ h => h) (yieldsIf_move' (by kernel_rfl) (.tmp 4) (by kernel_rfl) (by kernel_rfl)) hS5 ?_
    try simp only [Act.put, List.setIfInBounds_toArray, List.set_cons_zero, List.set_cons_succ]
    refine wpAnyH_take (i := 31) (oi := { dst := some 69, op := Op.move (Operand.tmp 2), type := 31, pos := _, after := _, guard := some (26, true) }) (v := (.slice oa2 s.length cap2)) rfl (by kernel_rfl) (by kernel_rfl) (by kernel_rfl) (fun _ _ _ h => h) (yieldsIf_move' (by kernel_rfl) (.tmp 2) (by kernel_rfl) (by kernel_rfl)) hS5 ?_
    try simp only [Act.put, List.setIfInBounds_toArray, List.set_cons_zero, List.set_cons_succ]
    refine wpAnyH_take (i := 32) (oi := { dst := some 70, op := Op.move (Operand.tmp 3), type := 3, pos := _, after := _, guard := some (26, true) }) (v := (.int .i64 i)) rfl (by kernel_rfl) (by kernel_rfl) (by kernel_rfl) (fun _ _ _ h => h) (yieldsIf_move' (by kernel_rfl) (.tmp 3) (by kernel_rfl) (by kernel_rfl)) hS5 ?_
    try simp only [Act.put, List.setIfInBounds_toArray, List.set_cons_zero, List.set_cons_succ]
    refine wpAnyH_take (i := 33) (oi := { dst := some 71, op := Op.move (Operand.tmp 4), type := 2, pos := _, after := _, guard := some (26, true) }) (v := (.int .i64 now)) rfl (by kernel_rfl) (by kernel_rfl) (by kernel_rfl) (fun _ _ _ h => h) (yieldsIf_move' (by kernel_rfl) (.tmp 4) (by kernel_rfl) (by kernel_rfl)) hS5 ?_
    try simp only [Act.put, List.setIfInBounds_toArray, List.set_cons_zero, List.set_cons_succ]
    refine wpAnyH_ready (rs := [30]) (by kernel_rfl) (by simp) (AllReadyH.cons rfl (fun K hK => ?_) AllReadyH.nil)
    go_simp
    refine (C15.out _ hS5).mono ?_
    rintro _ x6 ⟨rfl, hb6x⟩
    refine hK.out _ _ (hS5.trans (hb6x.mono hS5.size)) (fun hS6 => ?_)
    clear hK K
    try simp only [Act.put, List.setIfInBounds_toArray, List.set_cons_zero, List.set_cons_succ]
    refine wpAnyH_ready (rs := [34]) (by kernel_rfl) (by simp) (AllReadyH.cons rfl (fun K hK => ?_) AllReadyH.nil)
    go_simp
    refine (C25.out _ hS6).mono ?_
    rintro _ x7 ⟨rfl, hb7x⟩
    refine hK.out _ _ (hS6.trans (hb7x.mono hS6.size)) (fun hS7 => ?_)
    clear hK K
    try simp only [Act.put, List.setIfInBounds_toArray, List.set_cons_zero, List.set_cons_succ]
    refine wpAnyH_take (i := 35) (oi := { dst := some 73, op := Op.binOp BinOp.eql 4 (Operand.tmp 68) (Operand.tmp 72) 4, type := 4, pos := _, after := _, guard := some (26, true) }) (v := (.bool true)) rfl (by kernel_rfl) (by kernel_rfl) (by kernel_rfl) (fun _ _ _ h => h) (.inl ⟨by kernel_rfl, fun W _ => by go_simp⟩) hS7 ?_
    try simp only [Act.put, List.setIfInBounds_toArray, List.set_cons_zero, List.set_cons_succ]
    refine wpAnyH_take (i := 36) (oi := { dst := some 74, op := Op.pick (Operand.tmp 64) (Operand.tmp 73) (Operand.const (Value.bool false)), type := 4, pos := _, after := _, guard := none }) (v := (.bool true)) rfl (by kernel_rfl) (by kernel_rfl) (by kernel_rfl) (fun _ _ _ h => h) (.inl ⟨by kernel_rfl, fun W _ => by go_simp⟩) hS7 ?_
    try simp only [Act.put, List.setIfInBounds_toArray, List.set_cons_zero, List.set_cons_succ]
    refine wpAnyH_take (i := 37) (oi := { dst := some 75, op := Op.move (Operand.tmp 74), type := 4, pos := _, after := _, guard := none }) (v := (.bool true)) rfl (by kernel_rfl) (by kernel_rfl) (by kernel_rfl) (fun _ _ _ h => h) (yieldsIf_move' (by kernel_rfl) (.tmp 74) (by kernel_rfl) (by kernel_rfl)) hS7 ?_
    try simp only [Act.put, List.setIfInBounds_toArray, List.set_cons_zero, List.set_cons_succ]
    refine wpAnyH_take (i := 38) (oi := { dst := some 76, op := Op.move (Operand.tmp 1), type := 24, pos := _, after := _, guard := some (37, true) }) (v := (.slice oa l.length cap)) rfl (by kernel_rfl) (by kernel_rfl) (by kernel_rfl) (fun _ _ _ h => h) (yieldsIf_move' (by kernel_rfl) (.tmp 1) (by kernel_rfl) (by kernel_rfl)) hS7 ?_
    try simp only [Act.put, List.setIfInBounds_toArray, List.set_cons_zero, List.set_cons_succ]
    refine wpAnyH_take (i := 39) (oi := { dst := some 77, op := Op.move (Operand.tmp 2), type := 31, pos := _, after := _, guard := some (37, true) }) (v := (.slice oa2 s.length cap2)) rfl (by kernel_rfl) (by kernel_rfl) (by kernel_rfl) (fun _ _ _ h => h) (yieldsIf_move' (by kernel_rfl) (.tmp 2) (by kernel_rfl) (by kernel_rfl)) hS7 ?_
    try simp only [Act.put, List.setIfInBounds_toArray, List.set_cons_zero, List.set_cons_succ]
    refine wpAnyH_take (i := 40) (oi := { dst := some 78, op := Op.move (Operand.tmp 4), type := 2, pos := _, after := _, guard := some (37, true) }) (v := (.int .i64 now)) rfl (by kernel_rfl) (by kernel_rfl) (by kernel_rfl) (fun _ _ _ h => h) (yieldsIf_move' (by kernel_rfl) (.tmp 4) (by kernel_rfl) (by kernel_rfl)) hS7 ?_
    try simp only [Act.put, List.setIfInBounds_toArray, List.set_cons_zero, List.set_cons_succ]
    refine wpAnyH_take (i := 42) (oi := { dst := some 80, op := Op.move (Operand.tmp 1), type := 24, pos := _, after := _, guard := some (37, true) }) (v := (.slice oa l.length cap)) rfl (by kernel_rfl) (by kernel_rfl) (by kernel_rfl) (fun _ _ _ h => h) (yieldsIf_move' (by kernel_rfl) (.tmp 1) (by kernel_rfl) (by kernel_rfl)) hS7 ?_
    try simp only [Act.put, List.setIfInBounds_toArray, List.set_cons_zero, List.set_cons_succ]
    refine wpAnyH_take (i := 43) (oi := { dst := some 81, op := Op.move (Operand.tmp 2), type := 31, pos := _, after := _, guard := some (37, true) }) (v := (.slice oa2 s.length cap2)) rfl (by kernel_rfl) (by kernel_rfl) (by kernel_rfl) (fun _ _ _ h => h) (yieldsIf_move' (by kernel_rfl) (.tmp 2) (by kernel_rfl) (by kernel_rfl)) hS7 ?_
    try simp only [Act.put, List.setIfInBounds_toArray, List.set_cons_zero, List.set_cons_succ]
    refine wpAnyH_take (i := 44) (oi := { dst := some 82, op := Op.move (Operand.tmp 4), type := 2, pos := _, after := _, guard := some (37, true) }) (v := (.int .i64 now)) rfl (by kernel_rfl) (by kernel_rfl) (by kernel_rfl) (fun _ _ _ h => h) (yieldsIf_move' (by kernel_rfl) (.tmp 4) (by kernel_rfl) (by kernel_rfl)) hS7 ?_
    try simp only [Act.put, List.setIfInBounds_toArray, List.set_cons_zero, List.set_cons_succ]
    refine wpAnyH_ready (rs := [41]) (by kernel_rfl) (by simp) (AllReadyH.cons rfl (fun K hK => ?_) AllReadyH.nil)
    go_simp
    refine (C17.out _ hS7).mono ?_
    rintro _ x8 ⟨rfl, hb8x⟩
    refine hK.out _ _ (hS7.trans (hb8x.mono hS7.size)) (fun hS8 => ?_)
    clear hK K
    try simp only [Act.put, List.setIfInBounds_toArray, List.set_cons_zero, List.set_cons_succ]
    refine wpAnyH_ready (rs := [45]) (by kernel_rfl) (by simp) (AllReadyH.cons rfl (fun K hK => ?_) AllReadyH.nil)
    go_simp
    refine (C26.out _ hS8).mono ?_
    rintro _ x9 ⟨rfl, hb9x⟩
    refine hK.out _ _ (hS8.trans (hb9x.mono hS8.size)) (fun hS9 => ?_)
    clear hK K
    try simp only [Act.put, List.setIfInBounds_toArray, List.set_cons_zero, List.set_cons_succ]
    refine wpAnyH_take (i := 46) (oi := { dst := some 84, op := Op.binOp BinOp.eql 2 (Operand.tmp 79) (Operand.tmp 83) 2, type := 4, pos := _, after := _, guard := some (37, true) }) (v := (.bool true)) rfl (by kernel_rfl) (by kernel_rfl) (by kernel_rfl) (fun _ _ _ h => h) (.inl ⟨by kernel_rfl, fun W _ => by go_simp⟩) hS9 ?_
    try simp only [Act.put, List.setIfInBounds_toArray, List.set_cons_zero, List.set_cons_succ]
    refine wpAnyH_take (i := 47) (oi := { dst := some 85, op := Op.pick (Operand.tmp 75) (Operand.tmp 84) (Operand.const (Value.bool false)), type := 4, pos := _, after := _, guard := none }) (v := (.bool true)) rfl (by kernel_rfl) (by kernel_rfl) (by kernel_rfl) (fun _ _ _ h => h) (.inl ⟨by kernel_rfl, fun W _ => by go_simp⟩) hS9 ?_
    try simp only [Act.put, List.setIfInBounds_toArray, List.set_cons_zero, List.set_cons_succ]
    refine wpAnyH_take (i := 48) (oi := { dst := some 86, op := Op.move (Operand.tmp 85), type := 4, pos := _, after := _, guard := none }) (v := (.bool true)) rfl (by kernel_rfl) (by kernel_rfl) (by kernel_rfl) (fun _ _ _ h => h) (yieldsIf_move' (by kernel_rfl) (.tmp 85) (by kernel_rfl) (by kernel_rfl)) hS9 ?_
    try simp only [Act.put, List.setIfInBounds_toArray, List.set_cons_zero, List.set_cons_succ]
    refine wpAnyH_take (i := 49) (oi := { dst := some 87, op := Op.move (Operand.tmp 2), type := 31, pos := _, after := _, guard := some (48, true) }) (v := (.slice oa2 s.length cap2)) rfl (by kernel_rfl) (by kernel_rfl) (by kernel_rfl) (fun _ _ _ h => h) (yieldsIf_move' (by kernel_rfl) (.tmp 2) (by kernel_rfl) (by kernel_rfl)) hS9 ?_
    try simp only [Act.put, List.setIfInBounds_toArray, List.set_cons_zero, List.set_cons_succ]
    refine wpAnyH_take (i := 50) (oi := { dst := some 88, op := Op.move (Operand.tmp 4), type := 2, pos := _, after := _, guard := some (48, true) }) (v := (.int .i64 now)) rfl (by kernel_rfl) (by kernel_rfl) (by kernel_rfl) (fun _ _ _ h => h) (yieldsIf_move' (by kernel_rfl) (.tmp 4) (by kernel_rfl) (by kernel_rfl)) hS9 ?_
    try simp only [Act.put, List.setIfInBounds_toArray, List.set_cons_zero, List.set_cons_succ]
    refine wpAnyH_take (i := 52) (oi := { dst := some 90, op := Op.move (Operand.tmp 2), type := 31, pos := _, after := _, guard := some (48, true) }) (v := (.slice oa2 s.length cap2)) rfl (by kernel_rfl) (by kernel_rfl) (by kernel_rfl) (fun _ _ _ h => h) (yieldsIf_move' (by kernel_rfl) (.tmp 2) (by kernel_rfl) (by kernel_rfl)) hS9 ?_
    try simp only [Act.put, List.setIfInBounds_toArray, List.set_cons_zero, List.set_cons_succ]
    refine wpAnyH_take (i := 53) (oi := { dst := some 91, op := Op.move (Operand.tmp 4), type := 2, pos := _, after := _, guard := some (48, true) }) (v := (.int .i64 now)) rfl (by kernel_rfl) (by kernel_rfl) (by kernel_rfl) (fun _ _ _ h => h) (yieldsIf_move' (by kernel_rfl) (.tmp 4) (by kernel_rfl) (by kernel_rfl)) hS9 ?_
    try simp only [Act.put, List.setIfInBounds_toArray, List.set_cons_zero, List.set_cons_succ]
    refine wpAnyH_ready (rs := [51]) (by kernel_rfl) (by simp) (AllReadyH.cons rfl (fun K hK => ?_) AllReadyH.nil)
    go_simp
    refine (C27.out _ hS9).mono ?_
    rintro _ x10 ⟨rfl, hb10x⟩
    refine hK.out _ _ (hS9.trans (hb10x.mono hS9.size)) (fun hS10 => ?_)
    clear hK K
    try simp only [Act.put, List.setIfInBounds_toArray, List.set_cons_zero, List.set_cons_succ]
    refine wpAnyH_ready (rs := [54]) (by kernel_rfl) (by simp) (AllReadyH.cons rfl (fun K hK => ?_) AllReadyH.nil)
    go_simp
    refine (C28.out _ hS10).mono ?_
    rintro _ x11 ⟨rfl, hb11x⟩
    refine hK.out _ _ (hS10.trans (hb11x.mono hS10.size)) (fun hS11 => ?_)
    clear hK K
    try simp only [Act.put, List.setIfInBounds_toArray, List.set_cons_zero, List.set_cons_succ]
    refine wpAnyH_take (i := 55) (oi := { dst := some 93, op := Op.binOp BinOp.eql 2 (Operand.tmp 89) (Operand.tmp 92) 2, type := 4, pos := _, after := _, guard := some (48, true) }) (v := (.bool true)) rfl (by kernel_rfl) (by kernel_rfl) (by kernel_rfl) (fun _ _ _ h => h) (.inl ⟨by kernel_rfl, fun W _ => by go_simp⟩) hS11 ?_
    try simp only [Act.put, List.setIfInBounds_toArray, List.set_cons_zero, List.set_cons_succ]
    refine wpAnyH_take (i := 56) (oi := { dst := some 94, op := Op.pick (Operand.tmp 86) (Operand.tmp 93) (Operand.const (Value.bool false)), type := 4, pos := _, after := _, guard := none }) (v := (.bool true)) rfl (by kernel_rfl) (by kernel_rfl) (by kernel_rfl) (fun _ _ _ h => h) (.inl ⟨by kernel_rfl, fun W _ => by go_simp⟩) hS11 ?_
    try simp only [Act.put, List.setIfInBounds_toArray, List.set_cons_zero, List.set_cons_succ]
    refine wpAnyH_take (i := 57) (oi := { dst := some 95, op := Op.move (Operand.tmp 94), type := 4, pos := _, after := _, guard := none }) (v := (.bool true)) rfl (by kernel_rfl) (by kernel_rfl) (by kernel_rfl) (fun _ _ _ h => h) (yieldsIf_move' (by kernel_rfl) (.tmp 94) (by kernel_rfl) (by kernel_rfl)) hS11 ?_
    try simp only [Act.put, List.setIfInBounds_toArray, List.set_cons_zero, List.set_cons_succ]
    refine wpAnyH_take (i := 58) (oi := { dst := some 96, op := Op.move (Operand.tmp 2), type := 31, pos := _, after := _, guard := some (57, true) }) (v := (.slice oa2 s.length cap2)) rfl (by kernel_rfl) (by kernel_rfl) (by kernel_rfl) (fun _ _ _ h => h) (yieldsIf_move' (by kernel_rfl) (.tmp 2) (by kernel_rfl) (by kernel_rfl)) hS11 ?_
    try simp only [Act.put, List.setIfInBounds_toArray, List.set_cons_zero, List.set_cons_succ]
    refine wpAnyH_take (i := 59) (oi := { dst := some 97, op := Op.move (Operand.tmp 4), type := 2, pos := _, after := _, guard := some (57, true) }) (v := (.int .i64 now)) rfl (by kernel_rfl) (by kernel_rfl) (by kernel_rfl) (fun _ _ _ h => h) (yieldsIf_move' (by kernel_rfl) (.tmp 4) (by kernel_rfl) (by kernel_rfl)) hS11 ?_
    try simp only [Act.put, List.setIfInBounds_toArray, List.set_cons_zero, List.set_cons_succ]
    refine wpAnyH_take (i := 62) (oi := { dst := some 100, op := Op.move (Operand.tmp 15), type := 45, pos := _, after := _, guard := some (57, true) }) (v := (.slice oac lo.length cpc)) rfl (by kernel_rfl) (by kernel_rfl) (by kernel_rfl) (fun _ _ _ h => h) (yieldsIf_move' (by kernel_rfl) (.tmp 15) (by kernel_rfl) (by kernel_rfl)) hS11 ?_
    try simp only [Act.put, List.setIfInBounds_toArray, List.set_cons_zero, List.set_cons_succ]
    refine wpAnyH_ready (rs := [60]) (by kernel_rfl) (by simp) (AllReadyH.cons rfl (fun K hK => ?_) AllReadyH.nil)
    go_simp
    refine (C31.out _ hS11).mono ?_
    rintro _ x12 ⟨lb1, rfl, hc1, hb12x⟩
    refine hK.out _ _ (hS11.trans (hb12x.mono hS11.size)) (fun hS12 => ?_)
    clear hK K
    try simp only [Act.put, List.setIfInBounds_toArray, List.set_cons_zero, List.set_cons_succ]
    refine wpAnyH_ready (rs := [61]) (by kernel_rfl) (by simp) (AllReadyH.cons rfl (fun K hK => ?_) AllReadyH.nil)
    go_simp
    refine (hc1 1048576).mono ?_
    rintro _ x13 ⟨v30, rfl, o30, hb13x⟩
    refine hK.out _ _ (hS12.trans (hb13x.mono hS12.size)) (fun hS13 => ?_)
    clear hK K
    try simp only [Act.put, List.setIfInBounds_toArray, List.set_cons_zero, List.set_cons_succ]
    rw [HT1.out] at o30
    refine wpAnyH_ready (rs := [63]) (by kernel_rfl) (by simp) (AllReadyH.cons rfl (fun K hK => ?_) AllReadyH.nil)
    go_simp
    refine (C29.out _ _ _ _ _ (o30.slIn iL_length) (Q6.out.below hS13)).mono ?_
    rintro _ x14 ⟨rfl, hb14x⟩
    refine hK.out _ _ (hS13.trans (hb14x.mono hS13.size)) (fun hS14 => ?_)
    clear hK K
    try simp only [Act.put, List.setIfInBounds_toArray, List.set_cons_zero, List.set_cons_succ]
    try rw [decide_eq_true rfl]
    clear hc1 o30
    try simp only [Act.put, List.setIfInBounds_toArray, List.set_cons_zero, List.set_cons_succ]
    refine wpAnyH_take (i := 64) (oi := { dst := some 102, op := Op.pick (Operand.tmp 95) (Operand.tmp 101) (Operand.const (Value.bool false)), type := 4, pos := _, after := _, guard := none }) (v := (.bool true)) rfl (by kernel_rfl) (by kernel_rfl) (by kernel_rfl) (fun _ _ _ h => h) (.inl ⟨by kernel_rfl, fun W _ => by go_simp⟩) hS14 ?_
    try simp only [Act.put, List.setIfInBounds_toArray, List.set_cons_zero, List.set_cons_succ]
    refine wpAnyH_take (i := 65) (oi := { dst := some 103, op := Op.move (Operand.tmp 102), type := 4, pos := _, after := _, guard := none }) (v := (.bool true)) rfl (by kernel_rfl) (by kernel_rfl) (by kernel_rfl) (fun _ _ _ h => h) (yieldsIf_move' (by kernel_rfl) (.tmp 102) (by kernel_rfl) (by kernel_rfl)) hS14 ?_
    try simp only [Act.put, List.setIfInBounds_toArray, List.set_cons_zero, List.set_cons_succ]
    refine wpAnyH_take (i := 66) (oi := { dst := some 104, op := Op.move (Operand.tmp 2), type := 31, pos := _, after := _, guard := some (65, true) }) (v := (.slice oa2 s.length cap2)) rfl (by kernel_rfl) (by kernel_rfl) (by kernel_rfl) (fun _ _ _ h => h) (yieldsIf_move' (by kernel_rfl) (.tmp 2) (by kernel_rfl) (by kernel_rfl)) hS14 ?_
    try simp only [Act.put, List.setIfInBounds_toArray, List.set_cons_zero, List.set_cons_succ]
    refine wpAnyH_take (i := 67) (oi := { dst := some 105, op := Op.move (Operand.tmp 4), type := 2, pos := _, after := _, guard := some (65, true) }) (v := (.int .i64 now)) rfl (by kernel_rfl) (by kernel_rfl) (by kernel_rfl) (fun _ _ _ h => h) (yieldsIf_move' (by kernel_rfl) (.tmp 4) (by kernel_rfl) (by kernel_rfl)) hS14 ?_
    try simp only [Act.put, List.setIfInBounds_toArray, List.set_cons_zero, List.set_cons_succ]
    refine wpAnyH_take (i := 70) (oi := { dst := some 108, op := Op.move (Operand.tmp 15), type := 45, pos := _, after := _, guard := some (65, true) }) (v := (.slice oac lo.length cpc)) rfl (by kernel_rfl) (by kernel_rfl) (by kernel_rfl) (fun _ _ _ h => h) (yieldsIf_move' (by kernel_rfl) (.tmp 15) (by kernel_rfl) (by kernel_rfl)) hS14 ?_
    try simp only [Act.put, List.setIfInBounds_toArray, List.set_cons_zero, List.set_cons_succ]
    refine wpAnyH_take (i := 71) (oi := { dst := some 109, op := Op.move (Operand.tmp 15), type := 45, pos := _, after := _, guard := some (65, true) }) (v := (.slice oac lo.length cpc)) rfl (by kernel_rfl) (by kernel_rfl) (by kernel_rfl) (fun _ _ _ h => h) (yieldsIf_move' (by kernel_rfl) (.tmp 15) (by kernel_rfl) (by kernel_rfl)) hS14 ?_
    try simp only [Act.put, List.setIfInBounds_toArray, List.set_cons_zero, List.set_cons_succ]
    refine wpAnyH_take (i := 72) (oi := { dst := some 110, op := Op.call { callee := Callee.builtin Builtin.len, args := #[Operand.tmp 109], argTypes := #[45] }, type := 3, pos := _, after := _, guard := some (65, true) }) (v := (.int .i64 (lo.length : Int))) rfl (by kernel_rfl) (by kernel_rfl) (by kernel_rfl) (fun _ _ _ h => h) (.inl ⟨by kernel_rfl, fun W _ => by go_simp⟩) hS14 ?_
    try simp only [Act.put, List.setIfInBounds_toArray, List.set_cons_zero, List.set_cons_succ]
    refine wpAnyH_take (i := 73) (oi := { dst := some 111, op := Op.call { callee := Callee.builtin Builtin.min, args := #[Operand.const (Value.int IntKind.i64 1), Operand.tmp 110], argTypes := #[3, 3] }, type := 3, pos := _, after := _, guard := some (65, true) }) (v := (.int .i64 (m : Int))) rfl (by kernel_rfl) (by kernel_rfl) (by kernel_rfl) (fun _ _ _ h => h) (.inl ⟨by kernel_rfl, fun W _ => by go_simp⟩) hS14 ?_
    try simp only [Act.put, List.setIfInBounds_toArray, List.set_cons_zero, List.set_cons_succ]
    refine wpAnyH_take (i := 74) (oi := { dst := some 112, op := Op.slice 45 (Operand.tmp 108) none (some (Operand.tmp 111)) none, type := 45, pos := _, after := _, guard := some (65, true) }) (v := (.slice oac m cpc)) rfl (by kernel_rfl) (by kernel_rfl) (by kernel_rfl) (fun _ _ _ h => h) (.inl ⟨by kernel_rfl, fun W _ => by go_simp⟩) hS14 ?_
    try simp only [Act.put, List.setIfInBounds_toArray, List.set_cons_zero, List.set_cons_succ]
    refine wpAnyH_ready (rs := [68]) (by kernel_rfl) (by simp) (AllReadyH.cons rfl (fun K hK => ?_) AllReadyH.nil)
    go_simp
    refine (C31.out _ hS14).mono ?_
    rintro _ x15 ⟨lb2, rfl, hc2, hb15x⟩
    refine hK.out _ _ (hS14.trans (hb15x.mono hS14.size)) (fun hS15 => ?_)
    clear hK K
    try simp only [Act.put, List.setIfInBounds_toArray, List.set_cons_zero, List.set_cons_succ]
    refine wpAnyH_ready (rs := [69]) (by kernel_rfl) (by simp) (AllReadyH.cons rfl (fun K hK => ?_) AllReadyH.nil)
    go_simp
    refine (hc2 1).mono ?_
    rintro _ x16 ⟨v31, rfl, o31, hb16x⟩
    refine hK.out _ _ (hS15.trans (hb16x.mono hS15.size)) (fun hS16 => ?_)
    clear hK K
    try simp only [Act.put, List.setIfInBounds_toArray, List.set_cons_zero, List.set_cons_succ]
    rw [HT2.out] at o31
    refine wpAnyH_ready (rs := [75]) (by kernel_rfl) (by simp) (AllReadyH.cons rfl (fun K hK => ?_) AllReadyH.nil)
    go_simp
    refine (C29.out _ _ _ _ _ (o31.slIn iL_length) (Q7.out.below hS16)).mono ?_
    rintro _ x17 ⟨rfl, hb17x⟩
    refine hK.out _ _ (hS16.trans (hb17x.mono hS16.size)) (fun hS17 => ?_)
    clear hK K
    try simp only [Act.put, List.setIfInBounds_toArray, List.set_cons_zero, List.set_cons_succ]
    try rw [decide_eq_true rfl]
    clear hc2 o31
    try simp only [Act.put, List.setIfInBounds_toArray, List.set_cons_zero, List.set_cons_succ]
    refine wpAnyH_take (i := 76) (oi := { dst := some 114, op := Op.pick (Operand.tmp 103) (Operand.tmp 113) (Operand.const (Value.bool false)), type := 4, pos := _, after := _, guard := none }) (v := (.bool true)) rfl (by kernel_rfl) (by kernel_rfl) (by kernel_rfl) (fun _ _ _ h => h) (.inl ⟨by kernel_rfl, fun W _ => by go_simp⟩) hS17 ?_
    try simp only [Act.put, List.setIfInBounds_toArray, List.set_cons_zero, List.set_cons_succ]
    refine wpAnyH_take (i := 77) (oi := { dst := some 10, op := Op.assign (Operand.tmp 114), type := 4, pos := _, after := _, guard := none }) (v := (.bool true)) rfl (by kernel_rfl) (by kernel_rfl) (by kernel_rfl) (fun _ _ _ h => h) (.inl ⟨by kernel_rfl, fun W _ => by go_simp⟩) hS17 ?_
    try simp only [Act.put, List.setIfInBounds_toArray, List.set_cons_zero, List.set_cons_succ]
    refine wpAnyH_done (by kernel_rfl) ?_ _
    go_wp2
    go_ret
    exact ⟨rfl, B6.out.trans (hS17.mono B6.out.size)⟩
end Go.Proofs.Ytiknonljdibfgaa
