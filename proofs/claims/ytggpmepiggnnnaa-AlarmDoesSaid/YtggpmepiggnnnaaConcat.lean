import Derived.Test.YtggpmepiggnnnaaClone
import Derived.Lib.AppendZeros
import Derived.Deep.Upon
namespace Go.Proofs.Ytggpmepiggnnnaa
open Go.RowKit

theorem slIn_owns {w : World} {base : Nat} {v : Value} {n : Nat} {xs : List Al} (h : w.ownsRow base 32 2 v n (xs.flatMap alL)) : SlIn w v 2 alL xs ∧ n = xs.length := by
  have hn : n = xs.length := by have h1 := h.1; rw [flatMap_len alL_length] at h1; omega
  subst hn
  refine ⟨?_, rfl⟩
  obtain ⟨oa, cap, rfl, q1, q2, q3⟩ := row_sub h
  refine ⟨oa, cap, rfl, q1, q2, fun hl => ?_⟩
  obtain ⟨g, cur, rfl, _, _, hg, hcs, htk⟩ := q3 hl
  exact ⟨g, 0, rfl, lt_of_obj hg, fun j hj => by rw [hg, Nat.zero_add]; exact row_get htk hcs q1 hj⟩
/-- what a function hands back that makes a new row, nil or not -/
def RetRow (w : World) (xs : List Al) (e : Ending) (w' : World) : Prop := ∃ v, e = .returned v ∧ w'.ownsRow w.heap.size 32 2 v xs.length (xs.flatMap alL) ∧ Below w.heap.size w w'
set_option maxRecDepth 100000 in
theorem grow0_any (w : World) (n : Nat) (hn : n ≤ 1048576) : Calls Try.prog 42 #[.slice none 0 0, .int .i64 n] w (RetRow w []) := by
  obtain ⟨i0, hi, hz0, hz1, hz2⟩ := info_parts info32
  by_cases h0 : n = 0
  · subst h0
    go_enter Try.func42, Try.ntmps42
    go_wp2
    go_ret
    exact ⟨_, rfl, World.ownsRow_nil _ _ _ _, Below.refl _ _⟩
  · have hr := Lib.run_append_nil_zeros (P := Try.prog) w 29 3 29 32 i0 _ .i64 .i64 Try.underlying29 Try.underlying3 hi hz0 n (by omega) (by rw [hz1]; decide) (by omega) (by rw [hz2]; omega)
    have hge := grownCap_ge w n 0 32
    have hle := grownCap_le_maxLen w n 0 32 (by unfold maxLen; omega)
    generalize grownCap w n 0 32 = cap at *
    have hsz : (Builtin.zeroCells (Value.agg #[.int .i64 0, .int .i64 0]).cells n ++ Builtin.zeroCells (Value.agg #[.int .i64 0, .int .i64 0]).cells (cap - n)).size = cap * 2 := by
      have hzc : ∀ m, (Builtin.zeroCells #[Value.int .i64 0, Value.int .i64 0] m).size = m * 2 := fun m => by simp [Builtin.zeroCells]
      rw [Array.size_append]
      simp only [Value.cells]
      rw [hzc, hzc]
      omega
    generalize Builtin.zeroCells (Value.agg #[.int .i64 0, .int .i64 0]).cells n ++ Builtin.zeroCells (Value.agg #[.int .i64 0, .int .i64 0]).cells (cap - n) = cs at *
    have hpos : (0 : Int) < (n : Int) := by omega
    have HH := Lib.hid hr
    unfold maxLen at hle
    clear h0 hr
    go_enter Try.func42, Try.ntmps42
    go_wp2_with (at_builtin; refine Lib.wpList_append_run (P := Try.prog) _ rfl _ _ 29 3 rfl _ _ rfl rfl _ _ HH.out ?_)
    go_ret
    refine ⟨_, rfl, ⟨rfl, .inr ⟨w.heap.size, cap, cs, rfl, Nat.le_refl _, obj_alloc_at _ _ _ rfl, Nat.zero_le _, hle, hsz, by simp⟩⟩, ((Below.refl _ w).alloc (Nat.le_refl _) _).drew⟩
theorem run_nothing29 (w : World) (ty : TypeId) (base oa : Option Addr) (n cap c : Nat) (hle : n ≤ cap) : (Builtin.append_ #[29, 29] ty #[.slice base n cap, .slice oa 0 c]).run Try.prog w = .ok (.slice base n cap) w := by
  obtain ⟨i0, hi, hz0, hz1, hz2⟩ := info_parts info32
  refine run_append_nothing w 29 29 ty 32 i0 Try.underlying29 hi base n cap hle _ ?_
  cases oa with
  | none => exact Src.ofNil w Try.underlying29 c
  | some a => exact Src.ofSlice w Try.underlying29 a 0 c [] (by simp) (fun j u h => by simp at h) (fun u h => by cases h)
theorem take_snocV {α : Type} {xs : List α} {k : Nat} (h : k < xs.length) : xs.take (k + 1) = xs.take k ++ [xs[k]] := by
  rw [List.take_succ_eq_append_getElem h]
def lensOf (Vs : List (List Al)) : Nat := (Vs.map List.length).sum
theorem lens_flatten (Vs : List (List Al)) : Vs.flatten.length = lensOf Vs := by
  simp [lensOf, List.length_flatten]
theorem lensOf_take_le (Vs : List (List Al)) (k : Nat) : lensOf (Vs.take k) ≤ lensOf Vs := by
  rw [← lens_flatten, ← lens_flatten]
  conv => rhs; rw [← List.take_append_drop k Vs]
  rw [List.flatten_append, List.length_append]
  omega
set_option maxRecDepth 100000 in
set_option maxHeartbeats 2000000 in
theorem concat_any (w : World) (v : Value) (S : List Value) (Vs : List (List Al)) (hv : SlIn w v 1 (fun s : Value => [s]) S) (hl : S.length = Vs.length) (hS : ∀ i (h1 : i < S.length) (h2 : i < Vs.length), SlIn w S[i] 2 alL Vs[i]) (hlen : lensOf Vs ≤ 1048576) :
    Calls Try.prog 23 #[v] w (RetRow w Vs.flatten) := by
  obtain ⟨oa, cap, rfl, h1, h2, h3⟩ := hv
  unfold maxLen at h2
  have H3 := Lib.hid h3
  have HS := Lib.hid hS
  have HL := Lib.hid hl
  have HLS := Lib.hid hlen
  have HG := Lib.hid (grow0_any w (lensOf Vs) hlen)
  clear h3 hS hl hlen
  go_enter Try.func23, Try.ntmps23
  go_wp2
  go_loopw [3, 11] (fun v3 v11 wr => ∃ k : Nat, k ≤ S.length ∧ v11 = .int .i64 k ∧ v3 = .int .i64 (lensOf (Vs.take k)) ∧ w = wr) (fun _ i _ => S.length - (intOf i).toNat)
  case atStart => exact ⟨0, Nat.zero_le _, rfl, rfl, rfl⟩
  case round =>
    obtain ⟨k, hk, rfl, rfl, hww⟩ := hrel
    subst hww
    by_cases hlt : k < S.length
    · have hlt2 : k < Vs.length := by have := HL.out; omega
      obtain ⟨b, off, hoa, hbb, hrow⟩ := H3.out (by omega)
      subst hoa
      have hs1 := hrow k hlt
      have hc1 := subOf_cell hs1 (j := 0) (by decide)
      have HSk := HS.out k hlt hlt2
      have hTS : lensOf (Vs.take (k + 1)) = lensOf (Vs.take k) + Vs[k].length := by
        unfold lensOf
        rw [take_snocV hlt2, List.map_append, List.sum_append]
        simp
      have hle2 := lensOf_take_le Vs (k + 1)
      have hle3 := HLS.out
      generalize S[k] = s at *
      generalize Vs[k] = xs at *
      obtain ⟨oa', cap', rfl, _, _, _⟩ := HSk
      have hc2 : w.cell? ⟨b, off + k, none⟩ = some (.slice oa' xs.length cap') := by simpa using hc1
      have HTS := Lib.hid hTS
      have hb2 : lensOf (Vs.take k) + xs.length ≤ 1048576 := by omega
      generalize lensOf (Vs.take k) = q at *
      clear hrow hs1 hc1 hTS hle2 hle3
      go_wp2
      go_roundw
      case rel => exact ⟨k + 1, by omega, by go_num, by rw [HTS.out]; go_num, trivial⟩
      case measure => simp [intOf]; omega
    · have hk' : k = Vs.length := by have := HL.out; omega
      rw [hk', List.take_length]
      have hkS : ¬ ((Vs.length : Int) < (S.length : Int)) := by have := HL.out; omega
      have hq := HLS.out
      have HLQ : Hid (lensOf Vs ≤ 1048576) := Lib.hid hq
      have HLV : Hid (∀ k, lensOf (Vs.take k) ≤ 1048576) := Lib.hid (fun k => Nat.le_trans (lensOf_take_le Vs k) hq)
      clear hlt hk hk'
      generalize lensOf Vs = q at *
      go_wp2_with fail
      refine HG.out.mono ?_
      rintro e w2 ⟨v2, rfl, o2, b2⟩
      have O2 := Lib.hid o2
      have B2 := Lib.hid b2
      have HSL := HL.out
      clear o2 b2
      go_wp2
      go_loopw [6, 8, 27] (fun v6 _ v27 wr => ∃ k : Nat, k ≤ S.length ∧ v27 = .int .i64 k ∧ Hid (wr.ownsRow w.heap.size 32 2 v6 (Vs.take k).flatten.length ((Vs.take k).flatten.flatMap alL)) ∧ Hid (Below w.heap.size w wr)) (fun _ _ i _ => S.length - (intOf i).toNat)
      case atStart => exact ⟨0, Nat.zero_le _, rfl, O2, B2⟩
      case round =>
        obtain ⟨k, hk, rfl, HO, HB⟩ := hrel
        by_cases hlt : k < S.length
        · have hlt2 : k < Vs.length := by omega
          obtain ⟨b, off, hoa, hbb, hrow⟩ := H3.out (by omega)
          subst hoa
          have hs1 := hrow k hlt
          rw [← obj_below HB.out hbb] at hs1
          have hc1 := subOf_cell hs1 (j := 0) (by decide)
          have HSk := (HS.out k hlt hlt2).below HB.out
          have hTS : (Vs.take (k + 1)).flatten = (Vs.take k).flatten ++ Vs[k] := by
            rw [take_snocV hlt2, List.flatten_append]
            simp
          have hle2 : (Vs.take k).flatten.length + Vs[k].length ≤ 1048576 := by
            have h1 := HLV.out (k + 1)
            rw [← lens_flatten, hTS, List.length_append] at h1
            exact h1
          have hbz := Nat.lt_of_lt_of_le hbb HB.out.size
          generalize S[k] = s at *
          generalize Vs[k] = xs at *
          obtain ⟨oa', cap', rfl, q1, q2, q3⟩ := HSk
          have hc2 : wr.cell? ⟨b, off + k, none⟩ = some (.slice oa' xs.length cap') := by simpa using hc1
          have HTS := Lib.hid hTS
          have HLE := Lib.hid hle2
          generalize (Vs.take k).flatten = ys at *
          have hbase := HB.out.size
          clear hrow hs1 hc1 hTS hle2
          have hx : xs = [] ∨ ∃ g o, oa' = some ⟨g, o, none⟩ ∧ ∀ j u, (xs.flatMap alL)[j]? = some u → wr.cell? ⟨g, o + j, none⟩ = some u := by
            rcases Nat.eq_zero_or_pos xs.length with h0 | h0
            · exact .inl (List.eq_nil_of_length_eq_zero h0)
            · obtain ⟨g, o, e, _, hr⟩ := q3 h0
              refine .inr ⟨g, o, e, fun j u hj => ?_⟩
              have hjl := (List.getElem?_eq_some_iff.1 hj).1
              rw [flatMap_len alL_length] at hjl
              have hj2 : j / 2 < xs.length := by omega
              have h1 := subOf_cell (hr (j / 2) hj2) (j := j % 2) (Nat.mod_lt _ (by decide))
              have h2 := flatMap_sub alL_length xs (j / 2) hj2
              have h3 : (alL xs[j / 2])[j % 2]? = some u := by
                rw [← h2, List.getElem?_take_of_lt (Nat.mod_lt _ (by decide)), List.getElem?_drop]
                rw [← hj]
                congr 1
                omega
              rw [show o + j = o + j / 2 * 2 + j % 2 by omega, h1]
              simpa using h3
          rcases hx with rfl | ⟨g, o, rfl, hcx⟩
          · clear q3
            obtain ⟨oa6, cap6, rfl, hle6, _, _⟩ := row_sub HO.out
            have HRN := fun ty => Lib.hid (run_nothing29 wr ty oa6 oa' ys.length cap6 cap' hle6)
            go_wp2_with (at_builtin; refine Lib.wpList_append_run (P := Try.prog) _ rfl _ _ 29 29 rfl _ _ rfl rfl _ _ (HRN _).out ?_)
            have HO' : Hid (wr.ownsRow w.heap.size 32 2 (.slice oa6 ys.length cap6) (Vs.take (k + 1)).flatten.length ((Vs.take (k + 1)).flatten.flatMap alL)) := Lib.hid (by rw [HTS.out, List.append_nil]; exact HO.out)
            go_roundw
            case rel => exact ⟨k + 1, by omega, by go_num, HO', HB⟩
            case measure => simp [intOf]; omega
          · have HCX := Lib.hid hcx
            clear hcx q3
            go_wp2_with (at_builtin; refine pushAll32 rfl _ _ rfl w.heap.size u6 ys.length (ys.flatMap alL) rfl HO.out g o cap' xs rfl HCX.out HLE.out hbase ?_; intro v' w' p1 p2 p3)
            have HB' : Hid (Below w.heap.size w w') := Lib.hid (HB.out.grown p2 hbase (fun j e => (HO.out.lt j e).1))
            have HO' : Hid (w'.ownsRow w.heap.size 32 2 v' (Vs.take (k + 1)).flatten.length ((Vs.take (k + 1)).flatten.flatMap alL)) := Lib.hid (by rw [HTS.out, List.length_append, List.flatMap_append]; exact p1)
            go_roundw
            case rel => exact ⟨k + 1, by omega, by go_num, HO', HB'⟩
            case measure => simp [intOf]; omega
        · have hk' : k = Vs.length := by omega
          subst hk'
          rw [List.take_length] at HO
          go_wp2
          go_ret
          exact ⟨_, rfl, HO.out, HB.out⟩
end Go.Proofs.Ytggpmepiggnnnaa
