import Derived.Test.YtmenfbfekfljbaaFew
import Derived.Test.YtmenfbfekfljbaaAgree
import Derived.Test.YtmenfbfekfljbaaStays
import Derived.Test.YtmenfbfekfljbaaPredF
namespace Go.Proofs.Ytmenfbfekfljbaa
open Go.RowKit

def blk (a b : UInt8) : FactD := ⟨0, 1, 0, 0, nameID a, nameID b, 0, 0, ⟨none, 0, 0⟩, ⟨none, 0, 0⟩⟩
def acc (n : Int) (a : UInt8) : FactD := ⟨0, 8, n, 0, nameID a, ID.zero, 0, 0, ⟨none, 0, 0⟩, ⟨none, 0, 0⟩⟩
def bfacts : List FactD := [blk 1 0, blk 2 0, blk 3 1, acc 0 3, acc 1 2]
def bfacts4 : List FactD := [blk 1 0, blk 2 0, blk 3 1, acc 0 3]
@[go_sem ↓] theorem hide_build54 (ps : Array (Nat × Value)) : Instr.build 54 ps = buildAgg 54 ps := rfl
@[go_sem ↓] theorem hide_row22 (n : Nat) (ps : Array (Nat × Value)) : Instr.buildSlice 22 n ps = buildRow 22 n ps := rfl
@[go_sem] theorem build_10 (w : World) : (buildAgg 54 #[(1, .int .i64 1), (4, .agg (idL (nameID 1)).toArray), (5, .agg (idL (nameID 0)).toArray)]).run Try.prog w = .ok (.agg (factL (blk 1 0)).toArray) w := by kernel_rfl
@[go_sem] theorem build_20 (w : World) : (buildAgg 54 #[(1, .int .i64 1), (4, .agg (idL (nameID 2)).toArray), (5, .agg (idL (nameID 0)).toArray)]).run Try.prog w = .ok (.agg (factL (blk 2 0)).toArray) w := by kernel_rfl
@[go_sem] theorem build_31 (w : World) : (buildAgg 54 #[(1, .int .i64 1), (4, .agg (idL (nameID 3)).toArray), (5, .agg (idL (nameID 1)).toArray)]).run Try.prog w = .ok (.agg (factL (blk 3 1)).toArray) w := by kernel_rfl
@[go_sem] theorem build_a3 (w : World) : (buildAgg 54 #[(1, .int .i64 8), (4, .agg (idL (nameID 3)).toArray)]).run Try.prog w = .ok (.agg (factL (acc 0 3)).toArray) w := by kernel_rfl
@[go_sem] theorem build_a2 (w : World) : (buildAgg 54 #[(1, .int .i64 8), (2, .int .i64 1), (4, .agg (idL (nameID 2)).toArray)]).run Try.prog w = .ok (.agg (factL (acc 1 2)).toArray) w := by kernel_rfl
@[go_sem] theorem build_all (w : World) : (buildRow 22 5 #[(0, .agg (factL (blk 1 0)).toArray), (1, .agg (factL (blk 2 0)).toArray), (2, .agg (factL (blk 3 1)).toArray), (3, .agg (factL (acc 0 3)).toArray), (4, .agg (factL (acc 1 2)).toArray)]).run Try.prog w =
    .ok (.slice (some ⟨w.heap.size, 0, none⟩) 5 5) (w.alloc (.cells (bfacts.flatMap factL).toArray 54)) := by kernel_rfl
theorem bf_slice {w : World} {b : Nat} (h : obj w b = some (.cells (bfacts.flatMap factL).toArray 54 (0, 0))) : SlIn w (.slice (some ⟨b, 0, none⟩) 5 5) 72 factL bfacts ∧ SlIn w (.slice (some ⟨b, 0, none⟩) 4 5) 72 factL bfacts4 := by
  have h5 : SlIn w (.slice (some ⟨b, 0, none⟩) bfacts.length bfacts.length) 72 factL bfacts := SlIn.of_cells factL_length bfacts h (by decide)
  exact ⟨h5, h5.take (n := 4) (by decide)⟩
theorem v_under : underM bfacts (nameID 3) (nameID 0) = true := by decide +kernel
theorem v_conf : conflictR bfacts (nameID 3) (nameID 2) = true := by decide +kernel
theorem v_agree : agreeR bfacts = false := by decide +kernel
theorem v_agree4 : agreeR bfacts4 = true := by decide +kernel
theorem v_line : lineM bfacts 1 = [nameID 2] := by decide +kernel
theorem v_rest : bfacts.any (restB 0) = false := by decide +kernel
theorem v_stays : (!bfacts4.any (badS bfacts4 0 (nameID 1))) = true := by decide +kernel

set_option maxRecDepth 100000 in
set_option maxHeartbeats 8000000 in
theorem begun_any (w : World) : Calls Try.prog 10 #[] w fun e w' => e = .returned (.bool true) ∧ Below w.heap.size w w' := by
  go_enter Try.func10, Try.ntmps10
  go_wp2_with fail
  refine (name_1 _).mono ?_
  rintro e w1 ⟨rfl, h1⟩
  go_wp2_with fail
  refine (name_0 _).mono ?_
  rintro e w2 ⟨rfl, h2⟩
  replace h2 := h1.trans (h2.mono h1.size)
  clear h1
  go_wp2_with fail
  refine (name_2 _).mono ?_
  rintro e w3 ⟨rfl, h3⟩
  replace h3 := h2.trans (h3.mono h2.size)
  clear h2
  go_wp2_with fail
  refine (name_0 _).mono ?_
  rintro e w4 ⟨rfl, h4⟩
  replace h4 := h3.trans (h4.mono h3.size)
  clear h3
  go_wp2_with fail
  refine (name_3 _).mono ?_
  rintro e w5 ⟨rfl, h5⟩
  replace h5 := h4.trans (h5.mono h4.size)
  clear h4
  go_wp2_with fail
  refine (name_1 _).mono ?_
  rintro e w6 ⟨rfl, h6⟩
  replace h6 := h5.trans (h6.mono h5.size)
  clear h5
  go_wp2_with fail
  refine (name_3 _).mono ?_
  rintro e w7 ⟨rfl, h7⟩
  replace h7 := h6.trans (h7.mono h6.size)
  clear h6
  go_wp2_with fail
  refine (name_2 _).mono ?_
  rintro e w8 ⟨rfl, h8⟩
  replace h8 := h7.trans (h8.mono h7.size)
  clear h7
  go_wp2_with fail
  have ho : obj (w8.alloc (.cells (bfacts.flatMap factL).toArray 54)) w8.heap.size = some (.cells (bfacts.flatMap factL).toArray 54 (0, 0)) := obj_alloc_at _ _ _ rfl
  have hb : Below w.heap.size w (w8.alloc (.cells (bfacts.flatMap factL).toArray 54)) := h8.alloc h8.size _
  generalize w8.alloc (.cells (bfacts.flatMap factL).toArray 54) = w9 at *
  generalize w8.heap.size = b at *
  obtain ⟨s5, s4⟩ := bf_slice ho
  have U := Lib.hid fun W (hW : Below w9.heap.size w9 W) => judge_under_any W _ bfacts (nameID 3) (nameID 0) (s5.below hW) (by decide)
  have C := Lib.hid fun W (hW : Below w9.heap.size w9 W) => judge_conflict_any W _ bfacts (nameID 3) (nameID 2) (s5.below hW) (by decide)
  have A := Lib.hid fun W (hW : Below w9.heap.size w9 W) => agree_any W _ bfacts (s5.below hW) (by decide)
  have A4 := Lib.hid fun W (hW : Below w9.heap.size w9 W) => agree_any W _ bfacts4 (s4.below hW) (by decide)
  have L := Lib.hid fun W (hW : Below w9.heap.size w9 W) => line_any W _ bfacts 1 (s5.below hW) (by decide)
  have R := Lib.hid fun W (hW : Below w9.heap.size w9 W) => restarts_any W _ bfacts 0 (s5.below hW)
  have S := Lib.hid fun W (hW : Below w9.heap.size w9 W) => stays_any W _ bfacts4 0 (nameID 1) (s4.below hW) (by decide)
  rw [v_under] at U
  rw [v_conf] at C
  rw [v_agree] at A
  rw [v_agree4] at A4
  rw [v_line] at L
  rw [v_rest] at R
  rw [v_stays] at S
  clear s5 s4 ho h8
  have hsz := hb.size
  go_region_held3 (fun W => Below w9.heap.size w9 W)
    (first | exact (Below.refl _ _).drew | assumption | exact Below.alloc (by assumption) (Below.size (by assumption)) _)
    (first
      | (go_at_call 40; (with_reducible refine (name_3 _).mono ?_); rintro _ wA ⟨rfl, hA⟩; have hA' : Below w9.heap.size w9 wA := Below.trans (by assumption) (hA.mono (Below.size (by assumption))); (try have hOL2 := OwnS.below hOL hA); clear hA)
      | (go_at_call 40; (with_reducible refine (name_0 _).mono ?_); rintro _ wA ⟨rfl, hA⟩; have hA' : Below w9.heap.size w9 wA := Below.trans (by assumption) (hA.mono (Below.size (by assumption))); (try have hOL2 := OwnS.below hOL hA); clear hA)
      | (go_at_call 40; (with_reducible refine (name_2 _).mono ?_); rintro _ wA ⟨rfl, hA⟩; have hA' : Below w9.heap.size w9 wA := Below.trans (by assumption) (hA.mono (Below.size (by assumption))); (try have hOL2 := OwnS.below hOL hA); clear hA)
      | (go_at_call 40; (with_reducible refine (name_1 _).mono ?_); rintro _ wA ⟨rfl, hA⟩; have hA' : Below w9.heap.size w9 wA := Below.trans (by assumption) (hA.mono (Below.size (by assumption))); (try have hOL2 := OwnS.below hOL hA); clear hA)
      | (go_at_call 17; (with_reducible refine (U.out _ (by assumption)).mono ?_); rintro _ wA ⟨rfl, hA⟩; have hA' : Below w9.heap.size w9 wA := Below.trans (by assumption) (hA.mono (Below.size (by assumption))); clear hA)
      | (go_at_call 18; (with_reducible refine (C.out _ (by assumption)).mono ?_); rintro _ wA ⟨rfl, hA⟩; have hA' : Below w9.heap.size w9 wA := Below.trans (by assumption) (hA.mono (Below.size (by assumption))); clear hA)
      | (go_at_call 15; (with_reducible refine (A.out _ (by assumption)).mono ?_); rintro _ wA ⟨rfl, hA⟩; have hA' : Below w9.heap.size w9 wA := Below.trans (by assumption) (hA.mono (Below.size (by assumption))); clear hA)
      | (go_at_call 15; (with_reducible refine (A4.out _ (by assumption)).mono ?_); rintro _ wA ⟨rfl, hA⟩; have hA' : Below w9.heap.size w9 wA := Below.trans (by assumption) (hA.mono (Below.size (by assumption))); clear hA)
      | (go_at_call 32; (with_reducible refine (R.out _ (by assumption)).mono ?_); rintro _ wA ⟨rfl, hA⟩; have hA' : Below w9.heap.size w9 wA := Below.trans (by assumption) (hA.mono (Below.size (by assumption))); clear hA)
      | (go_at_call 28; (with_reducible refine (S.out _ (by assumption)).mono ?_); rintro _ wA ⟨rfl, hA⟩; have hA' : Below w9.heap.size w9 wA := Below.trans (by assumption) (hA.mono (Below.size (by assumption))); clear hA)
      | (go_at_call 13; (with_reducible refine (L.out _ (by assumption)).mono ?_); rintro _ wA ⟨vL, rfl, hOL, hA⟩; have hA' : Below w9.heap.size w9 wA := Below.trans (by assumption) (hA.mono (Below.size (by assumption))); clear hA)
      | (go_at_call 12; (with_reducible refine (equal_any _ _ _ [nameID 2] [nameID 2] ((OwnS.alloc hOL2 _).slIn idL_length) (SlIn.one (E := 45) (fr := (0, 0)) idL_length (nameID 2) (obj_alloc_at _ _ _ rfl))).mono ?_); rintro _ wA ⟨rfl, hA⟩; have hA' : Below w9.heap.size w9 wA := Below.trans (by assumption) (hA.mono (Below.size (by assumption))); clear hA))
  go_wp2
  go_ret
  exact ⟨rfl, hb.trans (hA'.mono hsz)⟩
end Go.Proofs.Ytmenfbfekfljbaa
