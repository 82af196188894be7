import Derived.Test.YtiknonljdibfgaaAllWays
import Derived.Test.YtiknonljdibfgaaLive
namespace Go.Proofs.Ytiknonljdibfgaa
open Go.RowKit Go.Shelf

/-- a row of seats of the law's own: its blocks from a place on, a number in each Until -/
def RowOk (B : Nat) (W : World) (u : Value) (n : Nat) : Prop :=
  ∃ oa cap, u = .slice oa n cap ∧ n ≤ cap ∧ cap ≤ maxLen ∧ (0 < n → ∃ g cur, oa = some ⟨g, 0, none⟩ ∧ B ≤ g ∧ obj W g = some (.cells cur 50 (0, 0)) ∧ cur.size = cap * 3 ∧ ∀ j, j < n → ∃ x : Int, cur[j * 3 + 2]? = some (.int .i64 x))
theorem rowOk_of {W : World} {B : Nat} {u : Value} {xs : List St} (h : OwnS W B 50 3 stL u xs) : RowOk B W u xs.length := by
  rcases h.1.2 with ⟨rfl, h0⟩ | ⟨g, cap, cur, rfl, hg, ho, h1, h2, h3, h4⟩
  · exact ⟨none, 0, by rw [h0], by omega, Nat.zero_le _, fun h => by omega⟩
  · refine ⟨_, cap, rfl, h1, h2, fun _ => ⟨g, cur, rfl, hg, ho, h3, fun j hj => ⟨xs[j].u, ?_⟩⟩⟩
    have := flatMap_getD stL_length xs j 2 hj (by decide)
    rw [← Array.getElem?_toList, ← List.getElem?_take_of_lt (show j * 3 + 2 < xs.length * 3 by omega), h4, this]; rfl
theorem RowOk.alloc {W : World} {B : Nat} {u : Value} {n : Nat} (h : RowOk B W u n) (o : Obj) : RowOk B (W.alloc o) u n := by
  obtain ⟨oa, cap, h1, h2, h3, h4⟩ := h
  refine ⟨oa, cap, h1, h2, h3, fun hn => ?_⟩
  obtain ⟨g, cur, e, hg, ho, hs⟩ := h4 hn
  exact ⟨g, cur, e, hg, (obj_alloc_past _ _ _ (lt_of_obj ho)).trans ho, hs⟩
theorem RowOk.set {W : World} {B : Nat} {u : Value} {n : Nat} (h : RowOk B W u n) (g' j' : Nat) (x : Int) : RowOk B (W.setCell ⟨g', j' * 3 + 2, none⟩ (.int .i64 x)) u n := by
  obtain ⟨oa, cap, h1, h2, h3, h4⟩ := h
  refine ⟨oa, cap, h1, h2, h3, fun hn => ?_⟩
  obtain ⟨g, cur, e, hg, ho, hs, hc⟩ := h4 hn
  by_cases he : g = g'
  · subst he
    refine ⟨g, _, e, hg, obj_setCell_at _ ho, by simpa using hs, fun j hj => ?_⟩
    by_cases hj' : j' * 3 + 2 = j * 3 + 2
    · obtain ⟨y, hy⟩ := hc j hj
      refine ⟨x, ?_⟩
      rw [hj', Array.getElem?_setIfInBounds_self_of_lt (Array.getElem?_eq_some_iff.1 hy).1]
    · rw [Array.getElem?_setIfInBounds_ne hj']; exact hc j hj
  · exact ⟨g, cur, e, hg, (obj_setCell_ne _ ⟨g', j' * 3 + 2, none⟩ _ _ he).trans ho, hs, hc⟩
set_option maxRecDepth 100000 in
set_option maxHeartbeats 2000000 in
theorem goesLaw_any (w : World) (r : Rul) (v1 v2 : Value) (l : List Vd) (s : List St) (i now : Int) (h : SlIn w v1 2 vdL l) (h2 : SlIn w v2 3 stL s) (hde : r.de < 9223372036854775808) (hW : ∀ x ∈ s, (Lit.int .i64 x.f).wf = true ∧ (Lit.int .i64 x.s).wf = true ∧ (Lit.int .i64 x.u).wf = true) :
    Calls Try.prog 6 #[ruV r, v1, v2, .int .i64 i, .int .i64 now] w fun e w' => e = .returned (.bool true) ∧ Below w.heap.size w w' := by
  have HS := Lib.hid h
  have HS2 := Lib.hid h2
  have b1 : Below w.heap.size w (w.alloc (.cells (ruC r) 23)) := (Below.refl _ _).alloc (Nat.le_refl _) _
  have o1 : obj (w.alloc (.cells (ruC r) 23)) w.heap.size = some (.cells (ruC r) 23 (0, 0)) := obj_alloc_at _ _ _ rfl
  obtain ⟨oa, cap, rfl, g1, g2, g3⟩ := h
  unfold maxLen at g2
  obtain ⟨oa2, cap2, rfl, k1, k2, k3⟩ := h2
  unfold maxLen at k2
  have HL := Lib.hid (live_any (w.alloc (.cells (ruC r) 23)))
  have HLL := Lib.hid live_any
  have B1 := Lib.hid b1
  have O1 := Lib.hid o1
  have HF := Lib.hid (fun W (hb : Below w.heap.size w W) => few_any W _ l oa2 s.length cap2 (HS.out.below hb))
  clear g3 k3 b1 o1
  simp only [ruV, ruC] at *
  go_enter Try.func6, Try.ntmps6
  go_wp2_with fail
  generalize w.alloc (.cells #[.int .i64 r.f, .int .i64 r.lo, .int .i64 r.fo, .int .i64 r.nu, .int .i64 r.de] 23) = w1 at *
  refine HL.out.mono ?_
  rintro e w2 ⟨rfl, b2⟩
  have B2 := Lib.hid (B1.out.trans (b2.mono B1.out.size))
  have O2 := Lib.hid ((obj_below b2 (lt_of_obj O1.out)).trans O1.out)
  clear b2 B1 O1
  go_wp2_with fail
  refine (HF.out w2 B2.out).mono ?_
  rintro e w3 ⟨rfl, b3⟩
  have B3 := Lib.hid (B2.out.trans (b3.mono B2.out.size))
  have O3 := Lib.hid ((obj_below b3 (lt_of_obj O2.out)).trans O2.out)
  clear b3 B2 O2 HF HL
  cases hfw : fewB l s.length with
  | false =>
    clear hfw
    go_wp2_with fail
    refine (HLL.out w3).mono ?_
    rintro e w4 ⟨rfl, b4⟩
    go_wp2
    go_ret
    exact ⟨rfl, B3.out.trans (b4.mono B3.out.size)⟩
  | true =>
    obtain ⟨hN, hl50, hs50⟩ := fewB_t hfw
    have HNN := Lib.hid hN
    have HDE := Lib.hid hde
    have HCL := Lib.hid (clone_all w3 _ s (HS2.out.below B3.out) (by omega))
    have HA := Lib.hid (fun W (hb : Below w.heap.size w W) => failedA_all W r _ _ l s i now (HS.out.below hb) (HS2.out.below hb) HDE.out)
    have HB := Lib.hid (fun W (hb : Below w.heap.size w W) => failedR_all W r _ _ l s i now (HS.out.below hb) (HS2.out.below hb) HNN.out HDE.out)
    have HC := Lib.hid (fun W (hb : Below w.heap.size w W) => repliedA_all W r _ _ l s i (HS.out.below hb) (HS2.out.below hb))
    have HD := Lib.hid (fun W (hb : Below w.heap.size w W) => repliedR_all W r _ _ l s i (HS.out.below hb) (HS2.out.below hb) HNN.out)
    simp only [ruV] at HA HB HC HD
    clear hfw hl50 hs50 hN hde hW
    go_wp2_with fail
    refine HCL.out.mono ?_
    rintro e w4 ⟨oaw, capw, rfl, sw, hbw, b4⟩
    have B4 := Lib.hid (B3.out.trans (b4.mono B3.out.size))
    have O4 := Lib.hid ((obj_below b4 (lt_of_obj O3.out)).trans O3.out)
    have SW := Lib.hid sw
    have BW := Lib.hid B4.out
    clear sw b4 B3 O3 HCL
    generalize fS r l s i now = fs at *
    generalize fB r l s i now = fb at *
    generalize fE r l s i now = fe at *
    generalize pS r l s i = ps at *
    generalize pE r l s i = pe at *
    have c0 : w4.cell? ⟨w.heap.size, 0, none⟩ = some (.int .i64 r.f) := cell_at O4.out 0
    have c1 : w4.cell? ⟨w.heap.size, 1, none⟩ = some (.int .i64 r.lo) := cell_at O4.out 1
    have c2 : w4.cell? ⟨w.heap.size, 2, none⟩ = some (.int .i64 r.fo) := cell_at O4.out 2
    have c3 : w4.cell? ⟨w.heap.size, 3, none⟩ = some (.int .i64 r.nu) := cell_at O4.out 3
    have c4 : w4.cell? ⟨w.heap.size, 4, none⟩ = some (.int .i64 r.de) := cell_at O4.out 4
    go_wp2_with fail
    refine (HA.out w4 B4.out).mono ?_
    rintro e w5 ⟨va, rfl, q5, b5⟩
    have B5 := Lib.hid (B4.out.trans (b5.mono B4.out.size))
    have O5 := Lib.hid ((obj_below b5 (lt_of_obj O4.out)).trans O4.out)
    have K5 : Hid (Below w4.heap.size w4 w5) := Lib.hid (b5)
    have Q5 := Lib.hid (q5.rebase (Nat.le_refl _))
    clear b5 q5 c0 c1 c2 c3 c4 B4 O4 HA
    have c0 : w5.cell? ⟨w.heap.size, 0, none⟩ = some (.int .i64 r.f) := cell_at O5.out 0
    have c1 : w5.cell? ⟨w.heap.size, 1, none⟩ = some (.int .i64 r.lo) := cell_at O5.out 1
    have c2 : w5.cell? ⟨w.heap.size, 2, none⟩ = some (.int .i64 r.fo) := cell_at O5.out 2
    have c3 : w5.cell? ⟨w.heap.size, 3, none⟩ = some (.int .i64 r.nu) := cell_at O5.out 3
    have c4 : w5.cell? ⟨w.heap.size, 4, none⟩ = some (.int .i64 r.de) := cell_at O5.out 4
    go_wp2_with fail
    refine (HB.out w5 B5.out).mono ?_
    rintro e w6 ⟨vb, rfl, q6, b6⟩
    have B6 := Lib.hid (B5.out.trans (b6.mono B5.out.size))
    have O6 := Lib.hid ((obj_below b6 (lt_of_obj O5.out)).trans O5.out)
    have K6 : Hid (Below w4.heap.size w4 w6) := Lib.hid (K5.out.trans (b6.mono K5.out.size))
    have Q6 := Lib.hid (q6.rebase K5.out.size)
    have Q5 := Lib.hid (Q5.out.below b6)
    clear b6 q6 c0 c1 c2 c3 c4 B5 O5 HB
    clear K5
    have c0 : w6.cell? ⟨w.heap.size, 0, none⟩ = some (.int .i64 r.f) := cell_at O6.out 0
    have c1 : w6.cell? ⟨w.heap.size, 1, none⟩ = some (.int .i64 r.lo) := cell_at O6.out 1
    have c2 : w6.cell? ⟨w.heap.size, 2, none⟩ = some (.int .i64 r.fo) := cell_at O6.out 2
    have c3 : w6.cell? ⟨w.heap.size, 3, none⟩ = some (.int .i64 r.nu) := cell_at O6.out 3
    have c4 : w6.cell? ⟨w.heap.size, 4, none⟩ = some (.int .i64 r.de) := cell_at O6.out 4
    go_wp2_with fail
    refine (HC.out w6 B6.out).mono ?_
    rintro e w7 ⟨vc, rfl, q7, b7⟩
    have B7 := Lib.hid (B6.out.trans (b7.mono B6.out.size))
    have O7 := Lib.hid ((obj_below b7 (lt_of_obj O6.out)).trans O6.out)
    have K7 : Hid (Below w4.heap.size w4 w7) := Lib.hid (K6.out.trans (b7.mono K6.out.size))
    have Q7 := Lib.hid (q7.rebase K6.out.size)
    have Q5 := Lib.hid (Q5.out.below b7)
    have Q6 := Lib.hid (Q6.out.below b7)
    clear b7 q7 c0 c1 c2 c3 c4 B6 O6 HC
    clear K6
    have c0 : w7.cell? ⟨w.heap.size, 0, none⟩ = some (.int .i64 r.f) := cell_at O7.out 0
    have c1 : w7.cell? ⟨w.heap.size, 1, none⟩ = some (.int .i64 r.lo) := cell_at O7.out 1
    have c2 : w7.cell? ⟨w.heap.size, 2, none⟩ = some (.int .i64 r.fo) := cell_at O7.out 2
    have c3 : w7.cell? ⟨w.heap.size, 3, none⟩ = some (.int .i64 r.nu) := cell_at O7.out 3
    have c4 : w7.cell? ⟨w.heap.size, 4, none⟩ = some (.int .i64 r.de) := cell_at O7.out 4
    go_wp2_with fail
    refine (HD.out w7 B7.out).mono ?_
    rintro e w8 ⟨vd, rfl, q8, b8⟩
    have B8 := Lib.hid (B7.out.trans (b8.mono B7.out.size))
    have O8 := Lib.hid ((obj_below b8 (lt_of_obj O7.out)).trans O7.out)
    have K8 : Hid (Below w4.heap.size w4 w8) := Lib.hid (K7.out.trans (b8.mono K7.out.size))
    have Q8 := Lib.hid (q8.rebase K7.out.size)
    have Q5 := Lib.hid (Q5.out.below b8)
    have Q6 := Lib.hid (Q6.out.below b8)
    have Q7 := Lib.hid (Q7.out.below b8)
    clear b8 q8 c0 c1 c2 c3 c4 B7 O7 HD
    clear K7
    have HE1 := Lib.hid (equalS w8 _ _ _ _ (Q5.out.slIn stL_length) (Q6.out.slIn stL_length))
    rw [decide_eq_true rfl] at HE1
    go_wp2_with fail
    refine HE1.out.mono ?_
    rintro e w9 ⟨rfl, b9⟩
    have K9 := Lib.hid (K8.out.trans (b9.mono K8.out.size))
    have Q5 := Lib.hid (Q5.out.below b9)
    have Q7 := Lib.hid (Q7.out.below b9)
    have Q8 := Lib.hid (Q8.out.below b9)
    clear b9 K8 Q6 HE1 O8
    have HE2 := Lib.hid (equalS w9 _ _ _ _ (Q7.out.slIn stL_length) (Q8.out.slIn stL_length))
    rw [decide_eq_true rfl] at HE2
    have eb1 : (fb != fb) = false := by simp
    have eb2 : (fb == fb) = true := by simp
    have eb3 : (fe == fe) = true := by simp
    have eb4 : (pe == pe) = true := by simp
    go_wp2_with fail
    refine HE2.out.mono ?_
    rintro e w10 ⟨rfl, b10⟩
    have K10 := Lib.hid (K9.out.trans (b10.mono K9.out.size))
    have R5 := Lib.hid (rowOk_of (Q5.out.below b10))
    have R7 := Lib.hid (rowOk_of (Q7.out.below b10))
    clear b10 K9 HE2 Q5 Q7 Q8
    obtain ⟨oa5, cp5, rfl, _⟩ := R5.out
    obtain ⟨oa7, cp7, rfl, _⟩ := R7.out
    have hbr : (Instr.buildSlice 59 2 #[(0, .slice oa5 fs.length cp5), (1, .slice oa7 ps.length cp7)]).run Try.prog w10 = .ok (.slice (some ⟨w10.heap.size, 0, none⟩) 2 2) (w10.alloc (.cells #[.slice oa5 fs.length cp5, .slice oa7 ps.length cp7] 31)) := by kernel_rfl
    go_wp2
    have hb11 : Below w4.heap.size w4 (w10.alloc (.cells #[.slice oa5 fs.length cp5, .slice oa7 ps.length cp7] 31)) := K10.out.alloc K10.out.size _
    have o11 : obj (w10.alloc (.cells #[.slice oa5 fs.length cp5, .slice oa7 ps.length cp7] 31)) w10.heap.size = some (.cells #[.slice oa5 fs.length cp5, .slice oa7 ps.length cp7] 31 (0, 0)) := obj_alloc_at _ _ _ rfl
    have R5' := Lib.hid (R5.out.alloc (.cells #[.slice oa5 fs.length cp5, .slice oa7 ps.length cp7] 31))
    have R7' := Lib.hid (R7.out.alloc (.cells #[.slice oa5 fs.length cp5, .slice oa7 ps.length cp7] 31))
    generalize w10.alloc (.cells #[.slice oa5 fs.length cp5, .slice oa7 ps.length cp7] 31) = w11 at *
    generalize w10.heap.size = lb at *
    have K11 := Lib.hid hb11
    have O11 := Lib.hid o11
    clear hb11 o11 R5 R7 K10 hbr
    generalize hna : fs.length = na at *
    generalize hnc : ps.length = nc at *
    clear hna hnc
    go_loopw [101] (fun v101 wr => ∃ k : Nat, k ≤ 2 ∧ v101 = .int .i64 k ∧ Hid (Below w4.heap.size w4 wr) ∧ Hid (RowOk w4.heap.size wr (.slice oa5 na cp5) na) ∧ Hid (RowOk w4.heap.size wr (.slice oa7 nc cp7) nc) ∧ Hid (obj wr lb = some (.cells #[.slice oa5 na cp5, .slice oa7 nc cp7] 31 (0, 0)))) (fun i _ => 2 - (intOf i).toNat)
    case atStart => exact ⟨0, Nat.zero_le _, rfl, K11, R5', R7', O11⟩
    case round =>
      obtain ⟨k, hk, rfl, HK, HR5, HR7, HO⟩ := hrel
      clear K11 R5' R7' O11
      by_cases hlt : k < 2
      · obtain ⟨oz, nz, cz, hz, HZ⟩ : ∃ oz nz cz, wr.cell? ⟨lb, k, none⟩ = some (.slice oz nz cz) ∧ Hid (∀ W, RowOk w4.heap.size W (.slice oa5 na cp5) na → RowOk w4.heap.size W (.slice oa7 nc cp7) nc → RowOk w4.heap.size W (.slice oz nz cz) nz) := by
          have hh : k = 0 ∨ k = 1 := by omega
          rcases hh with rfl | rfl
          · exact ⟨oa5, na, cp5, cell_at HO.out 0, Lib.hid (fun W h _ => h)⟩
          · exact ⟨oa7, nc, cp7, cell_at HO.out 1, Lib.hid (fun W _ h => h)⟩
        have hk2 : (k : Int) < 2 := by omega
        have hzl := lt_of_obj HO.out
        obtain ⟨_, _, ez, hz1, hz2, _⟩ := HZ.out wr HR5.out HR7.out
        simp only [Value.slice.injEq, true_and] at ez
        obtain ⟨ez1, ez2⟩ := ez
        subst ez1 ez2
        unfold maxLen at hz2
        go_wp2
        generalize wr = wo at *
        go_loopw [107] (fun v107 wr => ∃ j : Nat, j ≤ nz ∧ v107 = .int .i64 j ∧ Hid (Below w4.heap.size w4 wr) ∧ Hid (RowOk w4.heap.size wr (.slice oa5 na cp5) na) ∧ Hid (RowOk w4.heap.size wr (.slice oa7 nc cp7) nc) ∧ Hid (obj wr lb = some (.cells #[.slice oa5 na cp5, .slice oa7 nc cp7] 31 (0, 0)))) (fun i _ => nz - (intOf i).toNat)
        case atStart => exact ⟨0, Nat.zero_le _, rfl, HK, HR5, HR7, HO⟩
        case round =>
          obtain ⟨j, hj, rfl, HK2, HR52, HR72, HO2⟩ := hrel
          clear HK HR5 HR7 HO
          by_cases hjlt : j < nz
          · obtain ⟨oz', cz', ez, _, _, hrow⟩ := HZ.out wr HR52.out HR72.out
            simp only [Value.slice.injEq, true_and] at ez
            obtain ⟨ez1, ez2⟩ := ez
            subst ez1 ez2
            obtain ⟨g, cur, eo, hgB, hog, hcs, hcc⟩ := hrow (by omega)
            subst eo
            obtain ⟨x, hx⟩ := hcc j hjlt
            have cx : wr.cell? ⟨g, j * 3 + 2, none⟩ = some (.int .i64 x) := by rw [cell_at hog]; exact hx
            have fx : ∀ j, wr.frozen? ⟨g, j, none⟩ = false := frozen_at hog
            have zg := lt_of_obj hog
            have hlg : lb ≠ g := fun e => by
              rw [← e, HO2.out] at hog
              injection hog with h
              injection h with _ h _
              exact absurd h (by decide)
            have FIN : Hid (∀ y : Int, Below w4.heap.size w4 (wr.setCell ⟨g, j * 3 + 2, none⟩ (.int .i64 y)) ∧ RowOk w4.heap.size (wr.setCell ⟨g, j * 3 + 2, none⟩ (.int .i64 y)) (.slice oa5 na cp5) na ∧ RowOk w4.heap.size (wr.setCell ⟨g, j * 3 + 2, none⟩ (.int .i64 y)) (.slice oa7 nc cp7) nc ∧ obj (wr.setCell ⟨g, j * 3 + 2, none⟩ (.int .i64 y)) lb = some (.cells #[.slice oa5 na cp5, .slice oa7 nc cp7] 31 (0, 0))) := Lib.hid (fun y => ⟨HK2.out.setCell hgB _, HR52.out.set g j y, HR72.out.set g j y, (obj_setCell_ne _ ⟨g, j * 3 + 2, none⟩ _ _ hlg).trans HO2.out⟩)
            have hj' : (j : Int) < (nz : Int) := by omega
            clear HK2 HR52 HR72 HO2 hrow hcc hog hcs hx HZ
            go_wp2
            go_roundw
            case rel => exact ⟨j + 1, by omega, by go_num, Lib.hid (FIN.out _).1, Lib.hid (FIN.out _).2.1, Lib.hid (FIN.out _).2.2.1, Lib.hid (FIN.out _).2.2.2⟩
            case measure => simp [intOf]; omega
          · have hj' : ¬ (j : Int) < (nz : Int) := by omega
            go_wp2
            go_roundw
            case rel => exact ⟨k + 1, by omega, by go_num, HK2, HR52, HR72, HO2⟩
            case measure => simp [intOf]; omega
      · have hk2 : ¬ (k : Int) < 2 := by omega
        have hbw : Below w.heap.size w wr := BW.out.trans (HK.out.mono BW.out.size)
        have HEE := Lib.hid (equalS wr _ _ s s (HS2.out.below hbw) (SW.out.below HK.out))
        rw [decide_eq_true rfl] at HEE
        have HBW := Lib.hid hbw
        clear hbw
        go_wp2_with fail
        refine HEE.out.mono ?_
        rintro e we ⟨rfl, be⟩
        go_wp2
        go_ret
        exact ⟨rfl, HBW.out.trans (be.mono HBW.out.size)⟩
end Go.Proofs.Ytiknonljdibfgaa
