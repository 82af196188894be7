import Derived.Test.YtggpmepiggnnnaaAll
import Derived.Test.YtggpmepiggnnnaaTold
import Derived.Test.YtggpmepiggnnnaaConcat
import Derived.Test.YtggpmepiggnnnaaBegun
import Derived.Deep.RegionHeld3
namespace Go.Proofs.Ytggpmepiggnnnaa
open Go.RowKit

theorem dueL_le {now : Int} : ∀ {W : List Al} {a : Al}, a ∈ dueL now W → a.1 ≤ now
  | [], _, h => by cases h
  | b :: r, a, h => by
    unfold dueL at h
    split at h
    · cases h
    · rcases List.mem_cons.1 h with rfl | h
      · omega
      · exact dueL_le h
theorem leftL_sub {now : Int} : ∀ (W : List Al), (leftL now W).Sublist W
  | [] => List.Sublist.refl _
  | b :: r => by
    unfold leftL
    split
    · exact List.Sublist.refl _
    · exact (leftL_sub r).cons _
theorem leftL_gt {now : Int} : ∀ {W : List Al}, SortedL W → ∀ a ∈ leftL now W, now < a.1
  | [], _, _, h => by cases h
  | b :: r, hs, a, h => by
    have hp := List.pairwise_cons.1 hs
    unfold leftL at h
    split at h
    · rcases List.mem_cons.1 h with rfl | h
      · assumption
      · have := hp.1 a h
        rw [alLt_iff] at this
        omega
    · exact leftL_gt hp.2 a h
theorem due_two {now t : Int} (h : now ≤ t) : ∀ W : List Al, dueL now W ++ dueL t (leftL now W) = dueL t W ∧ leftL t (leftL now W) = leftL t W
  | [] => ⟨rfl, rfl⟩
  | b :: r => by
    obtain ⟨h1, h2⟩ := due_two h r
    by_cases hb : now < b.1
    · have e1 : dueL now (b :: r) = [] := if_pos hb
      have e2 : leftL now (b :: r) = b :: r := if_pos hb
      rw [e1, e2]
      exact ⟨rfl, rfl⟩
    · have e1 : dueL now (b :: r) = b :: dueL now r := if_neg hb
      have e2 : leftL now (b :: r) = leftL now r := if_neg hb
      have e3 : dueL t (b :: r) = b :: dueL t r := if_neg (by omega)
      have e4 : leftL t (b :: r) = leftL t r := if_neg (by omega)
      rw [e1, e2, e3, e4, List.cons_append, h1, h2]
      exact ⟨rfl, rfl⟩
theorem due_left_len (now : Int) (W : List Al) : (dueL now W).length + (leftL now W).length = W.length := by
  rw [← List.length_append, due_left]
theorem run_pair81 (oa ob : Option Addr) (la ca lb cb : Nat) (w : World) : (Instr.buildSlice 81 2 #[(0, .slice oa la ca), (1, .slice ob lb cb)]).run Try.prog w = .ok (.slice (some ⟨w.heap.size, 0, none⟩) 2 2) (w.alloc (.cells #[.slice oa la ca, .slice ob lb cb] 29)) := by kernel_rfl
/-- told of what All hands back -/
theorem told_all {w w2 : World} {lb : Nat} {v : Value} {W : List Al} (hV : ValAt 29 2 alL (fun k => k < w.heap.size) w lb v W) (hb : Below w.heap.size w w2) (hlen : W.length ≤ 4096) (most : Int) :
    Calls Try.prog 20 #[.func (.func 41) #[] #[.pointer (some ⟨lb, 0, none⟩)], .int .i64 most] w2 (RetOwn w2 32 2 alL (W.take most.toNat)) :=
  told_any w2 w 41 #[.pointer (some ⟨lb, 0, none⟩)] W (fun k hk => hk) eg41 (all_seq 4 (by decide) (fun k hk => hk) hV) (Agree.of_below (fun k hk => hk) hb) (by omega) most
set_option maxRecDepth 100000 in
set_option maxHeartbeats 4000000 in
theorem dueLaw_any (w : World) (v1 : Value) (xs : List Al) (now more : Int) (h1 : SlIn w v1 2 alL xs) (hn1 : -9223372036854775808 ≤ now) (hm : 0 ≤ more ∧ more ≤ 4294967295) :
    Calls Try.prog 5 #[v1, .int .i64 now, .int .u32 more] w fun e w' => e = .returned (.bool true) ∧ Below w.heap.size w w' := by
  have HB := Lib.hid (begun_any w)
  obtain ⟨oa, cap, rfl, g1, g2, g3⟩ := h1
  unfold maxLen at g2
  have H3 := Lib.hid g3
  clear g3
  by_cases hbig : xs.length ≤ 100 ∧ now ≤ 1152921504606846976
  · obtain ⟨hx100, hnow⟩ := hbig
    have d100 : decide ((100 : Int) < (xs.length : Int)) = false := by simp; omega
    have dnow : decide ((1152921504606846976 : Int) < now) = false := by simp; omega
    go_enter Try.func5, Try.ntmps5
    go_wp2_with fail
    refine HB.out.mono ?_
    rintro e w1 ⟨rfl, b1⟩
    have B1 := Lib.hid b1
    clear b1
    have HN1 := Lib.hid (new_hp w1)
    go_wp2_with fail
    refine HN1.out.mono ?_
    rintro e w2 ⟨rfl, hp2, b2⟩
    have HN2 := Lib.hid (new_hp w2)
    have X2 := Lib.hid hp2
    have B2 := Lib.hid (B1.out.trans (b2.mono B1.out.size))
    clear b2 hp2
    go_wp2_with fail
    refine HN2.out.mono ?_
    rintro e w3 ⟨rfl, hp3, b3⟩
    have B3 := Lib.hid (B2.out.trans (b3.mono B2.out.size))
    have st0 : Hid (∃ (W : List Al) (F G : Nat → Prop), Hp w3 F (w1.heap.size + 1) W ∧ Hp w3 G (w2.heap.size + 1) W ∧ (∀ n, F n → ¬ G n) ∧ (∀ n, F n → w.heap.size ≤ n) ∧ (∀ n, G n → w.heap.size ≤ n)) := Lib.hid (by
      have hz1 := B1.out.size
      have hz2 := B2.out.size
      refine ⟨[], _, _, X2.out.below b3, hp3, fun n h1 h2 => ?_, fun n h1 => by rcases h1 with rfl | rfl <;> omega, fun n h1 => by rcases h1 with rfl | rfl <;> omega⟩
      have := X2.out.old n h1
      rcases h2 with rfl | rfl <;> omega)
    clear b3 hp3
    generalize w1.heap.size + 1 = hx at *
    generalize w2.heap.size + 1 = hy at *
    clear HN1 HN2 X2
    go_wp2
    go_loopw [40] (fun v40 wr => ∃ k : Nat, k ≤ xs.length ∧ v40 = .int .i64 k ∧ Hid (∃ (W : List Al) (F G : Nat → Prop), Hp wr F hx W ∧ Hp wr G hy W ∧ (∀ n, F n → ¬ G n) ∧ (∀ n, F n → w.heap.size ≤ n) ∧ (∀ n, G n → w.heap.size ≤ n)) ∧ Hid (Below w.heap.size w wr)) (fun i _ => xs.length - (intOf i).toNat)
    case atStart => exact ⟨0, Nat.zero_le _, rfl, st0, B3⟩
    case round =>
      obtain ⟨k, hk, rfl, HS, HBr⟩ := hrel
      by_cases hlt : k < xs.length
      · obtain ⟨b, off, hoa, hbb, hrow⟩ := H3.out (by omega)
        subst hoa
        have hs1 := hrow k hlt
        rw [← obj_below HBr.out hbb] at hs1
        have hbl : b < wr.heap.size := Nat.lt_of_lt_of_le hbb HBr.out.size
        generalize xs[k] = x at *
        obtain ⟨x1, x2⟩ := x
        simp only [alL] at hs1
        clear hrow
        obtain ⟨W, F, G, p1, p2, p3, p4, p5⟩ := HS.out
        have b4 : Below wr.heap.size wr (wr.alloc (.cells #[.int .i64 x1, .int .i64 x2] 32)) := (Below.refl _ wr).alloc (Nat.le_refl _) _
        have o4 : obj (wr.alloc (.cells #[.int .i64 x1, .int .i64 x2] 32)) wr.heap.size = some (.cells #[.int .i64 x1, .int .i64 x2] 32 (0, 0)) := obj_alloc_at _ _ _ rfl
        have P1 := Lib.hid (p1.below b4)
        have P2 := Lib.hid (p2.below b4)
        have P3 := Lib.hid p3
        have P4 := Lib.hid p4
        have P5 := Lib.hid p5
        have f4 : ¬ F wr.heap.size := p1.new (Nat.le_refl _)
        have g4 : ¬ G wr.heap.size := p2.new (Nat.le_refl _)
        have B4 := Lib.hid (HBr.out.trans (b4.mono HBr.out.size))
        clear p1 p2 p3 p4 p5 b4
        go_wp2
        generalize wr.alloc (.cells #[.int .i64 x1, .int .i64 x2] 32) = w4 at *
        have c0 : w4.cell? ⟨wr.heap.size, 0, none⟩ = some (.int .i64 x1) := cell_at o4 0
        have c1 : w4.cell? ⟨wr.heap.size, 1, none⟩ = some (.int .i64 x2) := cell_at o4 1
        have HC1 := Lib.hid (push_hp w4.drew F hx W x1 x2 (P1.out.below (Below.refl _ _).drew))
        generalize hpe : pushE W x1 x2 = E at *
        have HPE := Lib.hid hpe
        clear hpe
        go_region_held3 (fun w' => w'.cell? ⟨wr.heap.size, 0, none⟩ = some (.int .i64 x1) ∧ w'.cell? ⟨wr.heap.size, 1, none⟩ = some (.int .i64 x2))
          (first | exact ⟨c0, c1⟩ | assumption)
          (first
            | (go_at_call 11; (with_reducible refine HC1.out.mono ?_); rintro e w5 ⟨rfl, ⟨F5, h5, g5⟩, k5⟩; have o5 := (k5.block _ (lt_of_obj o4) f4).trans o4; have cc : w5.cell? ⟨wr.heap.size, 0, none⟩ = some (.int .i64 x1) ∧ w5.cell? ⟨wr.heap.size, 1, none⟩ = some (.int .i64 x2) := ⟨cell_at o5 0, cell_at o5 1⟩; have HC2 := Lib.hid (push_hp w5 G hy W x1 x2 ((P2.out.below (Below.refl _ _).drew).other k5 (fun n _ hg hf => P3.out n hf hg))); have H5 := Lib.hid h5; have G5 := Lib.hid g5; have K5 := Lib.hid k5; rw [HPE.out] at HC2; clear h5 g5 k5 HC1)
            | (go_at_call 11; (with_reducible refine HC2.out.mono ?_); rintro e w6 ⟨rfl, ⟨G6, h6, g6⟩, k6⟩; have o6 := (k6.block _ (lt_of_obj o5) g4).trans o5; have cc6 : w6.cell? ⟨wr.heap.size, 0, none⟩ = some (.int .i64 x1) ∧ w6.cell? ⟨wr.heap.size, 1, none⟩ = some (.int .i64 x2) := ⟨cell_at o6 0, cell_at o6 1⟩; have H6 := Lib.hid h6; have G6' := Lib.hid g6; have K6 := Lib.hid k6; clear h6 g6 k6 HC2))
        have hz5 := K5.out.size
        have hz6 := K6.out.size
        have st6 : Hid (∃ (W : List Al) (F G : Nat → Prop), Hp w6 F hx W ∧ Hp w6 G hy W ∧ (∀ n, F n → ¬ G n) ∧ (∀ n, F n → w.heap.size ≤ n) ∧ (∀ n, G n → w.heap.size ≤ n)) := Lib.hid (by
          have hz0 := B4.out.size
          have hG5 : ∀ n, G n → n < w5.heap.size := fun n hg => Nat.lt_of_lt_of_le (P2.out.old n hg) (by simpa using hz5)
          have hFG : ∀ n, F5 n → ¬ G n := fun n h1 h2 => by
            rcases G5.out n h1 with h | h
            · exact P3.out n h h2
            · have := P2.out.old n h2; simp at h; omega
          refine ⟨_, F5, G6, H5.out.other K6.out (fun n _ h1 h2 => hFG n h1 h2), H6.out, fun n h1 h2 => ?_, fun n h1 => ?_, fun n h1 => ?_⟩
          · rcases G6'.out n h2 with h | h
            · exact hFG n h1 h
            · have := H5.out.old n h1; omega
          · rcases G5.out n h1 with h | h
            · exact P4.out n h
            · simp at h; omega
          · rcases G6'.out n h1 with h | h
            · exact P5.out n h
            · simp at hz5; omega)
        have B6 : Hid (Below w.heap.size w w6) := Lib.hid (B4.out.drew.trans ((K5.out.below P4.out (by have := B4.out.size; simpa using this)).trans (K6.out.below P5.out (by have := B4.out.size; simp at hz5; omega))))
        go_wp2
        go_roundw
        case rel => exact ⟨k + 1, by omega, by go_num, st6, B6⟩
        case measure => simp [intOf]; omega
      · obtain ⟨W, F, G, p1, p2, p3, p4, p5⟩ := HS.out
        have P1 := Lib.hid p1
        have P2 := Lib.hid p2
        have P3 := Lib.hid p3
        have P4 := Lib.hid p4
        have P5 := Lib.hid p5
        have HWL := Lib.hid p1.len
        clear p1 p2 p3 p4 p5 HS
        have hk' : k = xs.length := by omega
        subst hk'
        have HLN := Lib.hid (len_hp wr F hx W P1.out)
        go_wp2_with fail
        refine HLN.out.mono ?_
        rintro e w4 ⟨rfl, rfl⟩
        have HD1 := Lib.hid (due_hp wr F hx W now P1.out)
        go_wp2_with fail
        refine HD1.out.mono ?_
        rintro e w5 ⟨⟨v12, rfl, o5, n5⟩, h5, k5⟩
        have X5 := Lib.hid h5
        have Y5 := Lib.hid (P2.out.other k5 (fun n _ hg hf => P3.out n hf hg))
        have B5 := Lib.hid (HBr.out.trans (k5.below P4.out HBr.out.size))
        have O5 := Lib.hid o5
        have N5 : Hid (∀ n, v12.ownBlock = some n → ¬ F n ∧ ¬ G n) := Lib.hid (fun n hn => ⟨n5 n hn, fun hg => by have h1 := (o5.1.lt n hn).1; have h2 := P2.out.old n hg; omega⟩)
        have HDL := Lib.hid (due_left_len now W)
        have hdl : (dueL now W).length ≤ 4096 := by have := HDL.out; have := HWL.out; omega
        have HLE : Hid (∀ i (h : i < (dueL now W).length), (dueL now W)[i].1 ≤ now) := Lib.hid (fun i h => dueL_le (List.getElem_mem h))
        clear h5 k5 o5 n5
        obtain ⟨oa5, cp5, rfl⟩ := O5.out.slice
        have hv5 := O5.out.slIn alL_length
        obtain ⟨_, _, e5, _, hm5, q5⟩ := hv5
        simp only [Value.slice.injEq] at e5
        obtain ⟨rfl, _, rfl⟩ := e5
        have Q5 := Lib.hid q5
        clear q5
        generalize hD : dueL now W = D1 at *
        have HDD := Lib.hid hD
        clear hD
        go_wp2
        go_loopw [65] (fun v65 ws => ∃ j : Nat, j ≤ D1.length ∧ v65 = .int .i64 j ∧ Hid (Below w5.heap.size w5 ws)) (fun i _ => D1.length - (intOf i).toNat)
        case atStart => exact ⟨0, Nat.zero_le _, rfl, Lib.hid (Below.refl _ _)⟩
        case round =>
          obtain ⟨j, hj, rfl, HBj⟩ := hrel
          unfold maxLen at hm5
          by_cases hlt : j < D1.length
          · obtain ⟨b, off, hoa, hbb, hrow⟩ := Q5.out (by omega)
            subst hoa
            have hs1 := hrow j hlt
            rw [← obj_below HBj.out hbb] at hs1
            have hbl : b < wr.heap.size := Nat.lt_of_lt_of_le hbb HBj.out.size
            have hle := HLE.out j hlt
            generalize D1[j] = x at *
            obtain ⟨x1, x2⟩ := x
            simp only [alL] at hs1
            have hng : ¬ now < x1 := by simp at hle; omega
            clear hrow hle
            have BA : Hid (Below w5.heap.size w5 (wr.alloc (.cells #[.int .i64 x1, .int .i64 x2] 32))) := Lib.hid (HBj.out.alloc HBj.out.size _)
            go_wp2
            go_roundw
            case rel => exact ⟨j + 1, by omega, by go_num, BA⟩
            case measure => simp [intOf]; omega
          · have hj' : j = D1.length := by omega
            subst hj'
            have X6 := Lib.hid (X5.out.below HBj.out)
            have Y6 := Lib.hid (Y5.out.below HBj.out)
            have O6 := Lib.hid (O5.out.below HBj.out)
            have B6 := Lib.hid (B5.out.trans (HBj.out.mono B5.out.size))
            have HAL := Lib.hid (all_hp wr F hx _ X6.out)
            clear hlt hj HBj
            go_wp2_with fail
            refine HAL.out.mono ?_
            rintro e w7 ⟨⟨lb, v7, rfl, hV7⟩, b7⟩
            have HLG := Lib.hid (leftL_gt (now := now) P1.out.sorted)
            have HLL := Lib.hid X6.out.len
            have HTD := Lib.hid (told_all hV7 (Below.refl _ _) X6.out.len 1048576)
            have X7 := Lib.hid (X6.out.below b7)
            have Y7 := Lib.hid (Y6.out.below b7)
            have O7 := Lib.hid (O6.out.below b7)
            have B7 := Lib.hid (B6.out.trans (b7.mono B6.out.size))
            have htk : (leftL now W).take (1048576 : Int).toNat = leftL now W := List.take_of_length_le (by have := HLL.out; simp; omega)
            rw [htk] at HTD
            clear hV7 b7 htk
            go_wp2_with fail
            refine HTD.out.mono ?_
            rintro e w8 ⟨v8, rfl, o8, b8⟩
            have X8 := Lib.hid (X7.out.below b8)
            have Y8 := Lib.hid (Y7.out.below b8)
            have O8 := Lib.hid (O7.out.below b8)
            have B8 := Lib.hid (B7.out.trans (b8.mono B7.out.size))
            obtain ⟨oa8, cp8, rfl⟩ := o8.slice
            have hv8 := o8.slIn alL_length
            obtain ⟨_, _, e8, _, hm8, q8⟩ := hv8
            simp only [Value.slice.injEq] at e8
            obtain ⟨rfl, _, rfl⟩ := e8
            have Q8 := Lib.hid q8
            have HLI : Hid (∀ i (h : i < (leftL now W).length), now < (leftL now W)[i].1) := Lib.hid (fun i h => HLG.out _ (List.getElem_mem h))
            have hll8 : (leftL now W).length ≤ 4096 := HLL.out
            clear q8 o8 b8
            generalize hL : leftL now W = L1 at *
            have HLDF := Lib.hid hL
            clear hL
            go_wp2
            go_loopw [78] (fun v78 ws => ∃ j : Nat, j ≤ L1.length ∧ v78 = .int .i64 j ∧ Hid (Below w8.heap.size w8 ws)) (fun i _ => L1.length - (intOf i).toNat)
            case atStart => exact ⟨0, Nat.zero_le _, rfl, Lib.hid (Below.refl _ _)⟩
            case round =>
              obtain ⟨j, hj, rfl, HBj⟩ := hrel
              unfold maxLen at hm8
              by_cases hlt : j < L1.length
              · obtain ⟨b, off, hoa, hbb, hrow⟩ := Q8.out (by omega)
                subst hoa
                have hs1 := hrow j hlt
                rw [← obj_below HBj.out hbb] at hs1
                have hbl : b < wr.heap.size := Nat.lt_of_lt_of_le hbb HBj.out.size
                have hle := HLI.out j hlt
                generalize L1[j] = x at *
                obtain ⟨x1, x2⟩ := x
                simp only [alL] at hs1
                have hng : ¬ x1 ≤ now := by simp at hle; omega
                clear hrow hle
                have BA : Hid (Below w8.heap.size w8 (wr.alloc (.cells #[.int .i64 x1, .int .i64 x2] 32))) := Lib.hid (HBj.out.alloc HBj.out.size _)
                go_wp2
                go_roundw
                case rel => exact ⟨j + 1, by omega, by go_num, BA⟩
                case measure => simp [intOf]; omega
              · have hj' : j = L1.length := by omega
                subst hj'
                have X9 := Lib.hid (X8.out.below HBj.out)
                have Y9 := Lib.hid (Y8.out.below HBj.out)
                have O9 := Lib.hid (O8.out.below HBj.out)
                have B9 := Lib.hid (B8.out.trans (HBj.out.mono B8.out.size))
                clear hlt hj HBj
                obtain ⟨t, ht⟩ : ∃ t, t = now + more := ⟨_, rfl⟩
                have hwr : IntKind.i64.wrap (now + more) = t := by rw [IntKind.wrap_i64]; omega
                have hnt : now ≤ t := by omega
                have HTW := Lib.hid (due_two hnt W)
                rw [HDD.out, HLDF.out] at HTW
                have HD2 := Lib.hid (due_hp wr F hx L1 t X9.out)
                clear ht
                go_wp2_with fail
                refine HD2.out.mono ?_
                rintro e wa ⟨⟨v17, rfl, oa', na⟩, ha, ka⟩
                have Xa := Lib.hid ha
                have Ya := Lib.hid (Y9.out.other ka (fun n _ hg hf => P3.out n hf hg))
                have Oa := Lib.hid (O9.out.keepsNot ka (fun n hn => (N5.out n hn).1))
                have Pa := Lib.hid oa'
                have Na : Hid (∀ n, v17.ownBlock = some n → ¬ F n ∧ ¬ G n) := Lib.hid (fun n hn => ⟨na n hn, fun hg => by have h1 := (oa'.1.lt n hn).1; have h2 := Y9.out.old n hg; omega⟩)
                have Ba := Lib.hid (B9.out.trans (ka.below P4.out B9.out.size))
                have HL2 := Lib.hid (due_left_len t L1)
                have hl1 := HLL.out
                have hd2 : (dueL t L1).length ≤ 4096 := by have := HL2.out; omega
                have hl2 : (leftL t L1).length ≤ 4096 := by have := HL2.out; omega
                have hsum : ((W.length : Int) == (D1.length : Int) + ((dueL t L1).length : Int) + ((leftL t L1).length : Int)) = true := by have h1 := HDL.out; have h2 := HL2.out; simp; omega
                obtain ⟨ob2, cb2, rfl⟩ := oa'.slice
                have HL3 := Lib.hid (len_hp wa F hx _ Xa.out)
                have HTW1 := Lib.hid HTW.out.1
                have HTW2 := Lib.hid HTW.out.2
                have HX2 := Lib.hid Xa.out.len
                clear oa' na ha ka hl1
                generalize hD2 : dueL t L1 = D2 at *
                generalize hL2' : leftL t L1 = L2 at *
                clear hD2 hL2' HD2 HLG HLI HLDF HDD HTW
                have hpair := run_pair81
                go_wp2_with fail
                refine HL3.out.mono ?_
                rintro e wb ⟨rfl, rfl⟩
                have b3 : Below wa.heap.size wa (wa.alloc (.cells #[.slice oa5 D1.length cp5, .slice ob2 D2.length cb2] 29)) := (Below.refl _ wa).alloc (Nat.le_refl _) _
                have o3 : obj (wa.alloc (.cells #[.slice oa5 D1.length cp5, .slice ob2 D2.length cb2] 29)) wa.heap.size = some (.cells #[.slice oa5 D1.length cp5, .slice ob2 D2.length cb2] 29 (0, 0)) := obj_alloc_at _ _ _ rfl
                have HCC := Lib.hid (concat_any (wa.alloc (.cells #[.slice oa5 D1.length cp5, .slice ob2 D2.length cb2] 29)) (.slice (some ⟨wa.heap.size, 0, none⟩) 2 2) [.slice oa5 D1.length cp5, .slice ob2 D2.length cb2] [D1, D2] (SlIn.of_cells (enc := fun s : Value => [s]) (k := 1) (E := 29) (fr := (0, 0)) (fun _ => rfl) [Value.slice oa5 D1.length cp5, .slice ob2 D2.length cb2] o3 (by simp [maxLen])) rfl (fun i h1 h2 => by
                  match i, h1, h2 with
                  | 0, _, _ => exact (Oa.out.slIn alL_length).below b3
                  | 1, _, _ => exact (Pa.out.slIn alL_length).below b3) (by simp [lensOf]; omega))
                have X3 := Lib.hid (Xa.out.below b3)
                have Y3 := Lib.hid (Ya.out.below b3)
                have B3' := Lib.hid (Ba.out.trans (b3.mono Ba.out.size))
                clear b3 o3
                go_wp2_with fail
                generalize wa.alloc (.cells #[.slice oa5 D1.length cp5, .slice ob2 D2.length cb2] 29) = wc at *
                refine HCC.out.mono ?_
                rintro e wd ⟨vd, rfl, od, bd⟩
                have Xd := Lib.hid (X3.out.below bd)
                have Yd := Lib.hid (Y3.out.below bd)
                have Bd := Lib.hid (B3'.out.trans (bd.mono B3'.out.size))
                have HD3 := Lib.hid (due_hp wd G hy W t Yd.out)
                have Sd := Lib.hid (slIn_owns od).1
                have Nd : Hid (∀ n, vd.ownBlock = some n → ¬ G n) := Lib.hid (fun n hn hg => by have h1 := (od.lt n hn).1; have h2 := Y3.out.old n hg; omega)
                have Od := Lib.hid od
                clear bd od
                go_wp2_with fail
                refine HD3.out.mono ?_
                rintro e we ⟨⟨ve, rfl, oe, ne⟩, he, ke⟩
                have Xe := Lib.hid (Xd.out.other ke (fun n _ hf hg => P3.out n hf hg))
                have Ye := Lib.hid he
                have Be := Lib.hid (Bd.out.trans (ke.below P5.out Bd.out.size))
                have Sde : Hid (SlIn we vd 2 alL (D1 ++ D2)) := Lib.hid (by
                  have h1 := Sd.out.of_obj ke.size (fun a l c e => by
                    have hb : vd.ownBlock = some a.block := by rw [e]; rfl
                    exact ke.block _ (Od.out.lt _ hb).2 (Nd.out _ hb))
                  simpa using h1)
                have HEQ := Lib.hid (equal_any we vd ve _ _ Sde.out (oe.slIn alL_length))
                rw [show decide (D1 ++ D2 = dueL t W) = true by simpa using HTW1.out] at HEQ
                clear oe ne he ke
                go_wp2_with fail
                refine HEQ.out.mono ?_
                rintro e wf ⟨rfl, bf⟩
                have Xf := Lib.hid (Xe.out.below bf)
                have Yf := Lib.hid (Ye.out.below bf)
                have Bf := Lib.hid (Be.out.trans (bf.mono Be.out.size))
                have HA1 := Lib.hid (all_hp wf F hx _ Xf.out)
                clear bf
                go_wp2_with fail
                refine HA1.out.mono ?_
                rintro e wg ⟨⟨lg, vg, rfl, hVg⟩, bg⟩
                have HT1 := Lib.hid (told_all hVg (Below.refl _ _) Xf.out.len 1048576)
                have Yg := Lib.hid (Yf.out.below bg)
                have Bg := Lib.hid (Bf.out.trans (bg.mono Bf.out.size))
                have htk : L2.take (1048576 : Int).toNat = L2 := List.take_of_length_le (by simp; omega)
                rw [htk] at HT1
                clear hVg bg htk
                go_wp2_with fail
                refine HT1.out.mono ?_
                rintro e wh ⟨vh, rfl, oh, bh⟩
                have Yh := Lib.hid (Yg.out.below bh)
                have Bh := Lib.hid (Bg.out.trans (bh.mono Bg.out.size))
                have HA2 := Lib.hid (all_hp wh G hy _ Yh.out)
                have Oh := Lib.hid oh
                clear oh bh
                go_wp2_with fail
                refine HA2.out.mono ?_
                rintro e wi ⟨⟨li, vi, rfl, hVi⟩, bi⟩
                have HT2 := Lib.hid (told_all hVi (Below.refl _ _) Yh.out.len 1048576)
                have Oi := Lib.hid (Oh.out.below bi)
                have Bi := Lib.hid (Bh.out.trans (bi.mono Bh.out.size))
                have htk : (leftL t W).take (1048576 : Int).toNat = L2 := by
                  rw [← HTW2.out]
                  exact List.take_of_length_le (by simp; omega)
                rw [htk] at HT2
                clear hVi bi htk
                go_wp2_with fail
                refine HT2.out.mono ?_
                rintro e wj ⟨vj, rfl, oj, bj⟩
                have HEQ2 := Lib.hid (equal_any wj vh vj L2 L2 ((Oi.out.below bj).slIn alL_length) (oj.slIn alL_length))
                rw [show decide (L2 = L2) = true by simp] at HEQ2
                have Bj := Lib.hid (Bi.out.trans (bj.mono Bi.out.size))
                clear oj bj
                go_wp2_with fail
                refine HEQ2.out.mono ?_
                rintro e wk ⟨rfl, bk⟩
                have Bk := Lib.hid (Bj.out.trans (bk.mono Bj.out.size))
                go_wp2
                go_ret
                exact ⟨rfl, Bk.out⟩
  · by_cases hx : xs.length ≤ 100
    · have d100 : decide ((100 : Int) < (xs.length : Int)) = false := by simp; omega
      have dnow : decide ((1152921504606846976 : Int) < now) = true := by simp; omega
      clear hbig hx
      go_enter Try.func5, Try.ntmps5
      go_wp2_with fail
      refine HB.out.mono ?_
      rintro e w1 ⟨rfl, b1⟩
      have HB2 := Lib.hid (begun_any w1)
      go_wp2_with fail
      refine HB2.out.mono ?_
      rintro e w2 ⟨rfl, b2⟩
      go_wp2
      go_ret
      exact ⟨rfl, b1.trans (b2.mono b1.size)⟩
    · have d100 : decide ((100 : Int) < (xs.length : Int)) = true := by simp; omega
      clear hbig hx
      go_enter Try.func5, Try.ntmps5
      go_wp2_with fail
      refine HB.out.mono ?_
      rintro e w1 ⟨rfl, b1⟩
      have HB2 := Lib.hid (begun_any w1)
      go_wp2_with fail
      refine HB2.out.mono ?_
      rintro e w2 ⟨rfl, b2⟩
      go_wp2
      go_ret
      exact ⟨rfl, b1.trans (b2.mono b1.size)⟩
end Go.Proofs.Ytggpmepiggnnnaa
