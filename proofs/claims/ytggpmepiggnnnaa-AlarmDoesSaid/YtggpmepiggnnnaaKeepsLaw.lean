import Derived.Test.YtggpmepiggnnnaaDueLaw
import Derived.Test.YtggpmepiggnnnaaWant
import Derived.Deep.DeepCutAuto
import Derived.Deep.CutBlock
namespace Go.Proofs.Ytggpmepiggnnnaa
open Go.RowKit

/-! ### acts -/
@[go_sem ↓] theorem hide_load55 (a : Addr) : loadVar 55 a = loadAgg 55 a := rfl
@[go_sem ↓] theorem hide_store55 (a : Addr) (v : Value) : storeVar 55 a v = storeAgg 55 a v := rfl
@[go_sem] theorem run_load55 (b off : Nat) (W : World) : (loadAgg 55 ⟨b, off, none⟩).run Try.prog W = loadRes Try.prog 55 ⟨b, off, none⟩ W (subOf (obj W b) off 3) := run_loadAgg Try.isAgg55 Try.sizeOf55 b off W
@[go_sem] theorem run_store55 (b off : Nat) (cs : Array Value) (W : World) : (storeAgg 55 ⟨b, off, none⟩ (.agg cs)).run Try.prog W = storeRes Try.prog 55 ⟨b, off, none⟩ (.agg cs) W (putOf (obj W b) off 3 cs) := run_storeAgg Try.sizeOf55 b off cs W
theorem zero2' (w : World) : (zeroValue 2).run Try.prog w = .ok (.int .i64 0) w := by kernel_rfl
structure Act3 where
  d : Int
  t : Int
  k : Int
instance : Inhabited Act3 := ⟨⟨0, 0, 0⟩⟩
def opL (o : Act3) : List Value := [.int .i64 o.d, .int .i64 o.t, .int .i64 o.k]
theorem opL_length (o : Act3) : (opL o).length = 3 := rfl
/-- the heap at hb, and the map at mw that keeps what it must tell -/
def KS (w : World) (mw hb : Nat) (wx : World) : Prop :=
  ∃ (W : List Al) (M : List (Int × Int)) (F : Nat → Prop), Hp wx F hb W ∧ MapI wx mw intV M ∧ Want W M ∧ (∀ n, F n → w.heap.size ≤ n ∧ n ≠ mw)
theorem KS.mk_put {w wx w4 : World} {mw hb : Nat} {W : List Al} {M : List (Int × Int)} {F F' : Nat → Prop} {es : Array MapEntry} {clk : Nat} (hF : ∀ n, F n → w.heap.size ≤ n ∧ n ≠ mw) (hg : Grows w4 F F') (hz : w.heap.size ≤ w4.heap.size) (hm : mw < w4.heap.size) (hm2 : mw < wx.heap.size)
    (h : Hp wx F' hb W) (hr : RepI intV es.toList M) (hw : Want W M) : KS w mw hb (putObj wx mw (.map es clk)) := by
  have hF' : ∀ n, F' n → w.heap.size ≤ n ∧ n ≠ mw := fun n hn => by
    rcases hg n hn with h | h
    · exact hF n h
    · exact ⟨by omega, by omega⟩
  exact ⟨W, M, F', h.putNew (fun hf => (hF' _ hf).2 rfl) _, ⟨es, clk, obj_putObj_eq _ _ _ hm2, hr⟩, hw, hF'⟩
theorem KS.mk_same {w wx w4 : World} {mw hb : Nat} {W : List Al} {M : List (Int × Int)} {F F' : Nat → Prop} (hF : ∀ n, F n → w.heap.size ≤ n ∧ n ≠ mw) (hg : Grows w4 F F') (hz : w.heap.size ≤ w4.heap.size) (hm : mw < w4.heap.size)
    (h : Hp wx F' hb W) (hr : MapI wx mw intV M) (hw : Want W M) : KS w mw hb wx := by
  refine ⟨W, M, F', h, hr, hw, fun n hn => ?_⟩
  rcases hg n hn with h | h
  · exact hF n h
  · exact ⟨by omega, by omega⟩
theorem mapI_obj {w W : World} {m : Nat} {M : List (Int × Int)} (h : MapI w m intV M) (e : obj W m = obj w m) : MapI W m intV M := by
  obtain ⟨es, clk, h1, h2⟩ := h
  exact ⟨es, clk, e.trans h1, h2⟩
set_option maxRecDepth 100000 in
set_option maxHeartbeats 8000000 in
theorem keepsLaw_any (w : World) (v1 : Value) (os : List Act3) (h1 : SlIn w v1 3 opL os) :
    Calls Try.prog 6 #[v1] w fun e w' => e = .returned (.bool true) ∧ Below w.heap.size w w' := by
  obtain ⟨oa, cap, rfl, g1, g2, g3⟩ := h1
  unfold maxLen at g2
  have H3 := Lib.hid g3
  clear g3
  have hmm := @run_makeMap Try.prog
  obtain ⟨n, hn⟩ : ∃ n : Nat, n = min os.length 100 := ⟨_, rfl⟩
  have hmin : min (os.length : Int) 100 = (n : Int) := by omega
  have hmax : max (n : Int) 0 = (n : Int) := by omega
  have hnl : n ≤ os.length := by omega
  have hn100 : n ≤ 100 := by omega
  have HN := Lib.hid (new_hp w)
  clear hn
  go_enter Try.func6, Try.ntmps6
  go_wp2_with fail
  refine HN.out.mono ?_
  rintro e w1 ⟨rfl, h1, b1⟩
  have HB := Lib.hid (begun_any w1)
  have F1 : Hid (∃ F : Nat → Prop, Hp w1 F (w.heap.size + 1) [] ∧ ∀ n, F n → w.heap.size ≤ n) := Lib.hid ⟨_, h1, fun n hn => by rcases hn with rfl | rfl <;> omega⟩
  have B1 := Lib.hid b1
  clear h1 b1
  go_wp2_with fail
  refine HB.out.mono ?_
  rintro e w2 ⟨rfl, b2⟩
  have B2 := Lib.hid (B1.out.trans (b2.mono B1.out.size))
  have b3 : Below w2.heap.size w2 (w2.alloc (.map #[] 0)) := (Below.refl _ w2).alloc (Nat.le_refl _) _
  have st0 : Hid (KS w w2.heap.size (w.heap.size + 1) (w2.alloc (.map #[] 0))) := Lib.hid (by
    obtain ⟨F, h, hf⟩ := F1.out
    refine ⟨[], [], F, (h.below b2).below b3, ⟨#[], 0, obj_alloc_at _ _ _ rfl, trivial⟩, Want.nil, fun n hn => ⟨hf n hn, ?_⟩⟩
    have := (h.below b2).old n hn
    omega)
  have B3 := Lib.hid (B2.out.trans (b3.mono B2.out.size))
  have MW : Hid (w.heap.size ≤ w2.heap.size) := Lib.hid B2.out.size
  clear b2 b3 HB HN F1 B1
  go_wp2
  generalize w2.alloc (.map #[] 0) = w3 at *
  generalize w2.heap.size = mw at *
  go_loopw [36] (fun v36 wr => ∃ k : Nat, k ≤ n ∧ v36 = .int .i64 k ∧ Hid (KS w mw (w.heap.size + 1) wr) ∧ Hid (Below w.heap.size w wr)) (fun i _ => n - (intOf i).toNat)
  case atStart => exact ⟨0, Nat.zero_le _, rfl, st0, B3⟩
  case round =>
    obtain ⟨k, hk, rfl, HS, HBr⟩ := hrel
    by_cases hlt : k < n
    · obtain ⟨b, off, hoa, hbb, hrow⟩ := H3.out (by omega)
      subst hoa
      have hs1 := hrow k (by omega)
      rw [← obj_below HBr.out hbb] at hs1
      have hbl : b < wr.heap.size := Nat.lt_of_lt_of_le hbb HBr.out.size
      generalize os[k]'(by omega) = o at *
      obtain ⟨d, t, kk⟩ := o
      simp only [opL] at hs1
      clear hrow
      obtain ⟨W, M, F, p1, p2, p3, p4⟩ := HS.out
      have b4 : Below wr.heap.size wr (wr.alloc (.cells #[.int .i64 d, .int .i64 t, .int .i64 kk] 55)) := (Below.refl _ wr).alloc (Nat.le_refl _) _
      have o4 : obj (wr.alloc (.cells #[.int .i64 d, .int .i64 t, .int .i64 kk] 55)) wr.heap.size = some (.cells #[.int .i64 d, .int .i64 t, .int .i64 kk] 55 (0, 0)) := obj_alloc_at _ _ _ rfl
      have f4 : ¬ F wr.heap.size := p1.new (Nat.le_refl _)
      have mz : mw < wr.heap.size := by obtain ⟨es, clk, ho, _⟩ := p2; exact lt_of_obj ho
      have P1 := Lib.hid (p1.below b4)
      have P2 : Hid (MapI (wr.alloc (.cells #[.int .i64 d, .int .i64 t, .int .i64 kk] 55)) mw intV M) := Lib.hid (by obtain ⟨es, clk, ho, hr⟩ := p2; exact ⟨es, clk, (obj_below b4 mz).trans ho, hr⟩)
      have P3 := Lib.hid p3
      have P4 := Lib.hid p4
      have B4 := Lib.hid (HBr.out.trans (b4.mono HBr.out.size))
      have hob : wr.heap.size ≠ mw := by omega
      clear p1 p2 p3 p4 b4 HS
      go_upto_block 2 with fail
      generalize wr.alloc (.cells #[.int .i64 d, .int .i64 t, .int .i64 kk] 55) = w4 at *
      generalize wr.heap.size = ob at *
      have c1 : w4.cell? ⟨ob, 1, none⟩ = some (.int .i64 t) := cell_at o4 1
      have c2 : w4.cell? ⟨ob, 2, none⟩ = some (.int .i64 kk) := cell_at o4 2
      go_cut [] (fun wx => Hid (KS w mw (w.heap.size + 1) wx) ∧ Hid (Below w.heap.size w wx))
      case first =>
        have hob1 := lt_of_obj o4
        have hzw := B4.out.size
        have hmz : mw < w4.heap.size := by obtain ⟨es, clk, ho, _⟩ := P2.out; exact lt_of_obj ho
        have hmF : Hid (¬ F mw) := Lib.hid (fun hf => (P4.out _ hf).2 rfl)
        by_cases d0 : d = 0
        · subst d0
          have HC := Lib.hid (push_hp w4 F (w.heap.size + 1) W t kk P1.out)
          by_cases he : pushE W t kk = 0
          · rw [he] at HC
            have HE := Lib.hid he
            clear he
            go_wp2_with fail
            refine HC.out.mono ?_
            rintro e w5 ⟨rfl, ⟨F5, h5, g5⟩, k5⟩
            have o5 := (k5.block _ hob1 f4).trans o4
            have c51 : w5.cell? ⟨ob, 1, none⟩ = some (.int .i64 t) := cell_at o5 1
            have c52 : w5.cell? ⟨ob, 2, none⟩ = some (.int .i64 kk) := cell_at o5 2
            have z5 := lt_of_obj o5
            obtain ⟨hg, hw⟩ := P3.out.push h5.keys HE.out
            obtain ⟨es, clk, ho, hr⟩ := P2.out
            have ho5 := (k5.block _ hmz hmF.out).trans ho
            have hl := run_lookup_int (P := Try.prog) (w := w5) (m := mw) (enc := intV) Try.underlying53 Try.underlying2 zero2' ⟨es, clk, ho5, hr⟩ kk
            rw [hg] at hl
            obtain ⟨es', clk', hu, hr'⟩ := run_mapUpdate_int (enc := intV) (clk := clk) Try.underlying53 Try.underlying2 hr mw kk t
            have hu5 := hu w5 ho5
            simp only [intV] at hu5
            have hmz5 := lt_of_obj ho5
            have FIN : Hid (KS w mw (w.heap.size + 1) (putObj w5 mw (.map es' clk'))) := Lib.hid (KS.mk_put P4.out g5 hzw hmz hmz5 h5 hr' hw)
            have BF : Hid (Below w.heap.size w (putObj w5 mw (.map es' clk'))) := Lib.hid (below_putObj (B4.out.trans (k5.below (fun n hn => (P4.out n hn).1) hzw)) MW.out _)
            clear h5 g5 k5 hw hg HC hu o5
            go_wp2
            go_meet
            exact ⟨FIN, BF⟩
          · have HE : Hid (pushE W t kk ≠ 0) := Lib.hid he
            have hne : (pushE W t kk == 0) = false := by simpa using he
            have HPW := Lib.hid (pushW_no he)
            generalize pushE W t kk = E at *
            clear he
            go_wp2_with fail
            refine HC.out.mono ?_
            rintro e w5 ⟨rfl, ⟨F5, h5, g5⟩, k5⟩
            rw [HPW.out] at h5
            have FIN : Hid (KS w mw (w.heap.size + 1) w5) := Lib.hid (KS.mk_same P4.out g5 hzw hmz h5 (mapI_obj P2.out (k5.block _ hmz hmF.out)) P3.out)
            have BF : Hid (Below w.heap.size w w5) := Lib.hid (B4.out.trans (k5.below (fun n hn => (P4.out n hn).1) hzw))
            clear h5 g5 k5 HC
            go_wp2
            go_meet
            exact ⟨FIN, BF⟩
        by_cases d1 : d = 1
        · subst d1
          have HC := Lib.hid (move_hp w4 F (w.heap.size + 1) W t kk P1.out)
          by_cases he : moveE W t kk = 0
          · rw [he] at HC
            have HE := Lib.hid he
            clear he
            go_wp2_with fail
            refine HC.out.mono ?_
            rintro e w5 ⟨rfl, h5, k5⟩
            have o5 := (k5.block _ hob1 f4).trans o4
            have c51 : w5.cell? ⟨ob, 1, none⟩ = some (.int .i64 t) := cell_at o5 1
            have c52 : w5.cell? ⟨ob, 2, none⟩ = some (.int .i64 kk) := cell_at o5 2
            have z5 := lt_of_obj o5
            have hw := P3.out.move P1.out.keys h5.keys HE.out
            obtain ⟨es, clk, ho, hr⟩ := P2.out
            have ho5 := (k5.block _ hmz hmF.out).trans ho
            obtain ⟨es', clk', hu, hr'⟩ := run_mapUpdate_int (enc := intV) (clk := clk) Try.underlying53 Try.underlying2 hr mw kk t
            have hu5 := hu w5 ho5
            simp only [intV] at hu5
            have hmz5 := lt_of_obj ho5
            have FIN : Hid (KS w mw (w.heap.size + 1) (putObj w5 mw (.map es' clk'))) := Lib.hid (KS.mk_put P4.out (Grows.refl _ _) hzw hmz hmz5 h5 hr' hw)
            have BF : Hid (Below w.heap.size w (putObj w5 mw (.map es' clk'))) := Lib.hid (below_putObj (B4.out.trans (k5.below (fun n hn => (P4.out n hn).1) hzw)) MW.out _)
            clear h5 k5 hw HC hu o5
            go_wp2
            go_meet
            exact ⟨FIN, BF⟩
          · have hne : (moveE W t kk == 0) = false := by simpa using he
            have HPW := Lib.hid (moveW_no he)
            generalize moveE W t kk = E at *
            clear he
            go_wp2_with fail
            refine HC.out.mono ?_
            rintro e w5 ⟨rfl, h5, k5⟩
            rw [HPW.out] at h5
            have FIN : Hid (KS w mw (w.heap.size + 1) w5) := Lib.hid (KS.mk_same P4.out (Grows.refl _ _) hzw hmz h5 (mapI_obj P2.out (k5.block _ hmz hmF.out)) P3.out)
            have BF : Hid (Below w.heap.size w w5) := Lib.hid (B4.out.trans (k5.below (fun n hn => (P4.out n hn).1) hzw))
            clear h5 k5 HC
            go_wp2
            go_meet
            exact ⟨FIN, BF⟩
        by_cases d2 : d = 2
        · subst d2
          have HC := Lib.hid (drop_hp w4 F (w.heap.size + 1) W kk P1.out)
          have hl := run_lookup_int (P := Try.prog) (w := w4) (m := mw) (enc := intV) Try.underlying53 Try.underlying2 zero2' P2.out kk
          have key : ∃ (x : Int), (Instr.lookup 53 (.map (some mw)) (.int .i64 kk) true).run Try.prog w4 = .ok (.tuple #[.int .i64 x, .bool (hasK W kk)]) w4 := by
            have hh := P3.out.has kk
            cases hg : aGet kk M with
            | none => rw [hg] at hl hh; exact ⟨0, by rw [← hh]; exact hl⟩
            | some v => rw [hg] at hl hh; exact ⟨v, by rw [← hh]; exact hl⟩
          obtain ⟨x, hl'⟩ := key
          have hdE : dropE W kk = if hasK W kk = true then 0 else 4 := rfl
          have HDW := Lib.hid (P3.out.drop P1.out.keys kk)
          clear hl
          rw [hdE] at HC
          clear hdE
          generalize hasK W kk = hk0 at *
          go_wp2_with fail
          refine HC.out.mono ?_
          rintro e w5 ⟨rfl, h5, k5⟩
          have o5 := (k5.block _ hob1 f4).trans o4
          have c52 : w5.cell? ⟨ob, 2, none⟩ = some (.int .i64 kk) := cell_at o5 2
          have z5 := lt_of_obj o5
          obtain ⟨es, clk, ho, hr⟩ := P2.out
          have ho5 := (k5.block _ hmz hmF.out).trans ho
          obtain ⟨es', hu, hr'⟩ := run_delete_int (enc := intV) (clk := clk) Try.underlying53 Try.underlying2 0 2 hr mw kk
          have hu5 := hu w5 ho5
          have hmz5 := lt_of_obj ho5
          have FIN : Hid (KS w mw (w.heap.size + 1) (putObj w5 mw (.map es' clk))) := Lib.hid (KS.mk_put P4.out (Grows.refl _ _) hzw hmz hmz5 h5 hr' HDW.out)
          have BF : Hid (Below w.heap.size w (putObj w5 mw (.map es' clk))) := Lib.hid (below_putObj (B4.out.trans (k5.below (fun n hn => (P4.out n hn).1) hzw)) MW.out _)
          clear h5 k5 HC hu o5
          cases hk0
          · go_wp2
            go_meet
            exact ⟨FIN, BF⟩
          · go_wp2
            go_meet
            exact ⟨FIN, BF⟩
        by_cases d3 : d = 3
        · subst d3
          have HC := Lib.hid (pop_hp w4 F (w.heap.size + 1) W P1.out)
          rcases hW : W with _ | ⟨a, r⟩
          · subst hW
            have e1 : at' ([] : List Al) 0 = (0, 0) := rfl
            have e2 : peekE [] = 4 := rfl
            rw [e1, e2] at HC
            clear e1 e2
            go_wp2_with fail
            refine HC.out.mono ?_
            rintro e w5 ⟨rfl, h5, k5⟩
            have b6 : Below w5.heap.size w5 (w5.alloc (.cells #[.int .i64 0, .int .i64 0] 32)) := (Below.refl _ w5).alloc (Nat.le_refl _) _
            have hz5 := k5.size
            have FIN : Hid (KS w mw (w.heap.size + 1) (w5.alloc (.cells #[.int .i64 0, .int .i64 0] 32))) := Lib.hid (KS.mk_same P4.out (Grows.refl _ _) hzw hmz (h5.below b6) (mapI_obj P2.out ((obj_below b6 (by omega)).trans (k5.block _ hmz hmF.out))) P3.out)
            have BF : Hid (Below w.heap.size w (w5.alloc (.cells #[.int .i64 0, .int .i64 0] 32))) := Lib.hid ((B4.out.trans (k5.below (fun n hn => (P4.out n hn).1) hzw)).trans (b6.mono (by omega)))
            clear h5 k5 HC b6
            go_wp2
            go_meet
            exact ⟨FIN, BF⟩
          · subst hW
            obtain ⟨a1, a2⟩ := a
            have e1 : at' ((a1, a2) :: r) 0 = (a1, a2) := rfl
            have e2 : peekE ((a1, a2) :: r) = 0 := rfl
            rw [e1, e2] at HC
            obtain ⟨hg, hw⟩ := P3.out.pop P1.out.keys
            simp only at hg hw
            clear e1 e2
            go_wp2_with fail
            refine HC.out.mono ?_
            rintro e w5 ⟨rfl, h5, k5⟩
            have b6 : Below w5.heap.size w5 (w5.alloc (.cells #[.int .i64 a1, .int .i64 a2] 32)) := (Below.refl _ w5).alloc (Nat.le_refl _) _
            have hz5 := k5.size
            have hz5' := Lib.hid hz5
            obtain ⟨es, clk, ho, hr⟩ := P2.out
            have ho5 := (obj_below b6 (by omega)).trans ((k5.block _ hmz hmF.out).trans ho)
            have hl := run_lookup_int (P := Try.prog) (w := w5.alloc (.cells #[.int .i64 a1, .int .i64 a2] 32)) (m := mw) (enc := intV) Try.underlying53 Try.underlying2 zero2' ⟨es, clk, ho5, hr⟩ a2
            rw [hg] at hl
            simp only [intV] at hl
            obtain ⟨es', hu, hr'⟩ := run_delete_int (enc := intV) (clk := clk) Try.underlying53 Try.underlying2 0 2 hr mw a2
            have hu5 := hu _ ho5
            have hmz5 := lt_of_obj ho5
            have FIN : Hid (KS w mw (w.heap.size + 1) (putObj (w5.alloc (.cells #[.int .i64 a1, .int .i64 a2] 32)) mw (.map es' clk))) := Lib.hid (KS.mk_put P4.out (Grows.refl _ _) hzw hmz hmz5 (h5.below b6) hr' hw)
            have BF : Hid (Below w.heap.size w (putObj (w5.alloc (.cells #[.int .i64 a1, .int .i64 a2] 32)) mw (.map es' clk))) := Lib.hid (below_putObj ((B4.out.trans (k5.below (fun n hn => (P4.out n hn).1) hzw)).trans (b6.mono (by omega))) MW.out _)
            have o6 : obj (w5.alloc (.cells #[.int .i64 a1, .int .i64 a2] 32)) w5.heap.size = some (.cells #[.int .i64 a1, .int .i64 a2] 32 (0, 0)) := obj_alloc_at _ _ _ rfl
            have hmw5 : w5.heap.size ≠ mw := by omega
            clear h5 k5 HC b6 hu hw hg hz5
            have hq1 : (a1 != a1) = false := by simp
            go_wp2
            go_meet
            exact ⟨FIN, BF⟩
        · have e0 : (d == 0) = false := by simpa using d0
          have e1 : (d == 1) = false := by simpa using d1
          have e2 : (d == 2) = false := by simpa using d2
          have e3 : (d == 3) = false := by simpa using d3
          have FIN : Hid (KS w mw (w.heap.size + 1) w4) := Lib.hid ⟨W, M, F, P1.out, P2.out, P3.out, P4.out⟩
          go_wp2
          go_meet
          exact ⟨FIN, B4⟩
      case rest =>
        obtain ⟨HS', HB'⟩ := hcut
        obtain ⟨W', M', F', p1, p2, p3, p4⟩ := HS'.out
        have HAL := Lib.hid (all_hp wc F' _ W' p1)
        have Q1 := Lib.hid p1
        have Q2 := Lib.hid p2
        have Q3 := Lib.hid p3
        have Q4 := Lib.hid p4
        have HML := Lib.hid (p3.len p1.keys)
        have HWL := Lib.hid p1.len
        clear p1 p2 p3 p4 HS' P1 P2 P3 P4 o4 c1 c2 B4
        go_wp2_with fail
        refine HAL.out.mono ?_
        rintro e w7 ⟨⟨lb, v7, rfl, hV7⟩, b7⟩
        have HTD := Lib.hid (told_all hV7 (Below.refl _ _) HWL.out 1048576)
        have htk : W'.take (1048576 : Int).toNat = W' := List.take_of_length_le (by have := HWL.out; simp; omega)
        rw [htk] at HTD
        have B7 := Lib.hid b7
        clear hV7 b7 htk
        go_wp2_with fail
        refine HTD.out.mono ?_
        rintro e w8 ⟨v8, rfl, o8, b8⟩
        have BB8 : Hid (Below wc.heap.size wc w8) := Lib.hid (B7.out.trans (b8.mono B7.out.size))
        have X8 := Lib.hid (Q1.out.below BB8.out)
        have M8 := Lib.hid (mapI_obj Q2.out (obj_below BB8.out (by obtain ⟨es, clk, ho, _⟩ := Q2.out; exact lt_of_obj ho)))
        have B8 := Lib.hid (HB'.out.trans (BB8.out.mono HB'.out.size))
        obtain ⟨oa8, cp8, rfl⟩ := o8.slice
        have hv8 := o8.slIn alL_length
        obtain ⟨_, _, e8, _, hm8, q8⟩ := hv8
        simp only [Value.slice.injEq] at e8
        obtain ⟨rfl, _, rfl⟩ := e8
        have Q8 := Lib.hid q8
        have hlm := fun ty => run_len_int (P := Try.prog) (w := w8) (m := mw) (enc := intV) Try.underlying53 ty M8.out
        rw [HML.out] at hlm
        have HLN := Lib.hid (len_hp w8 F' _ W' X8.out)
        clear q8 o8 b8 HB' B7
        go_wp2_with fail
        refine HLN.out.mono ?_
        rintro e w9 ⟨rfl, rfl⟩
        clear HLN
        go_wp2
        clear hlm
        go_loopw [141] (fun v141 ws => ∃ j : Nat, j ≤ W'.length ∧ v141 = .int .i64 j ∧ Hid (Below w8.heap.size w8 ws)) (fun i _ => W'.length - (intOf i).toNat)
        case atStart => exact ⟨0, Nat.zero_le _, rfl, Lib.hid (Below.refl _ _)⟩
        case round =>
          obtain ⟨j, hj, rfl, HBj⟩ := hrel
          unfold maxLen at hm8
          by_cases hlj : j < W'.length
          · obtain ⟨b', off', hoa', hbb', hrow'⟩ := Q8.out (by omega)
            subst hoa'
            have hs1' := hrow' j hlj
            rw [← obj_below HBj.out hbb'] at hs1'
            have hbl' : b' < wr.heap.size := Nat.lt_of_lt_of_le hbb' HBj.out.size
            obtain ⟨a1, a2, a3⟩ := Q3.out.at_ Q1.out.keys (List.getElem_mem hlj)
            generalize W'[j] = x at *
            obtain ⟨x1, x2⟩ := x
            simp only [alL] at hs1'
            simp only at a1 a2 a3
            have b9 : Below wr.heap.size wr (wr.alloc (.cells #[.int .i64 x1, .int .i64 x2] 32)) := (Below.refl _ wr).alloc (Nat.le_refl _) _
            have B9 : Hid (Below w8.heap.size w8 (wr.alloc (.cells #[.int .i64 x1, .int .i64 x2] 32))) := Lib.hid (HBj.out.trans (b9.mono HBj.out.size))
            have o9 : obj (wr.alloc (.cells #[.int .i64 x1, .int .i64 x2] 32)) wr.heap.size = some (.cells #[.int .i64 x1, .int .i64 x2] 32 (0, 0)) := obj_alloc_at _ _ _ rfl
            have HAT := Lib.hid (at_hp _ F' _ W' x2 (X8.out.below B9.out))
            rw [a2, a3] at HAT
            have hl := run_lookup_int (P := Try.prog) (w := wr.alloc (.cells #[.int .i64 x1, .int .i64 x2] 32)) (m := mw) (enc := intV) Try.underlying53 Try.underlying2 zero2' (mapI_obj M8.out (obj_below B9.out (by obtain ⟨es, clk, ho, _⟩ := M8.out; exact lt_of_obj ho))) x2
            rw [a1] at hl
            simp only [intV] at hl
            have hq1 : (x1 != x1) = false := by simp
            clear hrow' a1 a2 a3 b9
            go_wp2_with fail
            generalize wr.alloc (.cells #[.int .i64 x1, .int .i64 x2] 32) = wz at *
            generalize wr.heap.size = xb at *
            have cz0 : wz.cell? ⟨xb, 0, none⟩ = some (.int .i64 x1) := cell_at o9 0
            have cz1 : wz.cell? ⟨xb, 1, none⟩ = some (.int .i64 x2) := cell_at o9 1
            have hxz := lt_of_obj o9
            refine HAT.out.mono ?_
            rintro e wy ⟨rfl, rfl⟩
            clear o9 HAT
            go_wp2
            go_roundw
            case rel => exact ⟨j + 1, by omega, by go_num, B9⟩
            case measure => simp [intOf]; omega
          · have hj' : j = W'.length := by omega
            subst hj'
            have FIN : Hid (KS w mw (w.heap.size + 1) wr) := Lib.hid ⟨W', M', F', X8.out.below HBj.out, mapI_obj M8.out (obj_below HBj.out (by obtain ⟨es, clk, ho, _⟩ := M8.out; exact lt_of_obj ho)), Q3.out, Q4.out⟩
            have BF : Hid (Below w.heap.size w wr) := Lib.hid (B8.out.trans (HBj.out.mono B8.out.size))
            clear hlj hj HBj X8 M8 B8
            go_wp2
            go_roundw
            case rel => exact ⟨k + 1, by omega, by go_num, FIN, BF⟩
            case measure => simp [intOf]; omega
    · have hk' : k = n := by omega
      subst hk'
      go_wp2
      go_ret
      exact ⟨rfl, HBr.out⟩
end Go.Proofs.Ytggpmepiggnnnaa
