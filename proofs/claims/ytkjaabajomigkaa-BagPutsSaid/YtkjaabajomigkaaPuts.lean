import Derived.Test.YtkjaabajomigkaaMost
namespace Go.Proofs.Ytkjaabajomigkaa
open Go.RowKit

/-- a law's beginning: the call's row of two bags, and what few says -/
theorem few_row22 (w1 : World) (v1 v2 : Value) (xs ys : List Vt) (h1 : SlIn w1 v1 33 vtL xs) (h2 : SlIn w1 v2 33 vtL ys) :
    Calls Try.prog 10 #[.slice (some ⟨w1.heap.size, 0, none⟩) 2 2] (w1.alloc (.cells #[v1, v2] 22)) fun e w' => e = .returned (.bool (decide (xs.length ≤ 60 ∧ ys.length ≤ 60))) ∧ Below w1.heap.size w1 w' := by
  have hb2 : Below w1.heap.size w1 (w1.alloc (.cells #[v1, v2] 22)) := (Below.refl _ _).alloc (Nat.le_refl _) _
  refine (few_any _ w1.heap.size v1 v2 xs ys (h1.below hb2) (h2.below hb2) 22 (0, 0) (obj_alloc_at _ _ _ rfl)).mono ?_
  rintro e w' ⟨h1, h2⟩
  exact ⟨h1, hb2.trans (h2.mono (by simp))⟩
theorem OwnS.one {α : Type} {w : World} {base E k g : Nat} {enc : α → List Value} {x : α} (hk : (enc x).length = k) (ho : obj w g = some (.cells (enc x).toArray E (0, 0))) (hb : base ≤ g) : OwnS w base E k enc (.slice (some ⟨g, 0, none⟩) 1 1) [x] := by
  refine ⟨⟨by simp [hk], .inr ⟨g, 1, (enc x).toArray, rfl, hb, ho, Nat.le_refl _, by unfold maxLen; omega, by simp [hk], ?_⟩⟩, ?_⟩
  · simp [hk]
    exact List.take_of_length_le (by omega)
  · constructor <;> intro e <;> cases e
/-- rows of votes of which the numbers alone are known -/
def NRow (W : World) (v : Value) (len : Nat) : Prop :=
  ∃ oa cap, v = .slice oa len cap ∧ len ≤ cap ∧ cap ≤ maxLen ∧ (0 < len → ∃ g cur, oa = some ⟨g, 0, none⟩ ∧ obj W g = some (.cells cur 33 (0, 0)) ∧ len * 33 ≤ cur.size ∧ ∀ i, i < len → ∃ n, cur[i * 33 + 32]? = some (.int .i64 n))
theorem NRow.of_own {W : World} {base : Nat} {v : Value} {xs : List Vt} (h : OwnS W base 33 33 vtL v xs) : NRow W v xs.length := by
  rcases h.1.2 with ⟨rfl, h0⟩ | ⟨g, cap, cur, rfl, hb, hg, h1, h2, h3, h4⟩
  · exact ⟨none, 0, by rw [h0], by omega, Nat.zero_le _, fun hp => by omega⟩
  · refine ⟨_, cap, rfl, h1, h2, fun _ => ⟨g, cur, rfl, hg, by rw [h3]; exact Nat.mul_le_mul_right _ h1, fun i hi => ⟨xs[i].n, ?_⟩⟩⟩
    have := flatMap_getD vtL_length xs i 32 hi (by decide)
    rw [← h4, List.getElem?_take_of_lt (by omega), Array.getElem?_toList, vtL_32] at this
    exact this
theorem NRow.of_obj {W W' : World} {v : Value} {len : Nat} (h : NRow W v len) (e : ∀ g, v.ownBlock = some g → obj W' g = obj W g) : NRow W' v len := by
  obtain ⟨oa, cap, rfl, h1, h2, h3⟩ := h
  refine ⟨oa, cap, rfl, h1, h2, fun hp => ?_⟩
  obtain ⟨g, cur, rfl, hg, h4, h5⟩ := h3 hp
  exact ⟨g, cur, rfl, (e g rfl).trans hg, h4, h5⟩
theorem NRow.set {W : World} {v : Value} {len g i : Nat} {m : Int} (h : NRow W v len) : NRow (W.setCell ⟨g, i * 33 + 32, none⟩ (.int .i64 m)) v len := by
  obtain ⟨oa, cap, rfl, h1, h2, h3⟩ := h
  refine ⟨oa, cap, rfl, h1, h2, fun hp => ?_⟩
  obtain ⟨g', cur, rfl, hg, h4, h5⟩ := h3 hp
  by_cases e : g' = g
  · subst e
    refine ⟨g', _, rfl, obj_setCell_at _ hg, by simpa using h4, fun j hj => ?_⟩
    by_cases ej : j = i
    · subst ej
      exact ⟨m, by rw [Array.getElem?_setIfInBounds_self_of_lt (by omega)]⟩
    · obtain ⟨n, hn⟩ := h5 j hj
      exact ⟨n, by rw [Array.getElem?_setIfInBounds_ne (by omega)]; exact hn⟩
  · exact ⟨g', cur, rfl, (obj_setCell_ne _ _ _ _ e).trans hg, h4, h5⟩
/-- the three rows that are written over, and the row of them -/
def Three (w1 : World) (S m : Nat) (v1 v2 v3 : Value) (n1 n2 n3 : Nat) (W : World) : Prop :=
  Below S w1 W ∧ obj W m = some (.cells #[v1, v2, v3] 22 (0, 0)) ∧ NRow W v1 n1 ∧ NRow W v2 n2 ∧ NRow W v3 n3
theorem Three.set {w1 W : World} {S m : Nat} {v1 v2 v3 : Value} {n1 n2 n3 g i : Nat} {k : Int} {cur : Array Value} (h : Three w1 S m v1 v2 v3 n1 n2 n3 W) (hg : obj W g = some (.cells cur 33 (0, 0))) (hS : S ≤ g) : Three w1 S m v1 v2 v3 n1 n2 n3 (W.setCell ⟨g, i * 33 + 32, none⟩ (.int .i64 k)) := by
  obtain ⟨h1, h2, h3, h4, h5⟩ := h
  refine ⟨h1.setCell (p := ⟨g, i * 33 + 32, none⟩) hS _, ?_, h3.set, h4.set, h5.set⟩
  refine (obj_setCell_ne _ _ _ _ (fun e => ?_)).trans h2
  have e' : m = g := e
  subst e'
  rw [h2] at hg
  cases hg
theorem ret_err {a b : Int} (h : a = b) : (a != b) = false := by simp [h]
set_option maxRecDepth 100000 in
set_option maxHeartbeats 4000000 in
/-- BagPuts -/
theorem putsLaw_any (w : World) (va vb : Value) (a b : List Vt) (x : Vt) (h1 : SlIn w va 33 vtL a) (h2 : SlIn w vb 33 vtL b) :
    Calls Try.prog 8 #[va, vb, .agg (vtL x).toArray] w fun e w' => e = .returned (.bool true) ∧ Below w.heap.size w w' := by
  have HL := fun W => Lib.hid (live_any W)
  have H1 := Lib.hid h1
  have H2 := Lib.hid h2
  have B1 := Lib.hid ((Below.refl _ w).alloc (Nat.le_refl _) (.cells (vtL x).toArray 33))
  have O1 : Hid (obj (w.alloc (.cells (vtL x).toArray 33)) w.heap.size = some (.cells (vtL x).toArray 33 (0, 0))) := Lib.hid (obj_alloc_at _ _ _ rfl)
  have HFE := fun w1 (hb : Below w.heap.size w w1) => Lib.hid (few_row22 w1 va vb a b (h1.below hb) (h2.below hb))
  obtain ⟨oa, ca, rfl, a1, a2, a3⟩ := h1
  obtain ⟨ob, cb, rfl, b1, b2, b3⟩ := h2
  have HR := Lib.hid b3
  unfold maxLen at a2 b2
  clear a3 b3
  by_cases hn : a.length ≤ 60 ∧ b.length ≤ 60
  · rw [show decide (a.length ≤ 60 ∧ b.length ≤ 60) = true from decide_eq_true hn] at HFE
    obtain ⟨hna, hnb⟩ := hn
    go_enter Try.func8, Try.ntmps8
    go_wp2_with fail
    generalize w.alloc (.cells (vtL x).toArray 33) = w0 at *
    refine (HL _).out.mono ?_
    rintro e w2 ⟨rfl, b2'⟩
    have B2 := Lib.hid (B1.out.trans (b2'.mono B1.out.size))
    have O2 := Lib.hid ((obj_below b2' (lt_of_obj O1.out)).trans O1.out)
    have HF := Lib.hid (HFE w2 B2.out).out
    clear b2' HFE B1 O1 HL
    go_wp2_with fail
    refine HF.out.mono ?_
    rintro e w3 ⟨rfl, b3⟩
    have B3 := Lib.hid (B2.out.trans (b3.mono B2.out.size))
    have O3 := Lib.hid ((obj_below b3 (lt_of_obj O2.out)).trans O2.out)
    have HC := Lib.hid (clone_votes w3 _ a (H1.out.below B3.out) (by omega))
    clear b3 HF B2 O2
    go_wp2_with fail
    refine HC.out.mono ?_
    rintro e w4 ⟨v7, rfl, o7, b4⟩
    have B4 := Lib.hid (B3.out.trans (b4.mono B3.out.size))
    have O4 := Lib.hid ((obj_below b4 (lt_of_obj O3.out)).trans O3.out)
    have HW := Lib.hid (o7.slIn vtL_length)
    have HA := Lib.hid (add_any w4 _ a x.id x.n (H1.out.below B4.out) (by omega))
    obtain ⟨p1, p2⟩ := vt_parts (x := x) (W := w4) (b := w.heap.size) (o := 0) (by rw [O4.out, subOf_cells (by simp), subA_all (by simp)])
    rw [Nat.zero_add] at p2
    have hl4 := lt_of_obj O4.out
    clear b4 HC B3 O3 o7
    go_wp2_with fail
    refine HA.out.mono ?_
    rintro e w5 ⟨v8, rfl, o8, b5⟩
    have hz5 := b5.size
    have B5 := Lib.hid b5
    have X5 := Lib.hid (B4.out.trans (b5.mono B4.out.size))
    have O5 := Lib.hid ((obj_below b5 hl4).trans O4.out)
    have HO8 := Lib.hid o8
    have HAR := Lib.hid (addR_any w5 _ a x.id x.n (H1.out.below X5.out) (by omega))
    obtain ⟨p1, p2⟩ := vt_parts (x := x) (W := w5) (b := w.heap.size) (o := 0) (by rw [O5.out, subOf_cells (by simp), subA_all (by simp)])
    rw [Nat.zero_add] at p2
    have hl5 := lt_of_obj O5.out
    clear b5 HA o8
    go_wp2_with fail
    refine HAR.out.mono ?_
    rintro e w6 ⟨v10, rfl, o10, b6⟩
    have B6 := Lib.hid (B5.out.trans (b6.mono hz5))
    have O6 := Lib.hid ((obj_below b6 hl5).trans O5.out)
    have HO86 := Lib.hid (HO8.out.below b6)
    have HEQ := Lib.hid (equal_votes w6 v8 v10 _ _ (HO86.out.slIn vtL_length) (o10.slIn vtL_length))
    rw [show decide (addV a x.id x.n = addV a x.id x.n) = true from decide_eq_true rfl] at HEQ
    generalize addV a x.id x.n = AV at *
    generalize addE a x.n = AE at *
    clear b6 HAR HO8 o10
    go_wp2_with fail
    refine HEQ.out.mono ?_
    rintro e w7 ⟨rfl, b7⟩
    have hz6 := B6.out.size
    have B7 := Lib.hid (B6.out.trans (b7.mono hz6))
    have O7 := Lib.hid ((obj_below b7 (lt_of_obj O6.out)).trans O6.out)
    have HO87 := Lib.hid (HO86.out.below b7)
    have hae : (AE != AE) = false := by simp
    obtain ⟨p1, p2⟩ := vt_parts (x := x) (W := w7) (b := w.heap.size) (o := 0) (by rw [O7.out, subOf_cells (by simp), subA_all (by simp)])
    rw [Nat.zero_add] at p2
    have hl7 := lt_of_obj O7.out
    clear b7 HEQ HO86
    have O8i : Hid (obj (w7.alloc (.cells (idL x.id).toArray 27)) w7.heap.size = some (.cells (idL x.id).toArray 27 (0, 0))) := Lib.hid (obj_alloc_at _ _ _ rfl)
    have B8 := Lib.hid (B7.out.alloc B7.out.size (.cells (idL x.id).toArray 27))
    have HO88 := Lib.hid (HO87.out.alloc (.cells (idL x.id).toArray 27))
    have OI8 := Lib.hid (OwnS.one (base := w4.heap.size) (idL_length x.id) O8i.out B7.out.size)
    have HXID : Hid (x.id :: (b.take 0).map (·.id) = [x.id]) := Lib.hid rfl
    clear HO87
    go_wp2
    clear p1 p2
    generalize w7.alloc (.cells (idL x.id).toArray 27) = w8 at *
    generalize w7.heap.size = m7 at *
    go_loopw [12, 65] (fun v12 v65 wr => ∃ k : Nat, k ≤ b.length ∧ v65 = .int .i64 k ∧ Hid (OwnS wr w4.heap.size 27 32 idL v12 (x.id :: (b.take k).map (·.id))) ∧ Hid (OwnS wr w4.heap.size 33 33 vtL v8 AV) ∧ Hid (Below w4.heap.size w4 wr)) (fun _ i _ => b.length - (intOf i).toNat)
    case atStart => exact ⟨0, Nat.zero_le _, rfl, by rw [HXID.out]; exact OI8, HO88, B8⟩
    case round =>
      obtain ⟨k, hk, rfl, HO, HOV, HQ⟩ := hrel
      have hzq := HQ.out.size
      have hzq4 := B4.out.size
      have HQW := Lib.hid (B4.out.trans (HQ.out.mono hzq4))
      by_cases hlt : k < b.length
      · obtain ⟨bb, off, hoa, hbb, hrow⟩ := HR.out (by omega)
        subst hoa
        have hs1 := hrow k hlt
        rw [← obj_below HQW.out hbb] at hs1
        have hbl : bb < wr.heap.size := by omega
        have hmulk : off + k * 33 + 33 ≤ off + k * 33 + 33 := Nat.le_refl _
        have hnx : Hid (x.id :: (b.take (k + 1)).map (·.id) = (x.id :: (b.take k).map (·.id)) ++ [b[k].id]) := Lib.hid (by
          rw [List.take_succ_eq_append_getElem hlt, List.map_append]
          rfl)
        have hln : Hid ((x.id :: (b.take k).map (·.id)).length ≤ 1048576) := Lib.hid (by
          rw [List.length_cons, List.length_map, List.length_take]
          omega)
        have o2 : obj (wr.alloc (.cells (vtL b[k]).toArray 33)) wr.heap.size = some (.cells (vtL b[k]).toArray 33 (0, 0)) := obj_alloc_at _ _ _ rfl
        have HQ2 := Lib.hid (HQ.out.alloc hzq (.cells (vtL b[k]).toArray 33))
        have HO2 := Lib.hid (HO.out.alloc (.cells (vtL b[k]).toArray 33))
        have HOV2 := Lib.hid (HOV.out.alloc (.cells (vtL b[k]).toArray 33))
        clear hrow HO HOV
        generalize b[k] = y at *
        generalize x.id :: (b.take k).map (·.id) = ws at *
        obtain ⟨p1, p2⟩ := vt_parts (x := y) (W := wr.alloc (.cells (vtL y).toArray 33)) (b := wr.heap.size) (o := 0) (by rw [o2, subOf_cells (by simp), subA_all (by simp)])
        rw [Nat.zero_add] at p2
        have hne : Hid (∀ j, v8.ownBlock = some j → u12.ownBlock ≠ some j) := Lib.hid (fun j hj hu => by
          rcases HOV2.out.1.2 with ⟨e, _⟩ | ⟨g, cap, cur, e, _, hg, _⟩
          · rw [e] at hj; simp [Value.ownBlock] at hj
          · rcases HO2.out.1.2 with ⟨e', _⟩ | ⟨g', cap', cur', e', _, hg', _⟩
            · rw [e'] at hu; simp [Value.ownBlock] at hu
            · rw [e] at hj
              rw [e'] at hu
              simp [Value.ownBlock] at hj hu
              subst hj
              subst hu
              rw [hg] at hg'
              cases hg')
        clear o2
        go_wp2_with (at_builtin; refine push23 rfl _ _ rfl w4.heap.size u12 ws y.id rfl (HO2.out.alloc _) (wr.heap.size + 1) rfl (obj_alloc_at _ _ _ (by simp)) hln.out (by simp; omega) ?_; intro v' w' hO' hB' hk'; have HO' := Lib.hid hO'; have HOV' := Lib.hid ((HOV2.out.alloc _).keeps (fun g hg => hk' g ((HOV2.out.alloc _).1.lt g hg).2 (hne.out g hg))); have HB' := Lib.hid ((HQ2.out.alloc (by simp; omega) _).trans hB'); clear hO' hB' hk')
        go_roundw
        case rel => exact ⟨k + 1, by omega, by go_num, by rw [hnx.out]; exact HO', HOV', HB'⟩
        case measure => simp [intOf]; omega
      · have hke : x.id :: (b.take k).map (·.id) = x.id :: b.map (·.id) := by rw [List.take_of_length_le (by omega)]
        rw [hke] at HO
        generalize x.id :: b.map (·.id) = ids at *
        have HIN := Lib.hid (HO.out.slIn idL_length)
        have HON := Lib.hid (only_any wr _ _ a ids (H1.out.below HQW.out) HIN.out)
        clear HR hke HO
        go_wp2_with fail
        refine HON.out.mono ?_
        rintro e w9 ⟨v15, rfl, o15, b9⟩
        have B9 := Lib.hid (HQ.out.trans (b9.mono hzq))
        have X9 := Lib.hid (HQW.out.trans (b9.mono (by omega)))
        have HOV9 := Lib.hid (HOV.out.below b9)
        have HP9 := Lib.hid (o15.rebase (b' := w4.heap.size) hzq)
        have HIN9 := Lib.hid (HIN.out.below b9)
        have HONR := Lib.hid (onlyR_any w9 _ _ a ids (H1.out.below X9.out) HIN9.out (by omega))
        clear b9 HON o15 HIN HOV
        go_wp2_with fail
        refine HONR.out.mono ?_
        rintro e w10 ⟨v81, rfl, o81, b10⟩
        have B10 := Lib.hid (B9.out.trans (b10.mono B9.out.size))
        have X10 := Lib.hid (X9.out.trans (b10.mono X9.out.size))
        have HOV10 := Lib.hid (HOV9.out.below b10)
        have HP10 := Lib.hid (HP9.out.below b10)
        have HEQ2 := Lib.hid (equal_votes w10 v15 v81 _ _ (HP10.out.slIn vtL_length) (o81.slIn vtL_length))
        rw [show decide (onlyV a ids = onlyV a ids) = true from decide_eq_true rfl] at HEQ2
        generalize onlyV a ids = PV at *
        clear b10 HONR o81 HOV9 HP9
        go_wp2_with fail
        refine HEQ2.out.mono ?_
        rintro e w11 ⟨rfl, b11⟩
        have B11 := Lib.hid (B10.out.trans (b11.mono B10.out.size))
        have X11 := Lib.hid (X10.out.trans (b11.mono X10.out.size))
        have HOV11 := Lib.hid (HOV10.out.below b11)
        have HP11 := Lib.hid (HP10.out.below b11)
        have HME := Lib.hid (merge_any w11 _ _ a b (H1.out.below X11.out) (H2.out.below X11.out))
        clear b11 HEQ2 HOV10 HP10
        go_wp2_with fail
        refine HME.out.mono ?_
        rintro e w12 ⟨v16, rfl, o16, b12⟩
        have B12 := Lib.hid (B11.out.trans (b12.mono B11.out.size))
        have X12 := Lib.hid (X11.out.trans (b12.mono X11.out.size))
        have HOV12 := Lib.hid (HOV11.out.below b12)
        have HP12 := Lib.hid (HP11.out.below b12)
        have HM12 := Lib.hid (o16.rebase (b' := w4.heap.size) B11.out.size)
        have HMR := Lib.hid (mergeR_any w12 _ _ a b (H1.out.below X12.out) (H2.out.below X12.out) (by omega))
        clear b12 HME o16 HOV11 HP11
        go_wp2_with fail
        refine HMR.out.mono ?_
        rintro e w13 ⟨v17, rfl, o17, b13⟩
        have B13 := Lib.hid (B12.out.trans (b13.mono B12.out.size))
        have X13 := Lib.hid (X12.out.trans (b13.mono X12.out.size))
        have HOV13 := Lib.hid (HOV12.out.below b13)
        have HP13 := Lib.hid (HP12.out.below b13)
        have HM13 := Lib.hid (HM12.out.below b13)
        have HEQ3 := Lib.hid (equal_votes w13 v16 v17 _ _ (HM13.out.slIn vtL_length) (o17.slIn vtL_length))
        rw [show decide (mergeW a b = mergeW a b) = true from decide_eq_true rfl] at HEQ3
        generalize mergeW a b = MV at *
        generalize mergeE a b = ME at *
        have hme : (ME != ME) = false := by simp
        clear b13 HMR o17 HOV12 HP12 HM12
        go_wp2_with fail
        refine HEQ3.out.mono ?_
        rintro e w14 ⟨rfl, b14⟩
        have hz14 := Nat.le_trans B13.out.size b14.size
        obtain ⟨o8a, c8a, rfl⟩ := HOV13.out.slice
        obtain ⟨o15a, c15a, rfl⟩ := HP13.out.slice
        obtain ⟨o16a, c16a, rfl⟩ := HM13.out.slice
        have B14 := Lib.hid ((B13.out.trans (b14.mono B13.out.size)).alloc hz14 (.cells #[.slice o8a AV.length c8a, .slice o15a PV.length c15a, .slice o16a MV.length c16a] 22))
        have H8 := Lib.hid (NRow.of_own ((HOV13.out.below b14).alloc (.cells #[.slice o8a AV.length c8a, .slice o15a PV.length c15a, .slice o16a MV.length c16a] 22)))
        have H15 := Lib.hid (NRow.of_own ((HP13.out.below b14).alloc (.cells #[.slice o8a AV.length c8a, .slice o15a PV.length c15a, .slice o16a MV.length c16a] 22)))
        have H16 := Lib.hid (NRow.of_own ((HM13.out.below b14).alloc (.cells #[.slice o8a AV.length c8a, .slice o15a PV.length c15a, .slice o16a MV.length c16a] 22)))
        have O14 : Hid (obj (w14.alloc (.cells #[.slice o8a AV.length c8a, .slice o15a PV.length c15a, .slice o16a MV.length c16a] 22)) w14.heap.size = some (.cells #[.slice o8a AV.length c8a, .slice o15a PV.length c15a, .slice o16a MV.length c16a] 22 (0, 0))) := Lib.hid (obj_alloc_at _ _ _ rfl)
        have G8 := Lib.hid (fun g (hg : (Value.slice o8a AV.length c8a).ownBlock = some g) => (HOV13.out.1.lt g hg).1)
        have G15 := Lib.hid (fun g (hg : (Value.slice o15a PV.length c15a).ownBlock = some g) => (HP13.out.1.lt g hg).1)
        have G16 := Lib.hid (fun g (hg : (Value.slice o16a MV.length c16a).ownBlock = some g) => (HM13.out.1.lt g hg).1)
        have T14 : Hid (Three w4 w4.heap.size w14.heap.size (.slice o8a AV.length c8a) (.slice o15a PV.length c15a) (.slice o16a MV.length c16a) AV.length PV.length MV.length (w14.alloc (.cells #[.slice o8a AV.length c8a, .slice o15a PV.length c15a, .slice o16a MV.length c16a] 22))) := Lib.hid ⟨B14.out, O14.out, H8.out, H15.out, H16.out⟩
        clear b14 HEQ3 HOV13 HP13 HM13 H8 H15 H16 O14
        go_wp2
        generalize w14.alloc (.cells #[.slice o8a AV.length c8a, .slice o15a PV.length c15a, .slice o16a MV.length c16a] 22) = wt at *
        generalize w14.heap.size = mt at *
        go_loopw [110] (fun v110 wr => ∃ k : Nat, k ≤ 3 ∧ v110 = .int .i64 k ∧ Hid (Three w4 w4.heap.size mt (.slice o8a AV.length c8a) (.slice o15a PV.length c15a) (.slice o16a MV.length c16a) AV.length PV.length MV.length wr)) (fun i _ => 3 - (intOf i).toNat)
        case atStart => exact ⟨0, by omega, rfl, T14⟩
        case round =>
          obtain ⟨k, hk, rfl, HT⟩ := hrel
          by_cases hlt3 : k < 3
          · obtain ⟨od, ld, cd, hcd, HND⟩ : ∃ od ld cd, wr.cell? ⟨mt, k, none⟩ = some (.slice od ld cd) ∧ Hid (ld ≤ cd ∧ cd ≤ maxLen ∧ (∀ W, Three w4 w4.heap.size mt (.slice o8a AV.length c8a) (.slice o15a PV.length c15a) (.slice o16a MV.length c16a) AV.length PV.length MV.length W → NRow W (.slice od ld cd) ld) ∧ ∀ g, (Value.slice od ld cd).ownBlock = some g → w4.heap.size ≤ g) := by
              have c0 := cell_at HT.out.2.1 k
              have hsh : ∀ (o : Option Addr) (n c : Nat), NRow wr (.slice o n c) n → n ≤ c ∧ c ≤ maxLen := fun o n c h => by
                obtain ⟨_, _, e, h1, h2, _⟩ := h
                simp only [Value.slice.injEq] at e
                obtain ⟨_, _, rfl⟩ := e
                exact ⟨h1, h2⟩
              have hks : k = 0 ∨ k = 1 ∨ k = 2 := by omega
              rcases hks with rfl | rfl | rfl
              · exact ⟨_, _, _, c0, Lib.hid ⟨(hsh _ _ _ HT.out.2.2.1).1, (hsh _ _ _ HT.out.2.2.1).2, fun W h => h.2.2.1, G8.out⟩⟩
              · exact ⟨_, _, _, c0, Lib.hid ⟨(hsh _ _ _ HT.out.2.2.2.1).1, (hsh _ _ _ HT.out.2.2.2.1).2, fun W h => h.2.2.2.1, G15.out⟩⟩
              · exact ⟨_, _, _, c0, Lib.hid ⟨(hsh _ _ _ HT.out.2.2.2.2).1, (hsh _ _ _ HT.out.2.2.2.2).2, fun W h => h.2.2.2.2, G16.out⟩⟩
            have hmt := lt_of_obj HT.out.2.1
            have hlc := HND.out.1
            have hcm := HND.out.2.1
            unfold maxLen at hcm
            go_wp2
            go_loopw [116] (fun v116 wr => ∃ j : Nat, j ≤ ld ∧ v116 = .int .i64 j ∧ Hid (Three w4 w4.heap.size mt (.slice o8a AV.length c8a) (.slice o15a PV.length c15a) (.slice o16a MV.length c16a) AV.length PV.length MV.length wr)) (fun i _ => ld - (intOf i).toNat)
            case atStart => exact ⟨0, Nat.zero_le _, rfl, HT⟩
            case round =>
              obtain ⟨j, hj, rfl, HTj⟩ := hrel
              by_cases hjt : j < ld
              · obtain ⟨oa', cap', e', _, _, h3⟩ := HND.out.2.2.1 wr HTj.out
                simp only [Value.slice.injEq] at e'
                obtain ⟨rfl, _, rfl⟩ := e'
                obtain ⟨g, cur, rfl, hg, hsz, hin⟩ := h3 (by omega)
                obtain ⟨nn, hnn⟩ := hin j hjt
                have hgS : w4.heap.size ≤ g := HND.out.2.2.2 g rfl
                have cj : wr.cell? ⟨g, j * 33 + 32, none⟩ = some (.int .i64 nn) := (cell_at hg _).trans hnn
                have fj := frozen_at hg (j * 33 + 32)
                have hgl := lt_of_obj hg
                have HSET := Lib.hid (fun (m : Int) => HTj.out.set (i := j) (k := m) hg hgS)
                clear h3 hin hnn hg
                go_wp2
                go_roundw
                case rel => exact ⟨j + 1, by omega, by go_num, Lib.hid (HSET.out _)⟩
                case measure => simp [intOf]; omega
              · go_wp2
                go_roundw
                case rel => exact ⟨k + 1, by omega, by go_num, HTj⟩
                case measure => simp [intOf]; omega
          · have HEQ4 := Lib.hid (equal_votes wr _ v7 a a (H1.out.below (B4.out.trans (HT.out.1.mono hzq4))) (HW.out.below HT.out.1))
            rw [show decide (a = a) = true from decide_eq_true rfl] at HEQ4
            have XT := Lib.hid (B4.out.trans (HT.out.1.mono hzq4))
            go_wp2_with fail
            refine HEQ4.out.mono ?_
            rintro e wz ⟨rfl, bz⟩
            have XZ := Lib.hid (XT.out.trans (bz.mono XT.out.size))
            clear bz HEQ4
            go_wp2
            go_ret
            exact ⟨rfl, XZ.out⟩
  · rw [show decide (a.length ≤ 60 ∧ b.length ≤ 60) = false from decide_eq_false hn] at HFE
    go_enter Try.func8, Try.ntmps8
    go_wp2_with fail
    generalize w.alloc (.cells (vtL x).toArray 33) = w0 at *
    refine (HL _).out.mono ?_
    rintro e w2 ⟨rfl, b2'⟩
    have B2 := Lib.hid (B1.out.trans (b2'.mono B1.out.size))
    have HF := Lib.hid (HFE w2 B2.out).out
    clear b2' HFE B1 O1
    go_wp2_with fail
    refine HF.out.mono ?_
    rintro e w3 ⟨rfl, b3⟩
    have B3 := Lib.hid (B2.out.trans (b3.mono B2.out.size))
    clear b3 HF B2
    go_wp2_with fail
    refine (HL _).out.mono ?_
    rintro e w5 ⟨rfl, b5⟩
    have B5 := Lib.hid (B3.out.trans (b5.mono B3.out.size))
    clear b5
    go_wp2
    go_ret
    exact ⟨rfl, B5.out⟩
end Go.Proofs.Ytkjaabajomigkaa
