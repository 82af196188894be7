import Derived.Test.YtmgpfmgmpmkkaaaGreatNw
namespace Go.Proofs.YtmgpfmgmpmkkaaaGreat
open Go.RowKit Go.Shelf Go.Sort

instance decSaid : DecidableEq SaidM := fun a b => decidable_of_iff (a.node = b.node ∧ a.ids = b.ids) ⟨fun h => by cases a; cases b; simp_all, fun h => by subst h; exact ⟨rfl, rfl⟩⟩
def sameSB (a b : SaidM) : Bool := decide (a.node = b.node) && decide (a.ids = b.ids)
theorem sameSB_eq (a b : SaidM) : sameSB a b = decide (a = b) := by
  unfold sameSB
  cases a; cases b
  simp
def sameB (a b : FrM) : Bool := decide (a.phase = b.phase) && decide (a.op = b.op) && decide (a.tips = b.tips) && decide (a.said = b.said)
theorem sameB_refl (a : FrM) : sameB a a = true := by simp [sameB]
theorem sameB_iff {a b : FrM} : sameB a b = true ↔ a = b := by
  cases a; cases b
  simp [sameB]
  constructor
  · rintro ⟨⟨⟨a, b⟩, c⟩, d⟩; exact ⟨a, b, c, d⟩
  · rintro ⟨a, b, c, d⟩; exact ⟨⟨⟨a, b⟩, c⟩, d⟩
set_option maxRecDepth 100000 in
set_option maxHeartbeats 1000000 in
/-- slices.Equal, of ints -/
theorem equal_ints (w : World) (v1 v2 : Value) (xs ys : List Int) (h : SlIn w v1 1 intL xs) (h' : SlIn w v2 1 intL ys) :
    Calls Tryz.prog 31 #[v1, v2] w fun e w' => e = .returned (.bool (decide (xs = ys))) ∧ Below w.heap.size w w' := by
  obtain ⟨oa, cap, rfl, h1, h2, h3⟩ := h
  obtain ⟨ob, cap', rfl, h1', h2', h3'⟩ := h'
  unfold maxLen at h2 h2'
  have H3 := Lib.hid h3
  have H3' := Lib.hid h3'
  clear h3 h3'
  by_cases hll : xs.length = ys.length
  · have hb0 : ((xs.length : Int) != (ys.length : Int)) = false := by simp [hll]
    have HLL := Lib.hid hll
    clear hll
    go_enter Tryz.func31, Tryz.ntmps31
    go_wp2
    go_loopw [5, 13] (fun _ v13 wr => ∃ k : Nat, k ≤ xs.length ∧ v13 = .int .i64 k ∧ Hid (∀ j (h1 : j < xs.length) (h2 : j < ys.length), j < k → xs[j] = ys[j]) ∧ Below w.heap.size w wr) (fun _ i _ => xs.length - (intOf i).toNat)
    case atStart => exact ⟨0, Nat.zero_le _, rfl, Lib.hid (by omega), Below.refl _ _⟩
    case round =>
      obtain ⟨k, hk, rfl, HK, hb⟩ := hrel
      by_cases hlt : k < xs.length
      · have hlt' : k < ys.length := by have := HLL.out; omega
        obtain ⟨b, off, hoa, hbb, hrow⟩ := H3.out (by omega)
        obtain ⟨b', off', hoa', hbb', hrow'⟩ := H3'.out (by omega)
        subst hoa
        subst hoa'
        have hs1 := hrow k hlt
        have hs2 := hrow' k hlt'
        rw [← obj_below hb hbb] at hs1
        rw [← obj_below hb hbb'] at hs2
        have hbl : b < wr.heap.size := Nat.lt_of_lt_of_le hbb hb.size
        have hbl' : b' < wr.heap.size := Nat.lt_of_lt_of_le hbb' hb.size
        have NX : Hid (xs[k] = ys[k] → ∀ j (h1 : j < xs.length) (h2 : j < ys.length), j < k + 1 → xs[j] = ys[j]) := Lib.hid (fun h j h1 h2 hlt' => by
            by_cases e : j = k
            · subst e; exact h
            · exact HK.out j h1 (by omega) (by omega))
        have NO : Hid (xs[k] ≠ ys[k] → xs ≠ ys) := Lib.hid (fun h e => h (by subst e; rfl))
        have cx : wr.cell? ⟨b, off + k * 1, none⟩ = some (.int .i64 xs[k]) := by
          have := subOf_cell hs1 (j := 0) (by decide)
          simpa [intL] using this
        have cy : wr.cell? ⟨b', off' + k * 1, none⟩ = some (.int .i64 ys[k]) := by
          have := subOf_cell hs2 (j := 0) (by decide)
          simpa [intL] using this
        rw [Nat.mul_one] at cx cy
        generalize xs[k] = x at *
        generalize ys[k] = y at *
        clear hrow hrow' hs1 hs2
        by_cases hxy : x = y
        · have hd : (x != y) = false := by simpa using hxy
          have HN := Lib.hid (NX.out hxy)
          clear hxy
          go_wp2
          go_quiet (fail)
          go_wp2
          go_roundw
          case rel => exact ⟨k + 1, by omega, by go_num, HN, below_drewN hb _⟩
          case measure => simp [intOf]; omega
        · have hd : (x != y) = true := by simpa using hxy
          have HN := Lib.hid (NO.out hxy)
          clear hxy
          go_wp2
          go_quiet (fail)
          go_wp2
          go_ret
          exact ⟨ret_bool (decide_eq_false HN.out).symm, below_drewN hb _⟩
      · have HN : Hid (xs = ys) := Lib.hid (List.ext_getElem HLL.out fun j h1 h2 => HK.out j h1 h2 (by omega))
        go_wp2
        go_ret
        exact ⟨ret_bool (decide_eq_true HN.out).symm, hb⟩
  · have hb0 : ((xs.length : Int) != (ys.length : Int)) = true := by simp; omega
    have HN : Hid (xs ≠ ys) := Lib.hid (fun e => hll (by rw [e]))
    clear hll
    go_enter Tryz.func31, Tryz.ntmps31
    go_wp2
    go_ret
    exact ⟨ret_bool (decide_eq_false HN.out).symm, Below.refl _ _⟩
set_option maxRecDepth 100000 in
set_option maxHeartbeats 1000000 in
/-- the closure of Same -/
theorem sameS_any (w : World) (a b : SdD) (s t : SaidM) (ha : a.node = s.node) (hb : b.node = t.node) (h : SlIn w (.slice a.oa a.n a.cap) 32 idL s.ids) (h' : SlIn w (.slice b.oa b.n b.cap) 32 idL t.ids) :
    Calls Tryz.prog 56 #[.agg (sdL a).toArray, .agg (sdL b).toArray] w fun e w' => e = .returned (.bool (sameSB s t)) ∧ Below w.heap.size w w' := by
  obtain ⟨an, ao, al, ac⟩ := a
  obtain ⟨bn, bo, bl, bc⟩ := b
  obtain ⟨sn, si⟩ := s
  obtain ⟨tn, ti⟩ := t
  simp only at ha hb h h'
  subst ha hb
  have hb0 : Below w.heap.size w ((w.alloc (.cells #[.int .i64 an, .slice ao al ac] 42)).alloc (.cells #[.int .i64 bn, .slice bo bl bc] 42)) := ((Below.refl _ w).alloc (Nat.le_refl _) _).alloc (by simp) _
  have HQ := Lib.hid (equal_any _ _ _ si ti (h.below hb0) (h'.below hb0))
  have hz : ((w.alloc (.cells #[.int .i64 an, .slice ao al ac] 42)).alloc (.cells #[.int .i64 bn, .slice bo bl bc] 42)).heap.size = w.heap.size + 2 := by simp
  have HB := Lib.hid hb0
  have HZ := Lib.hid hz
  have HE : Hid (sameSB ⟨an, si⟩ ⟨bn, ti⟩ = (decide (an = bn) && decide (si = ti))) := Lib.hid rfl
  clear h h' hb0 hz
  show Calls Tryz.prog 56 #[.agg #[.int .i64 an, .slice ao al ac], .agg #[.int .i64 bn, .slice bo bl bc]] w _
  by_cases he : an = bn
  · have HE2 : Hid (sameSB ⟨an, si⟩ ⟨bn, ti⟩ = decide (si = ti)) := Lib.hid (by rw [HE.out, decide_eq_true he, Bool.true_and])
    generalize sameSB ⟨an, si⟩ ⟨bn, ti⟩ = T at *
    clear HE
    subst he
    go_enter Tryz.func56, Tryz.ntmps56
    go_wp2_with fail
    refine HQ.out.mono ?_
    rintro e w1 ⟨rfl, b1⟩
    have B1 := Lib.hid (HB.out.trans (b1.mono (by rw [HZ.out]; omega)))
    clear b1 HQ
    generalize decide (si = ti) = D at *
    go_wp2_with fail
    go_ret
    exact ⟨ret_bool HE2.out.symm, B1.out⟩
  · have HE2 : Hid (sameSB ⟨an, si⟩ ⟨bn, ti⟩ = false) := Lib.hid (by rw [HE.out, decide_eq_false he]; rfl)
    generalize sameSB ⟨an, si⟩ ⟨bn, ti⟩ = T at *
    clear HE HQ
    go_enter Tryz.func56, Tryz.ntmps56
    go_wp2_with fail
    go_ret
    exact ⟨ret_bool HE2.out.symm, HB.out⟩
theorem eg23 : ∀ args w, (callFunc 56 args).run Tryz.prog w = .ok (.enter 56 args) w := enters_of Tryz.func56 (by kernel_rfl) rfl
set_option maxRecDepth 100000 in
set_option maxHeartbeats 4000000 in
/-- slices.EqualFunc, of what was said -/
theorem equal_said (w : World) (v1 v2 : Value) (r1 r2 : List SdD) (l1 l2 : List SaidM) (h : SlIn w v1 2 sdL r1) (h' : SlIn w v2 2 sdL r2) (g : SdAt w r1 l1) (g' : SdAt w r2 l2) :
    Calls Tryz.prog 55 #[v1, v2, .func (.func 56) #[] #[]] w fun e w' => e = .returned (.bool (decide (l1 = l2))) ∧ Below w.heap.size w w' := by
  have eg := eg23
  obtain ⟨oa, cap, rfl, h1, h2, h3⟩ := h
  obtain ⟨ob, cap', rfl, h1', h2', h3'⟩ := h'
  unfold maxLen at h2 h2'
  have H3 := Lib.hid h3
  have H3' := Lib.hid h3'
  have HG := Lib.hid g
  have HG' := Lib.hid g'
  clear h3 h3' g g'
  by_cases hll : r1.length = r2.length
  case neg =>
    have hb0 : ((r1.length : Int) != (r2.length : Int)) = true := by simp; omega
    have HN : Hid (l1 ≠ l2) := Lib.hid (fun e => hll (by rw [HG.out.1, HG'.out.1, e]))
    clear hll
    go_enter Tryz.func55, Tryz.ntmps55
    go_wp2
    go_ret
    exact ⟨ret_bool (decide_eq_false HN.out).symm, Below.refl _ _⟩
  have hb0 : ((r1.length : Int) != (r2.length : Int)) = false := by simp [hll]
  have HLL := Lib.hid hll
  clear hll
  go_enter Tryz.func55, Tryz.ntmps55
  go_wp2
  go_loopw [7, 8, 9, 17] (fun _ _ _ v17 wr => ∃ k : Nat, k ≤ r1.length ∧ v17 = .int .i64 k ∧ Hid (∀ j (h1 : j < l1.length) (h2 : j < l2.length), j < k → l1[j] = l2[j]) ∧ Hid (Below w.heap.size w wr)) (fun _ _ _ i _ => r1.length - (intOf i).toNat)
  case atStart => exact ⟨0, Nat.zero_le _, rfl, Lib.hid (by omega), Lib.hid (Below.refl _ _)⟩
  case round =>
    obtain ⟨k, hk, rfl, HK, HB⟩ := hrel
    by_cases hlt : k < r1.length
    case neg =>
      have HN : Hid (l1 = l2) := Lib.hid (List.ext_getElem (by rw [← HG.out.1, ← HG'.out.1]; exact HLL.out) fun j h1 h2 => HK.out j h1 h2 (by have := HG.out.1; omega))
      go_wp2
      go_ret
      exact ⟨ret_bool (decide_eq_true HN.out).symm, HB.out⟩
    have hlt' : k < r2.length := by have := HLL.out; omega
    have hk1 : k < l1.length := by have := HG.out.1; omega
    have hk2 : k < l2.length := by have := HG'.out.1; omega
    obtain ⟨b, off, hoa, hbb, hrow⟩ := H3.out (by omega)
    obtain ⟨b', off', hoa', hbb', hrow'⟩ := H3'.out (by omega)
    subst hoa
    subst hoa'
    have hs1 := hrow k hlt
    have hs2 := hrow' k hlt'
    rw [← obj_below HB.out hbb] at hs1
    rw [← obj_below HB.out hbb'] at hs2
    have hbl : b < wr.heap.size := Nat.lt_of_lt_of_le hbb HB.out.size
    have hbl' : b' < wr.heap.size := Nat.lt_of_lt_of_le hbb' HB.out.size
    have q1 := HG.out.2 k r1[k] l1[k] (List.getElem?_eq_getElem hlt) (List.getElem?_eq_getElem hk1)
    have q2 := HG'.out.2 k r2[k] l2[k] (List.getElem?_eq_getElem hlt') (List.getElem?_eq_getElem hk2)
    have NX : Hid (l1[k] = l2[k] → ∀ j (h1 : j < l1.length) (h2 : j < l2.length), j < k + 1 → l1[j] = l2[j]) := Lib.hid (fun h j h1 h2 hlt' => by
        by_cases e : j = k
        · subst e; exact h
        · exact HK.out j h1 h2 (by omega))
    have NO : Hid (l1[k] ≠ l2[k] → l1 ≠ l2) := Lib.hid (fun h e => h (by subst e; rfl))
    generalize r1[k] = a at *
    generalize r2[k] = c at *
    generalize l1[k] = s at *
    generalize l2[k] = t at *
    clear hrow hrow'
    have hbw : Below wr.heap.size wr ((wr.alloc (.cells (sdL a).toArray 42)).alloc (.cells (sdL c).toArray 42)) := ((Below.refl _ wr).alloc (Nat.le_refl _) _).alloc (by simp) _
    have HBX : Hid (Below w.heap.size w ((wr.alloc (.cells (sdL a).toArray 42)).alloc (.cells (sdL c).toArray 42))) := Lib.hid (HB.out.trans (hbw.mono HB.out.size))
    have HC := Lib.hid (sameS_any ((wr.alloc (.cells (sdL a).toArray 42)).alloc (.cells (sdL c).toArray 42)) a c s t q1.1 q2.1 (q1.2.below HBX.out) (q2.2.below HBX.out))
    obtain ⟨an, ao, al, ac⟩ := a
    obtain ⟨cn, co, cl, cc⟩ := c
    have c0 : wr.cell? ⟨b, off + k * 2, none⟩ = some (.int .i64 an) := by have := subOf_cell hs1 (j := 0) (by decide); simpa [sdL] using this
    have c1 : wr.cell? ⟨b, off + k * 2 + 1, none⟩ = some (.slice ao al ac) := by have := subOf_cell hs1 (j := 1) (by decide); simpa [sdL] using this
    have d0 : wr.cell? ⟨b', off' + k * 2, none⟩ = some (.int .i64 cn) := by have := subOf_cell hs2 (j := 0) (by decide); simpa [sdL] using this
    have d1 : wr.cell? ⟨b', off' + k * 2 + 1, none⟩ = some (.slice co cl cc) := by have := subOf_cell hs2 (j := 1) (by decide); simpa [sdL] using this
    have HC' : Hid (Calls Tryz.prog 56 #[.agg #[.int .i64 an, .slice ao al ac], .agg #[.int .i64 cn, .slice co cl cc]] ((wr.alloc (.cells #[.int .i64 an, .slice ao al ac] 42)).alloc (.cells #[.int .i64 cn, .slice co cl cc] 42)) fun e w' => e = .returned (.bool (sameSB s t)) ∧ Below ((wr.alloc (.cells #[.int .i64 an, .slice ao al ac] 42)).alloc (.cells #[.int .i64 cn, .slice co cl cc] 42)).heap.size ((wr.alloc (.cells #[.int .i64 an, .slice ao al ac] 42)).alloc (.cells #[.int .i64 cn, .slice co cl cc] 42)) w') := Lib.hid HC.out
    have HBX' : Hid (Below w.heap.size w ((wr.alloc (.cells #[.int .i64 an, .slice ao al ac] 42)).alloc (.cells #[.int .i64 cn, .slice co cl cc] 42))) := Lib.hid HBX.out
    rw [sameSB_eq] at HC'
    clear HC HBX hs1 hs2 hbw q1 q2
    have hki : (k : Int) < r1.length := by omega
    go_wp2_with fail
    refine HC'.out.mono ?_
    rintro e w2 ⟨rfl, b2⟩
    have B2 : Hid (Below w.heap.size w w2) := Lib.hid (HBX'.out.trans (b2.mono HBX'.out.size))
    clear b2 HC' HBX'
    by_cases hst : s = t
    · have hd : decide (s = t) = true := decide_eq_true hst
      have HN := Lib.hid (NX.out hst)
      generalize decide (s = t) = D at *
      subst hd
      clear hst
      go_wp2_with fail
      go_roundw
      case rel => exact ⟨k + 1, by omega, by go_num, HN, B2⟩
      case measure => first | exact meas_step' hlt | (simp [intOf]; omega)
    · have hd : decide (s = t) = false := decide_eq_false hst
      have HN := Lib.hid (NO.out hst)
      generalize decide (s = t) = D at *
      subst hd
      clear hst
      go_wp2_with fail
      go_ret
      exact ⟨ret_bool (decide_eq_false HN.out).symm, B2.out⟩
set_option maxRecDepth 100000 in
set_option maxHeartbeats 4000000 in
/-- Same -/
theorem same_any (w : World) (d1 d2 : FrD) (a b : FrM) (h : FrAt w d1 a) (h' : FrAt w d2 b) :
    Calls Tryz.prog 20 #[frV d1, frV d2] w fun e w' => e = .returned (.bool (sameB a b)) ∧ Below w.heap.size w w' := by
  have hb0 : Below w.heap.size w ((w.alloc (.cells (frC d1) 27)).alloc (.cells (frC d2) 27)) := ((Below.refl _ w).alloc (Nat.le_refl _) _).alloc (by simp) _
  have o1 : obj ((w.alloc (.cells (frC d1) 27)).alloc (.cells (frC d2) 27)) w.heap.size = some (.cells (frC d1) 27 (0, 0)) := (obj_alloc_past _ _ _ (by simp)).trans (fr_box w d1)
  have o2 : obj ((w.alloc (.cells (frC d1) 27)).alloc (.cells (frC d2) 27)) (w.heap.size + 1) = some (.cells (frC d2) 27 (0, 0)) := obj_alloc_at _ _ _ (by simp)
  have hz : ((w.alloc (.cells (frC d1) 27)).alloc (.cells (frC d2) 27)).heap.size = w.heap.size + 2 := by simp
  have HA := Lib.hid h
  have HB := Lib.hid h'
  have HP1 := Lib.hid h.phase
  have HP2 := Lib.hid h'.phase
  obtain ⟨ap, aoa, aon, aoc, ata, atn, atc, asa, asn, asc⟩ := d1
  obtain ⟨bp, boa, bon, boc, bta, btn, btc, bsa, bsn, bsc⟩ := d2
  have B0 := Lib.hid hb0
  have O1 := Lib.hid o1
  have O2 := Lib.hid o2
  have HZ := Lib.hid hz
  have HE : Hid (sameB a b = (decide (a.phase = b.phase) && decide (a.op = b.op) && decide (a.tips = b.tips) && decide (a.said = b.said))) := Lib.hid rfl
  generalize sameB a b = T at *
  clear h h' hb0 o1 o2 hz
  have x0 := cell_at O1.out 0
  have x1 := cell_at O1.out 1
  have y0 := cell_at O2.out 0
  have y1 := cell_at O2.out 1
  simp at x0 x1 y0 y1
  have HQ1 := Lib.hid (equal_ints _ _ _ a.op b.op (HA.out.op.below B0.out) (HB.out.op.below B0.out))
  by_cases hp : ap = bp
  case neg =>
    obtain rfl : T = false := by rw [HE.out, decide_eq_false (fun e => hp (HP1.out.trans (e.trans HP2.out.symm)))]; rfl
    go_enter Tryz.func20, Tryz.ntmps20
    go_wp2_with fail
    go_ret
    exact ⟨rfl, B0.out⟩
  have HE1 : Hid (T = (decide (a.op = b.op) && decide (a.tips = b.tips) && decide (a.said = b.said))) := Lib.hid (by rw [HE.out, decide_eq_true (HP1.out.symm.trans (hp.trans HP2.out))]; rfl)
  clear HE HP1 HP2
  subst hp
  go_enter Tryz.func20, Tryz.ntmps20
  go_wp2_with fail
  generalize (w.alloc (.cells (frC ⟨ap, aoa, aon, aoc, ata, atn, atc, asa, asn, asc⟩) 27)).alloc (.cells (frC ⟨ap, boa, bon, boc, bta, btn, btc, bsa, bsn, bsc⟩) 27) = w1 at *
  clear x0 x1 y0 y1
  have hz := HZ.out
  refine HQ1.out.mono ?_
  rintro e w2 ⟨rfl, b2⟩
  have hz2 := b2.size
  have O12 := Lib.hid ((obj_below b2 (lt_of_obj O1.out)).trans O1.out)
  have O22 := Lib.hid ((obj_below b2 (lt_of_obj O2.out)).trans O2.out)
  have B2 : Hid (Below w.heap.size w w2) := Lib.hid (B0.out.trans (b2.mono (by omega)))
  clear b2 HQ1 O1 O2 B0
  have HQ2 := Lib.hid (equal_any w2 _ _ a.tips b.tips (HA.out.tips.below B2.out) (HB.out.tips.below B2.out))
  have x2 := cell_at O12.out 2
  have y2 := cell_at O22.out 2
  simp at x2 y2
  generalize decide (a.op = b.op) = D1 at *
  cases D1 with
  | false =>
    obtain rfl : T = false := by rw [HE1.out]; rfl
    go_wp2_with fail
    go_ret
    exact ⟨rfl, B2.out⟩
  | true =>
    go_wp2_with fail
    refine HQ2.out.mono ?_
    rintro e w3 ⟨rfl, b3⟩
    have hz3 := b3.size
    have O13 := Lib.hid ((obj_below b3 (lt_of_obj O12.out)).trans O12.out)
    have O23 := Lib.hid ((obj_below b3 (lt_of_obj O22.out)).trans O22.out)
    have B3 : Hid (Below w.heap.size w w3) := Lib.hid (B2.out.trans (b3.mono (by omega)))
    clear b3 HQ2 O12 O22 B2
    obtain ⟨r1, q1, s1⟩ := HA.out.said
    obtain ⟨r2, q2, s2⟩ := HB.out.said
    have HQ3 := Lib.hid (equal_said w3 _ _ r1 r2 a.said b.said (q1.below B3.out) (q2.below B3.out) (s1.below B3.out) (s2.below B3.out))
    clear q1 q2 s1 s2
    have z1 := cell_at O13.out 3
    have z2 := cell_at O23.out 3
    simp at z1 z2
    generalize decide (a.tips = b.tips) = D2 at *
    cases D2 with
    | false =>
      obtain rfl : T = false := by rw [HE1.out]; rfl
      go_wp2_with fail
      go_ret
      exact ⟨rfl, B3.out⟩
    | true =>
      have HT3 : Hid (T = decide (a.said = b.said)) := Lib.hid (by rw [HE1.out]; rfl)
      generalize decide (a.said = b.said) = D3 at *
      go_wp2_with fail
      refine HQ3.out.mono ?_
      rintro e w4 ⟨rfl, b4⟩
      have B4 : Hid (Below w.heap.size w w4) := Lib.hid (B3.out.trans (b4.mono (by omega)))
      clear b4 HQ3
      go_wp2_with fail
      go_ret
      exact ⟨ret_bool HT3.out.symm, B4.out⟩
end Go.Proofs.YtmgpfmgmpmkkaaaGreat
