import Derived.Test.YtmgpfmgmpmkkaaaGreatAns
namespace Go.Proofs.YtmgpfmgmpmkkaaaGreat
open Go.RowKit Go.Shelf Go.Sort

instance : Inhabited FrD := ⟨⟨0, none, 0, 0, none, 0, 0, none, 0, 0⟩⟩
def frL (d : FrD) : List Value := [.int .i64 d.phase, .slice d.oa d.on d.oc, .slice d.ta d.tn d.tc, .slice d.sa d.sn d.sc]
theorem frL_length (d : FrD) : (frL d).length = 4 := rfl
def FrsAt (w : World) (ds : List FrD) (ms : List FrM) : Prop := ds.length = ms.length ∧ ∀ (i : Nat) (d : FrD) (m : FrM), ds[i]? = some d → ms[i]? = some m → FrAt w d m
structure FrFew (m : FrM) : Prop where
  op : m.op.length ≤ 60
  tips : m.tips.length ≤ 60
  said : m.said.length ≤ 60
  ids : ∀ s ∈ m.said, s.ids.length ≤ 60
structure FewR (w : World) (l : List Vd) (ms : List FrM) (e : Ending) (w' : World) : Prop where
  r : ∃ b, e = .returned (.bool b) ∧ (b = true → l.length ≤ 50 ∧ (∀ x ∈ l, x.name.size ≤ 300) ∧ ∀ m ∈ ms, FrFew m)
  hb : Below w.heap.size w w'
set_option maxRecDepth 100000 in
set_option maxHeartbeats 4000000 in
/-- few -/
theorem few_any (w : World) (v vf : Value) (l : List Vd) (ds : List FrD) (ms : List FrM) (h : SlIn w v 2 vdL l) (hf : SlIn w vf 4 frL ds) (hm : FrsAt w ds ms) : Calls Tryz.prog 7 #[v, vf] w (FewR w l ms) := by
  obtain ⟨m, hmm⟩ : ∃ m, m = min l.length 100 := ⟨_, rfl⟩
  have hmx : m ≤ l.length := by omega
  have hmi : (m : Int) = min (l.length : Int) 100 := by omega
  have HX := Lib.hid h
  obtain ⟨oa, cap, rfl, h1, h2, h3⟩ := h
  obtain ⟨fa, fc, rfl, f1, f2, f3⟩ := hf
  have HR := Lib.hid (fun W => run_lo22 HX.out hmx W)
  rw [hmi] at HR
  have HR := HR.out
  have H3 := Lib.hid h3
  have F3 := Lib.hid f3
  have HM := Lib.hid hm
  have HMM := Lib.hid hmm
  unfold maxLen at h2 f2
  clear h3 f3 hm hmm hmi
  go_enter Tryz.func7, Tryz.ntmps7
  go_wp2_with fail
  go_loopw [6, 17] (fun _ v17 wr => ∃ k : Nat, k ≤ m ∧ v17 = .int .i64 k ∧ Hid (Below w.heap.size w wr) ∧ Hid (∀ x ∈ l.take k, x.name.size ≤ 300)) (fun _ i _ => m - (intOf i).toNat)
  case atStart => exact ⟨0, Nat.zero_le _, rfl, Lib.hid (Below.refl _ _), Lib.hid (by simp)⟩
  case round =>
    obtain ⟨k, hk, rfl, HB, HS⟩ := hrel
    have hz := HB.out.size
    by_cases hlt : k < m
    · have hkx : k < l.length := by omega
      obtain ⟨b, off, rfl, hbb, hr⟩ := H3.out (by omega)
      have hs := hr k hkx
      rw [← obj_below HB.out hbb] at hs
      have hbr : b < wr.heap.size := by omega
      have NX : Hid (l[k].name.size ≤ 300 → ∀ x ∈ l.take (k + 1), x.name.size ≤ 300) := Lib.hid (fun h x hx => by
        rw [List.take_succ_eq_append_getElem hkx] at hx
        rcases List.mem_append.1 hx with hx | hx
        · exact HS.out x hx
        · simp at hx; subst hx; exact h)
      clear hr
      generalize l[k] = x at *
      have z0 : (wr.alloc (.cells (vdL x).toArray 58)).cell? ⟨wr.heap.size, 0, none⟩ = some (.string x.name) := cell_at (obj_alloc_at _ _ _ rfl) 0
      have HBA : Hid (Below w.heap.size w (wr.alloc (.cells (vdL x).toArray 58))) := Lib.hid (HB.out.alloc hz _)
      have hki : (k : Int) < m := by omega
      obtain ⟨nm, wt⟩ := x
      simp only at z0
      by_cases hn : nm.size ≤ 300
      · have hn1 : ¬ (300 : Int) < nm.size := by omega
        have HN := Lib.hid (NX.out hn)
        go_wp2_with fail
        go_roundw
        case rel => exact ⟨k + 1, by omega, by go_num, HBA, HN⟩
        case measure => first | exact meas_step' (by omega) | (simp [intOf]; omega)
      · have hn1 : (300 : Int) < nm.size := by omega
        go_wp2_with fail
        go_ret
        exact ⟨⟨_, rfl, fun h => by cases h⟩, HBA.out⟩
    · have hk' : k = m := by omega
      subst hk'
      have HNA : Hid (l.length ≤ 50 → ∀ x ∈ l, x.name.size ≤ 300) := Lib.hid (fun hl x hx => HS.out x (by
        rw [List.take_of_length_le (by have := HMM.out; omega)]; exact hx))
      clear HS
      obtain ⟨w1, hw1⟩ : ∃ w1, w1 = wr := ⟨_, rfl⟩
      have HB1 : Hid (Below w.heap.size w w1) := by rw [hw1]; exact HB
      have hz1 := HB1.out.size
      rw [← hw1]
      clear hw1 HB hz
      clear wr
      go_wp2_with fail
      go_loopw [8, 10, 28] (fun _ _ v28 wr => ∃ k : Nat, k ≤ ds.length ∧ v28 = .int .i64 k ∧ Hid (Below w.heap.size w wr) ∧ Hid (∀ (i : Nat) (hi : i < ms.length), i < k → FrFew ms[i])) (fun _ _ i _ => ds.length - (intOf i).toNat)
      case atStart => exact ⟨0, Nat.zero_le _, rfl, HB1, Lib.hid (fun i hi h => by omega)⟩
      case round =>
        obtain ⟨q, hq, rfl, HB, HF⟩ := hrel
        have hz := HB.out.size
        by_cases hlq : q < ds.length
        case neg =>
          have HA : Hid (decide ((l.length : Int) ≤ 50) = true → l.length ≤ 50 ∧ (∀ x ∈ l, x.name.size ≤ 300) ∧ ∀ m ∈ ms, FrFew m) := Lib.hid (fun h => by
            have h := of_decide_eq_true h
            refine ⟨by omega, HNA.out (by omega), fun m hm => ?_⟩
            obtain ⟨i, hi, rfl⟩ := List.getElem_of_mem hm
            exact HF.out i hi (by have := HM.out.1; omega))
          go_wp2_with fail
          go_ret
          exact ⟨⟨_, rfl, HA.out⟩, HB.out⟩
        have hqm : q < ms.length := by have := HM.out.1; omega
        obtain ⟨b, off, rfl, hbb, hrow⟩ := F3.out (by omega)
        have hs := hrow q hlq
        rw [← obj_below HB.out hbb] at hs
        have hbr : b < wr.heap.size := by omega
        have HFA := Lib.hid ((HM.out.2 q ds[q] ms[q] (List.getElem?_eq_getElem hlq) (List.getElem?_eq_getElem hqm)))
        have HFX : Hid (FrFew ms[q] → ∀ (i : Nat) (hi : i < ms.length), i < q + 1 → FrFew ms[i]) := Lib.hid (fun h i hi hik => by
          by_cases e : i = q
          · subst e; exact h
          · exact HF.out i hi (by omega))
        clear hrow
        generalize ds[q] = d at *
        generalize ms[q] = M at *
        have hon := HFA.out.op.n
        have htn := HFA.out.tips.n
        obtain ⟨rows, hr, hat⟩ := HFA.out.said
        have hsn := hr.n
        obtain ⟨dp, doa, don, doc, dta, dtn, dtc, dsa, dsn, dsc⟩ := d
        simp only at hon htn hsn
        subst hon htn hsn
        obtain ⟨oa2, oc2, e1, g1, g2, g3⟩ := hr
        injection e1 with e1 _ e2
        subst e1 e2
        have G3 := Lib.hid g3
        have HAT := Lib.hid hat
        have HRL : Hid (rows.length = M.said.length) := Lib.hid hat.1
        unfold maxLen at g2
        clear g3 hat HFA
        have c0 : wr.cell? ⟨b, off + q * 4, none⟩ = some (.int .i64 dp) := by have := subOf_cell hs (j := 0) (by decide); simpa [frL] using this
        have c1 : wr.cell? ⟨b, off + q * 4 + 1, none⟩ = some (.slice doa M.op.length doc) := by have := subOf_cell hs (j := 1) (by decide); simpa [frL] using this
        have c2 : wr.cell? ⟨b, off + q * 4 + 2, none⟩ = some (.slice dta M.tips.length dtc) := by have := subOf_cell hs (j := 2) (by decide); simpa [frL] using this
        have c3 : wr.cell? ⟨b, off + q * 4 + 3, none⟩ = some (.slice dsa rows.length dsc) := by have := subOf_cell hs (j := 3) (by decide); simpa [frL] using this
        have hqi : (q : Int) < ds.length := by omega
        clear hs
        have OA : Hid (obj (wr.alloc (.cells #[.int .i64 dp, .slice doa M.op.length doc, .slice dta M.tips.length dtc, .slice dsa rows.length dsc] 27)) wr.heap.size = some (.cells #[.int .i64 dp, .slice doa M.op.length doc, .slice dta M.tips.length dtc, .slice dsa rows.length dsc] 27 (0, 0))) := Lib.hid (obj_alloc_at _ _ _ rfl)
        have BA : Hid (Below w.heap.size w (wr.alloc (.cells #[.int .i64 dp, .slice doa M.op.length doc, .slice dta M.tips.length dtc, .slice dsa rows.length dsc] 27))) := Lib.hid (HB.out.alloc hz _)
        have a1 := cell_at OA.out 1
        have a2 := cell_at OA.out 2
        have a3 := cell_at OA.out 3
        simp at a1 a2 a3
        by_cases ho : M.op.length ≤ 60
        case neg =>
          have hi : (60 : Int) < M.op.length := by omega
          go_wp2_with fail
          go_ret
          exact ⟨⟨_, rfl, fun h => by cases h⟩, BA.out⟩
        by_cases ht : M.tips.length ≤ 60
        case neg =>
          have hi : ¬ (60 : Int) < M.op.length := by omega
          have hj : (60 : Int) < M.tips.length := by omega
          go_wp2_with fail
          go_ret
          exact ⟨⟨_, rfl, fun h => by cases h⟩, BA.out⟩
        have hi : ¬ (60 : Int) < M.op.length := by omega
        have hj : ¬ (60 : Int) < M.tips.length := by omega
        by_cases hsd : rows.length ≤ 60
        case neg =>
          have hl : (60 : Int) < rows.length := by omega
          go_wp2_with fail
          go_ret
          exact ⟨⟨_, rfl, fun h => by cases h⟩, BA.out⟩
        have hl : ¬ (60 : Int) < rows.length := by omega
        have HFW : Hid ((∀ (i : Nat) (hi : i < M.said.length), M.said[i].ids.length ≤ 60) → FrFew M) := Lib.hid (fun h => ⟨ho, ht, by have := HRL.out; omega, fun s hs => by
          obtain ⟨i, hi, rfl⟩ := List.getElem_of_mem hs
          exact h i hi⟩)
        have hza : (wr.alloc (.cells #[.int .i64 dp, .slice doa M.op.length doc, .slice dta M.tips.length dtc, .slice dsa rows.length dsc] 27)).heap.size = wr.heap.size + 1 := by simp
        clear ho ht hsd
        go_wp2_with fail
        generalize wr.alloc (.cells #[.int .i64 dp, .slice doa M.op.length doc, .slice dta M.tips.length dtc, .slice dsa rows.length dsc] 27) = wa at *
        go_loopw [10, 51] (fun _ v51 wr => ∃ j : Nat, j ≤ rows.length ∧ v51 = .int .i64 j ∧ Hid (Below w.heap.size w wr) ∧ Hid (∀ (i : Nat) (hi : i < M.said.length), i < j → M.said[i].ids.length ≤ 60)) (fun _ i _ => rows.length - (intOf i).toNat)
        case atStart => exact ⟨0, Nat.zero_le _, rfl, BA, Lib.hid (fun i hi h => by omega)⟩
        case round =>
          obtain ⟨j, hj, rfl, HBJ, HS⟩ := hrel
          have hzj := HBJ.out.size
          by_cases hlj : j < rows.length
          case neg =>
            have HNX := Lib.hid (HFX.out (HFW.out (fun i hi => HS.out i hi (by have := HRL.out; omega))))
            go_wp2_with fail
            go_roundw
            case rel => exact ⟨q + 1, by omega, by go_num, HBJ, HNX⟩
            case measure => first | exact meas_step' hlq | (simp [intOf]; omega)
          have hjs : j < M.said.length := by have := HRL.out; omega
          obtain ⟨p, po, rfl, hpp, hprow⟩ := G3.out (by omega)
          have hp := hprow j hlj
          rw [← obj_below HBJ.out hpp] at hp
          have hpr : p < wr.heap.size := by omega
          have hq2 := (HAT.out.2 j rows[j] M.said[j] (List.getElem?_eq_getElem hlj) (List.getElem?_eq_getElem hjs)).2.n
          have HNX : Hid (M.said[j].ids.length ≤ 60 → ∀ (i : Nat) (hi : i < M.said.length), i < j + 1 → M.said[i].ids.length ≤ 60) := Lib.hid (fun h i hi hik => by
            by_cases e : i = j
            · subst e; exact h
            · exact HS.out i hi (by omega))
          generalize rows[j] = r at *
          generalize M.said[j] = s at *
          obtain ⟨rn, roa, rln, rcap⟩ := r
          simp only at hq2
          subst hq2
          have e0 : wr.cell? ⟨p, po + j * 2, none⟩ = some (.int .i64 rn) := by have := subOf_cell hp (j := 0) (by decide); simpa [sdL] using this
          have e1 : wr.cell? ⟨p, po + j * 2 + 1, none⟩ = some (.slice roa s.ids.length rcap) := by have := subOf_cell hp (j := 1) (by decide); simpa [sdL] using this
          have hji : (j : Int) < rows.length := by omega
          clear hprow hp
          have OS : Hid (obj (wr.alloc (.cells #[.int .i64 rn, .slice roa s.ids.length rcap] 42)) wr.heap.size = some (.cells #[.int .i64 rn, .slice roa s.ids.length rcap] 42 (0, 0))) := Lib.hid (obj_alloc_at _ _ _ rfl)
          have BS : Hid (Below w.heap.size w (wr.alloc (.cells #[.int .i64 rn, .slice roa s.ids.length rcap] 42))) := Lib.hid (HBJ.out.alloc hzj _)
          have s1 := cell_at OS.out 1
          simp at s1
          by_cases hn : s.ids.length ≤ 60
          · have hn1 : ¬ (60 : Int) < s.ids.length := by omega
            have HN := Lib.hid (HNX.out hn)
            go_wp2_with fail
            go_roundw
            case rel => exact ⟨j + 1, by omega, by go_num, BS, HN⟩
            case measure => first | exact meas_step' hlj | (simp [intOf]; omega)
          · have hn1 : (60 : Int) < s.ids.length := by omega
            go_wp2_with fail
            go_ret
            exact ⟨⟨_, rfl, fun h => by cases h⟩, BS.out⟩
end Go.Proofs.YtmgpfmgmpmkkaaaGreat
