import Derived.Test.YtkjaabajomigkaaMerge
namespace Go.Proofs.Ytkjaabajomigkaa
open Go.RowKit

@[reducible] def boV (b : Bool) : Value := .bool b
/-- the map holds just these names -/
def Wants (ids : List ID) (L : List (ID × Bool)) : Prop := ∀ id, kGet id L = if id ∈ ids then some true else none
theorem kGet_putB (k : ID) (v : Bool) : ∀ (L : List (ID × Bool)) (k' : ID), kGet k' (kPut k v L) = if k' = k then some v else kGet k' L := by
  intro L
  induction L with
  | nil => intro k'; simp [kPut, kGet]
  | cons x L ih =>
    obtain ⟨j, u⟩ := x
    intro k'
    unfold kPut
    by_cases hj : k = j
    · subst hj
      rw [if_pos rfl]
      simp only [kGet]
      by_cases hk : k' = k <;> simp [hk]
    · rw [if_neg hj]
      simp only [kGet]
      by_cases hk : k' = j
      · subst hk
        rw [if_pos rfl, if_neg (Ne.symm hj), if_pos rfl]
      · rw [if_neg hk, ih, if_neg hk]
theorem Wants.put {ids : List ID} {L : List (ID × Bool)} (h : Wants ids L) (x : ID) : Wants (ids ++ [x]) (kPut x true L) := by
  intro id
  rw [kGet_putB, h id]
  by_cases e : id = x
  · subst e; simp
  · simp [e]
theorem zero4 (w : World) : (zeroValue 4).run Try.prog w = .ok (.bool false) w := by kernel_rfl
theorem look73 {w : World} {m : Nat} {ids : List ID} {L : List (ID × Bool)} (hM : MapK w m idV boV L) (hW : Wants ids L) (x : ID) : (Instr.lookup 73 (.map (some m)) (.agg (idL x).toArray) false).run Try.prog w = .ok (.bool (decide (x ∈ ids))) w := by
  have := run_lookup1_k keyOK27 Try.underlying73 (fun w => zero4 w) hM x
  rw [hW x] at this
  refine this.trans ?_
  by_cases e : x ∈ ids <;> simp [e]
theorem upd73 {w : World} {m : Nat} {ids : List ID} {L : List (ID × Bool)} (hM : MapK w m idV boV L) (hW : Wants ids L) (x : ID) : ∃ es clk es' clk', obj w m = some (.map es clk) ∧ (∀ w : World, obj w m = some (.map es clk) → (Instr.mapUpdate 73 (.map (some m)) (.agg (idL x).toArray) (.bool true)).run Try.prog w = .ok () (putObj w m (.map es' clk'))) ∧ (∀ w : World, obj w m = some (.map es' clk') → MapK w m idV boV (kPut x true L)) := by
  obtain ⟨es, clk, hb, hr⟩ := hM
  obtain ⟨es', clk', hu, hr'⟩ := run_mapUpdate_k (enc := boV) (clk := clk) keyOK27 Try.underlying73 hr m x true
  exact ⟨es, clk, es', clk', hb, hu, fun w h => ⟨es', clk', h, hr'⟩⟩
set_option maxRecDepth 100000 in
set_option maxHeartbeats 2000000 in
/-- bag.Only -/
theorem only_any (w : World) (va vi : Value) (l : List Vt) (ids : List ID) (h1 : SlIn w va 33 vtL l) (h2 : SlIn w vi 32 idL ids) : Calls Try.prog 33 #[va, vi] w (RetOwn w 33 33 vtL (onlyV l ids)) := by
  have H1 := Lib.hid h1
  have H2 := Lib.hid h2
  have hmk : (Instr.makeMap 73 none).run Try.prog w = .ok (.map (some w.heap.size)) (w.alloc (.map #[] 0)) := by kernel_rfl
  have HM0 := Lib.hid (MapK.made_at w rfl idV boV (α := ID) (ν := Bool))
  have HB0 := Lib.hid ((Below.refl _ w).alloc (Nat.le_refl _) (.map #[] 0))
  have hz0 : (w.alloc (.map #[] 0)).heap.size = w.heap.size + 1 := by simp
  have HT : Hid (onlyV l ids = (goodV l).filter fun x => decide (x.id ∈ ids)) := Lib.hid rfl
  have HLN : Hid ((goodV l).length ≤ 1048576) := Lib.hid (by
    obtain ⟨_, hp, hs⟩ := goodV_ok l
    have := len_sum hp
    omega)
  have HGO := fun w' hb => Lib.hid (good_at w' w va l h1 hb)
  obtain ⟨oa, ca, rfl, _, _, _⟩ := h1
  obtain ⟨ob, cb, rfl, _, g2, _⟩ := h2
  unfold maxLen at g2
  generalize onlyV l ids = T at *
  generalize goodV l = g at *
  go_enter Try.func33, Try.ntmps33
  go_wp2
  generalize w.alloc (.map #[] 0) = w0 at *
  generalize hm : w.heap.size = m at *
  clear hmk
  go_loopw [14] (fun v14 wr => ∃ (k : Nat), k ≤ ids.length ∧ v14 = .int .i64 k ∧ Hid (∃ L, MapK wr m idV boV L ∧ Wants (ids.take k) L) ∧ Hid (Keeps (fun k => k = m) w0 wr)) (fun i _ => ids.length - (intOf i).toNat)
  case atStart => exact ⟨0, Nat.zero_le _, rfl, Lib.hid ⟨[], HM0.out, fun id => by simp [kGet]⟩, Lib.hid (Keeps.refl _ _)⟩
  case round =>
    obtain ⟨k, hk, rfl, HMK, HK⟩ := hrel
    have hzk := HK.out.size
    have HBK := Lib.hid (HB0.out.trans (HK.out.below (B := m) (fun k hk => by omega) (by omega)))
    obtain ⟨L, hM, hW⟩ := HMK.out
    by_cases hlt : k < ids.length
    · obtain ⟨ob', cb', e1, _, _, g3'⟩ := H2.out.below (by rw [hm]; exact HBK.out)
      simp only [Value.slice.injEq] at e1
      obtain ⟨rfl, _, rfl⟩ := e1
      obtain ⟨bb, off, hoa, hbb, hrow⟩ := g3' (by omega)
      subst hoa
      have hs1 := hrow k hlt
      have hmulk : off + k * 32 + 32 ≤ off + k * 32 + 32 := Nat.le_refl _
      have hml := hM.lt
      have hM2 := hM.of_obj (obj_alloc_past wr (.cells (idL ids[k]).toArray 27) m hml)
      have o2 : obj (wr.alloc (.cells (idL ids[k]).toArray 27)) wr.heap.size = some (.cells (idL ids[k]).toArray 27 (0, 0)) := obj_alloc_at _ _ _ rfl
      obtain ⟨es, clk, es', clk', f0, f1, f2⟩ := upd73 hM2 hW ids[k]
      have HW2 := Lib.hid (hW.put ids[k])
      rw [← List.take_succ_eq_append_getElem hlt] at HW2
      have HK2 := Lib.hid (HK.out.alloc (.cells (idL ids[k]).toArray 27))
      have hml2 : m < (wr.alloc (.cells (idL ids[k]).toArray 27)).heap.size := by simp; omega
      have p2 : subOf (obj (wr.alloc (.cells (idL ids[k]).toArray 27)) wr.heap.size) 0 32 = some (idL ids[k]).toArray := by rw [o2, subOf_cells (by simp), subA_all (by simp)]
      have HF := Lib.hid f2
      clear hrow g3' o2 f2 HMK hM hM2 hW
      generalize ids[k] = x at *
      go_wp2
      go_roundw
      case rel => exact ⟨k + 1, by omega, by go_num, Lib.hid ⟨_, HF.out _ ((obj_alloc_past _ _ _ (by simpa using hml)).trans (obj_putObj_eq _ _ _ hml)), HW2.out⟩, Lib.hid ((HK.out.putObj (m := m) rfl _).alloc _)⟩
      case measure => simp [intOf]; omega
    · rw [List.take_of_length_le (by omega)] at hW
      have HMM := Lib.hid hM
      have HWW := Lib.hid hW
      have hml := hM.lt
      have HG := Lib.hid ((HGO wr HBK.out).out)
      clear hM hW HMK HGO
      go_wp2_with fail
      generalize wr = wk at *
      refine HG.out.mono ?_
      rintro e w1 ⟨og, cg, rfl, ⟨oa', cap', e1, g1, g2, g3⟩, b1⟩
      simp only [Value.slice.injEq] at e1
      obtain ⟨rfl, _, rfl⟩ := e1
      unfold maxLen at g2
      have H3 := Lib.hid g3
      have hz1 := b1.size
      have B1 := Lib.hid (HBK.out.trans (b1.mono (by omega)))
      have HM1 := Lib.hid (HMM.out.of_obj (obj_below b1 hml))
      clear b1 g3 HG HMM
      go_wp2
      go_loopw [8, 24] (fun v8 v24 wr => ∃ (j : Nat), j ≤ g.length ∧ v24 = .int .i64 j ∧ Hid (OwnS wr w1.heap.size 33 33 vtL v8 ((g.take j).filter fun x => decide (x.id ∈ ids))) ∧ Hid (Below w1.heap.size w1 wr)) (fun _ i _ => g.length - (intOf i).toNat)
      case atStart => exact ⟨0, Nat.zero_le _, rfl, Lib.hid (OwnS.nil _ _ _ _ _), Lib.hid (Below.refl _ _)⟩
      case round =>
        obtain ⟨j, hj, rfl, HO, HQ⟩ := hrel
        have hzq := HQ.out.size
        have HQB := Lib.hid (B1.out.trans (HQ.out.mono (by omega)))
        by_cases hjt : j < g.length
        · obtain ⟨bb, off, hoa, hbb, hrow⟩ := H3.out (by omega)
          subst hoa
          have hs1 := hrow j hjt
          rw [← obj_below HQB.out (by omega)] at hs1
          have hbl : bb < wr.heap.size := by omega
          have hmulk : off + j * 33 + 33 ≤ off + j * 33 + 33 := Nat.le_refl _
          have hn : Hid (((g.take (j + 1)).filter fun x => decide (x.id ∈ ids)) = ((g.take j).filter fun x => decide (x.id ∈ ids)) ++ if g[j].id ∈ ids then [g[j]] else []) := Lib.hid (by
            rw [List.take_succ_eq_append_getElem hjt, List.filter_append]
            congr 1
            by_cases hx : g[j].id ∈ ids <;> simp [hx])
          have hln : Hid (((g.take j).filter fun x => decide (x.id ∈ ids)).length ≤ 1048576) := Lib.hid (by
            have := List.length_filter_le (fun x : Vt => decide (x.id ∈ ids)) (g.take j)
            rw [List.length_take] at this
            have := HLN.out
            omega)
          have o2 : obj (wr.alloc (.cells (vtL g[j]).toArray 33)) wr.heap.size = some (.cells (vtL g[j]).toArray 33 (0, 0)) := obj_alloc_at _ _ _ rfl
          have hml1 := HM1.out.lt
          have hM2 := (HM1.out.of_obj (obj_below HQ.out hml1)).of_obj (obj_alloc_past wr (.cells (vtL g[j]).toArray 33) m (by omega))
          have hlk := look73 hM2 HWW.out g[j].id
          have HQ2 := Lib.hid (HQ.out.alloc hzq (.cells (vtL g[j]).toArray 33))
          have HO2 := Lib.hid (HO.out.alloc (.cells (vtL g[j]).toArray 33))
          clear hrow hM2
          generalize g[j] = x at *
          generalize (g.take j).filter (fun x => decide (x.id ∈ ids)) = ws at *
          obtain ⟨p1, p2⟩ := vt_parts (x := x) (W := wr.alloc (.cells (vtL x).toArray 33)) (b := wr.heap.size) (o := 0) (by rw [o2, subOf_cells (by simp), subA_all (by simp)])
          have p0 : subOf (obj (wr.alloc (.cells (vtL x).toArray 33)) wr.heap.size) 0 33 = some (vtL x).toArray := by rw [o2, subOf_cells (by simp), subA_all (by simp)]
          clear o2
          by_cases hx : x.id ∈ ids
          · have dx : decide (x.id ∈ ids) = true := by simpa using hx
            rw [dx] at hlk
            rw [if_pos hx] at hn
            clear hx
            go_wp2_with (at_builtin; refine push22 rfl _ _ rfl w1.heap.size u8 ws x rfl (HO2.out.alloc _) (wr.heap.size + 1) rfl (obj_alloc_at _ _ _ (by simp)) hln.out (by simp; omega) ?_; intro v' w' hO' hB' _; have HO' := Lib.hid hO'; have HB' := Lib.hid ((HQ2.out.alloc (by simp; omega) _).trans hB'); clear hO' hB')
            go_roundw
            case rel => exact ⟨j + 1, by omega, by go_num, by rw [hn.out]; exact HO', HB'⟩
            case measure => simp [intOf]; omega
          · have dx : decide (x.id ∈ ids) = false := by simpa using hx
            rw [dx] at hlk
            rw [if_neg hx, List.append_nil] at hn
            clear hx
            go_wp2
            go_roundw
            case rel => exact ⟨j + 1, by omega, by go_num, by rw [hn.out]; exact HO2, HQ2⟩
            case measure => simp [intOf]; omega
        · have HG : Hid (OwnS wr m 33 33 vtL u8 T) := Lib.hid (by
            have h0 := HO.out
            rw [List.take_of_length_le (by omega), ← HT.out] at h0
            exact h0.rebase (by omega))
          go_wp2
          go_ret
          exact ⟨_, rfl, by rw [hm]; exact HG.out, by rw [hm]; exact HQB.out⟩
end Go.Proofs.Ytkjaabajomigkaa
