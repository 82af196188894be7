import Derived.Test.YtmenfbfekfljbaaVoSort
import Derived.Test.YtmenfbfekfljbaaEnough
import Derived.Deep.Onto
namespace Go.Proofs.Ytmenfbfekfljbaa
open Go.RowKit Go.Shelf

theorem info3 : (Try.prog.info? 3).map (fun i => (i.zero, i.size, i.bytes)) = some (some (.int .i64 0), 1, 8) := by kernel_rfl
theorem iL_one (n : Int) : allOne (iL n).toArray = true := rfl
theorem push38 {ops : Array Oper} {rest : List Oper} {o : Oper} {a : Act} {w : World} {Q : Exit → Act → World → Prop} (hgd : o.guard = none) (s x : Operand) (ho : o.op = .call { callee := .builtin .append, args := #[s, x], argTypes := #[38, 38] })
    (base : Nat) (v : Value) (xs : List Int) (y : Int) (hs : a.eval s = v) (hown : OwnS w base 3 1 iL v xs) (g : Nat) (hx : a.eval x = .slice (some ⟨g, 0, none⟩) 1 1) (hg : obj w g = some (.cells (iL y).toArray 3 (0, 0)))
    (hlen : xs.length ≤ 1048576) (hbase : base ≤ w.heap.size)
    (h : ∀ v' w', OwnS w' base 3 1 iL v' (xs ++ [y]) → Below base w w' → (∀ k, k < w.heap.size → v.ownBlock ≠ some k → obj w' k = obj w k) → wpList Try.prog ops Q rest (a.put o.dst v') w') : wpList Try.prog ops Q (o :: rest) a w := by
  obtain ⟨i0, hi, hz0, hz1, hz2⟩ := info_parts info3
  exact wpList_push Try.underlying38 hi hz0 hz1 hz2 (by simp [Value.cells]) (by decide) iL iL_length iL_one hgd s x ho base v xs y hs hown g hx hg hlen (by decide) hbase h
/-! ### what a filter takes, one more -/
theorem filter_yes {α : Type} {p : α → Bool} {l : List α} {k : Nat} (h : k < l.length) (hb : p l[k] = true) : (l.take (k + 1)).filter p = (l.take k).filter p ++ [l[k]] := by
  rw [List.take_succ_eq_append_getElem h, List.filter_append]
  simp [hb]
theorem filter_no {α : Type} {p : α → Bool} {l : List α} {k : Nat} (h : k < l.length) (hb : p l[k] = false) : (l.take (k + 1)).filter p = (l.take k).filter p := by
  rw [List.take_succ_eq_append_getElem h, List.filter_append]
  simp [hb]
theorem OwnS.lower {α : Type} {w : World} {base base' E k : Nat} {enc : α → List Value} {v : Value} {xs : List α} (h : OwnS w base E k enc v xs) (hb : base' ≤ base) : OwnS w base' E k enc v xs := ⟨h.1.mono hb, h.2⟩
def votB (xs : List FactD) (nd po : Int) (id : ID) (x : FactD) : Bool := x.kind == 6 && x.node == nd && x.poll == po && decide (0 ≤ x.to) && decide (x.to < 32) && underM xs x.id id
def votL (xs : List FactD) (nd po : Int) (id : ID) (l : List FactD) : List Int := (l.filter (votB xs nd po id)).map (·.to)
def votersF (xs : List FactD) (nd po : Int) (id : ID) (l : List FactD) : List Int := Lib.compact ((votL xs nd po id l).mergeSort fun x y => decide (x ≤ y))
theorem votL_length (xs : List FactD) (nd po : Int) (id : ID) (l : List FactD) : (votL xs nd po id l).length ≤ l.length := by
  unfold votL
  rw [List.length_map]
  exact List.length_filter_le _ _
set_option maxRecDepth 100000 in
set_option maxHeartbeats 4000000 in
/-- judge.relation.voters -/
theorem voters_any (w : World) (ub m : Nat) (xs : List FactD) (v : Value) (l : List FactD) (nd po : Int) (id : ID) (hr : RelAt w ub m xs) (h : SlIn w v 72 factL l) (hlen : l.length ≤ 1000) :
    Calls Try.prog 67 #[.agg #[.map (some m), .func (.func 63) #[] #[.pointer (some ⟨ub, 0, none⟩)]], v, .int .i64 nd, .int .i64 po, .agg (idL id).toArray] w fun e w' => ∃ v', e = .returned v' ∧ OwnS w' w.heap.size 3 1 iL v' (votersF xs nd po id l) ∧ Below w.heap.size w w' := by
  have HV : Hid (votersF xs nd po id l = Lib.compact ((votL xs nd po id (l.take l.length)).mergeSort fun x y => decide (x ≤ y))) := Lib.hid (by rw [List.take_length]; rfl)
  have HY : Hid (∀ k (hk : k < l.length), votB xs nd po id l[k] = true → votL xs nd po id (l.take (k + 1)) = votL xs nd po id (l.take k) ++ [l[k].to]) := Lib.hid fun k hk hb => by unfold votL; rw [filter_yes hk hb, List.map_append]; rfl
  have HN : Hid (∀ k (hk : k < l.length), votB xs nd po id l[k] = false → votL xs nd po id (l.take (k + 1)) = votL xs nd po id (l.take k)) := Lib.hid fun k hk hb => by unfold votL; rw [filter_no hk hb]
  have HB : Hid (∀ x, votB xs nd po id x = (x.kind == 6 && x.node == nd && x.poll == po && decide (0 ≤ x.to) && decide (x.to < 32) && underM xs x.id id)) := Lib.hid fun _ => rfl
  have HLL := Lib.hid fun k => votL_length xs nd po id (l.take k)
  have H0 : Hid (votL xs nd po id (l.take 0) = []) := Lib.hid rfl
  have HU := fun W (hW : Below w.heap.size w W) a => Lib.hid (under_any W ub m xs a id (hr.below hW))
  generalize votersF xs nd po id l = r at *
  have B0 := Lib.hid (((Below.refl _ w).alloc (Nat.le_refl _) (.cells #[.map (some m), .func (.func 63) #[] #[.pointer (some ⟨ub, 0, none⟩)]] 85)).alloc (by simp) (.cells (idL id).toArray 45))
  have O0 : Hid (obj ((w.alloc (.cells #[.map (some m), .func (.func 63) #[] #[.pointer (some ⟨ub, 0, none⟩)]] 85)).alloc (.cells (idL id).toArray 45)) w.heap.size = some (.cells #[.map (some m), .func (.func 63) #[] #[.pointer (some ⟨ub, 0, none⟩)]] 85 (0, 0))) := Lib.hid ((obj_alloc_past _ _ _ (by simp)).trans (obj_alloc_at _ _ _ rfl))
  have O1 : Hid (obj ((w.alloc (.cells #[.map (some m), .func (.func 63) #[] #[.pointer (some ⟨ub, 0, none⟩)]] 85)).alloc (.cells (idL id).toArray 45)) (w.heap.size + 1) = some (.cells (idL id).toArray 45 (0, 0))) := Lib.hid (obj_alloc_at _ _ _ (by simp))
  have hz0 : ((w.alloc (.cells #[.map (some m), .func (.func 63) #[] #[.pointer (some ⟨ub, 0, none⟩)]] 85)).alloc (.cells (idL id).toArray 45)).heap.size = w.heap.size + 2 := by simp
  obtain ⟨oa, cap, rfl, h1, h2, h3⟩ := h
  unfold maxLen at h2
  have H3 := Lib.hid h3
  clear h3 hr
  go_enter Try.func67, Try.ntmps67
  go_wp2
  generalize (w.alloc (.cells #[.map (some m), .func (.func 63) #[] #[.pointer (some ⟨ub, 0, none⟩)]] 85)).alloc (.cells (idL id).toArray 45) = w0 at *
  generalize hB : w.heap.size = B at *
  go_loopw [11, 16] (fun v11 v16 wr => ∃ (k : Nat), k ≤ l.length ∧ v16 = .int .i64 k ∧ Hid (OwnS wr (B + 2) 3 1 iL v11 (votL xs nd po id (l.take k))) ∧ Hid (Below (B + 2) w0 wr)) (fun _ i _ => l.length - (intOf i).toNat)
  case atStart => exact ⟨0, Nat.zero_le _, rfl, Lib.hid (by rw [H0.out]; exact OwnS.nil _ _ _ _ _), Lib.hid (Below.refl _ _)⟩
  case round =>
    obtain ⟨k, hk, rfl, HO, HQ⟩ := hrel
    have hzq := HQ.out.size
    have HQW := Lib.hid (B0.out.trans (HQ.out.mono (by omega)))
    have hll : (votL xs nd po id (l.take k)).length ≤ k := Nat.le_trans (HLL.out k) (List.length_take_le _ _)
    by_cases hlt : k < l.length
    · obtain ⟨b, off, hoa, hbb, hrow⟩ := H3.out (by omega)
      subst hoa
      have hsub : subOf (obj wr b) (off + k * 72) 72 = some (factL l[k]).toArray := by have := hrow k hlt; rw [← obj_below HQW.out (by omega)] at this; exact this
      have hbr : b < wr.heap.size := by omega
      have NY := Lib.hid (HY.out k hlt)
      have NN := Lib.hid (HN.out k hlt)
      have o2 : obj (wr.alloc (.cells (factL l[k]).toArray 54)) wr.heap.size = some (.cells (factL l[k]).toArray 54 (0, 0)) := obj_alloc_at _ _ _ rfl
      have HQA := Lib.hid (HQ.out.alloc (by omega) (.cells (factL l[k]).toArray 54))
      have HOA := Lib.hid (HO.out.alloc (.cells (factL l[k]).toArray 54))
      have hzx : (wr.alloc (.cells (factL l[k]).toArray 54)).heap.size = wr.heap.size + 1 := by simp
      generalize l[k] = x at *
      have BD := Lib.hid (HB.out x)
      generalize votL xs nd po id (l.take k) = vl at *
      obtain ⟨⟨f0, f1, f2, f3⟩, ⟨f4, f36⟩, ⟨f68, f69, _, _⟩⟩ := fact_parts (x := x) (W := wr.alloc (.cells (factL x).toArray 54)) (b := wr.heap.size) (o := 0) (by rw [o2, subOf_cells (by simp), subA_all (by simp)])
      rw [Nat.zero_add] at f1 f2 f3 f69 f4
      have R0 := (obj_below HQA.out (by omega)).trans O0.out
      have R1 := (obj_below HQA.out (by omega)).trans O1.out
      have rc : (wr.alloc (.cells (factL x).toArray 54)).cell? ⟨B, 1, none⟩ = some (.func (.func 63) #[] #[.pointer (some ⟨ub, 0, none⟩)]) := cell_at R0 1
      have ri : subOf (obj (wr.alloc (.cells (factL x).toArray 54)) (B + 1)) 0 32 = some (idL id).toArray := by rw [R1, subOf_cells (by simp), subA_all (by simp)]
      have hBl := lt_of_obj R0
      have hBl1 := lt_of_obj R1
      have HU1 := Lib.hid ((HU _ (B0.out.trans (HQA.out.mono (by omega))) x.id).out)
      have O2 := Lib.hid o2
      clear hrow o2 R0 R1 HU f0 f36 f68
      cases e6 : x.kind == 6
      · skip
        have hc := Lib.hid (NN.out (by rw [BD.out, e6]; simp))
        clear BD NY NN
        go_wp2
        go_roundw
        case rel => exact ⟨k + 1, by omega, by go_num, by rw [hc.out]; exact HOA, HQA⟩
        case measure => simp [intOf]; omega
      · skip
        cases en : x.node == nd
        · skip
          have hc := Lib.hid (NN.out (by rw [BD.out, e6, en]; simp))
          clear BD NY NN
          go_wp2
          go_roundw
          case rel => exact ⟨k + 1, by omega, by go_num, by rw [hc.out]; exact HOA, HQA⟩
          case measure => simp [intOf]; omega
        · skip
          cases ep : x.poll == po
          · skip
            have hc := Lib.hid (NN.out (by rw [BD.out, e6, en, ep]; simp))
            clear BD NY NN
            go_wp2
            go_roundw
            case rel => exact ⟨k + 1, by omega, by go_num, by rw [hc.out]; exact HOA, HQA⟩
            case measure => simp [intOf]; omega
          · skip
            cases e0 : decide (0 ≤ x.to)
            · skip
              have hc := Lib.hid (NN.out (by rw [BD.out, e6, en, ep, e0]; simp))
              clear BD NY NN
              go_wp2
              go_roundw
              case rel => exact ⟨k + 1, by omega, by go_num, by rw [hc.out]; exact HOA, HQA⟩
              case measure => simp [intOf]; omega
            · skip
              cases e32 : decide (x.to < 32)
              · skip
                have hc := Lib.hid (NN.out (by rw [BD.out, e6, en, ep, e0, e32]; simp))
                clear BD NY NN
                go_wp2
                go_roundw
                case rel => exact ⟨k + 1, by omega, by go_num, by rw [hc.out]; exact HOA, HQA⟩
                case measure => simp [intOf]; omega
              · skip
                cases eu : underM xs x.id id with
                | false =>
                  rw [eu] at HU1
                  have hc := Lib.hid (NN.out (by rw [BD.out, e6, en, ep, e0, e32, eu]; rfl))
                  clear BD NY NN eu
                  go_wp2_with fail
                  generalize wr.alloc (.cells (factL x).toArray 54) = wx at *
                  generalize hbx : wr.heap.size = bx at *
                  clear hsub
                  refine HU1.out.mono ?_
                  rintro e w5 ⟨rfl, b5⟩
                  have hz5 := b5.size
                  have HQ5 := Lib.hid (HQA.out.trans (b5.mono (by omega)))
                  have HO5 := Lib.hid (HOA.out.below b5)
                  clear b5 HU1 f1 f2 f3 f4 f69 rc ri
                  go_wp2
                  go_roundw
                  case rel => exact ⟨k + 1, by omega, by go_num, by rw [hc.out]; exact HO5, HQ5⟩
                  case measure => simp [intOf]; omega
                | true =>
                  rw [eu] at HU1
                  have hc := Lib.hid (NY.out (by rw [BD.out, e6, en, ep, e0, e32, eu]; rfl))
                  clear BD NY NN eu
                  go_wp2_with fail
                  generalize wr.alloc (.cells (factL x).toArray 54) = wx at *
                  generalize hbx : wr.heap.size = bx at *
                  clear hsub
                  refine HU1.out.mono ?_
                  rintro e w5 ⟨rfl, b5⟩
                  have hz5 := b5.size
                  have HQ5 := Lib.hid (HQA.out.trans (b5.mono (by omega)))
                  have HO5 := Lib.hid (HOA.out.below b5)
                  obtain ⟨⟨_, _, _, g3⟩, _⟩ := fact_parts (x := x) (W := w5) (b := bx) (o := 0) (by rw [obj_below b5 (by omega), O2.out, subOf_cells (by simp), subA_all (by simp)])
                  rw [Nat.zero_add] at g3
                  have hx5 : bx < w5.heap.size := by omega
                  clear b5 HU1 f1 f2 f3 f4 f69 rc ri
                  go_wp2_with (at_builtin; refine push38 rfl _ _ rfl (B + 2) _ vl x.to rfl (HO5.out.alloc _) w5.heap.size rfl (obj_alloc_at _ _ _ rfl) (by omega) (by simp; omega) ?_; intro v' w7 hown7 hb7 hk7)
                  have HQ7 := Lib.hid ((HQ5.out.alloc (by omega) _).trans hb7)
                  have HO7 := Lib.hid hown7
                  clear hown7 hb7 hk7
                  go_roundw
                  case rel => exact ⟨k + 1, by omega, by go_num, by rw [hc.out]; exact HO7, HQ7⟩
                  case measure => simp [intOf]; omega
    · obtain rfl : k = l.length := by omega
      have HSO := Lib.hid (sort_own wr (B + 2) _ _ HO.out (by omega) (by omega))
      clear HY HN HU HB
      go_wp2_with fail
      refine HSO.out.mono ?_
      rintro e w5 ⟨rfl, o5, b5, -⟩
      have HQ5 := Lib.hid (HQ.out.trans b5)
      have HCO := Lib.hid (compact_own w5 (B + 2) _ _ o5 (Nat.le_trans (by omega) b5.size) (by rw [List.length_mergeSort]; omega))
      clear o5 b5 HSO
      go_wp2_with fail
      refine HCO.out.mono ?_
      rintro e w6 ⟨v6, rfl, o6, b6, -⟩
      rw [← HV.out] at o6
      have HQ6 := Lib.hid (B0.out.trans ((HQ5.out.trans b6).mono (by omega)))
      have HO6 := Lib.hid o6
      clear o6 b6 HCO
      go_wp2
      go_ret
      exact ⟨v6, rfl, HO6.out.lower (by omega), by rw [hB]; exact HQ6.out⟩
end Go.Proofs.Ytmenfbfekfljbaa
