import Derived.Test.YtkjaabajomigkaaSorted
namespace Go.Proofs.Ytkjaabajomigkaa
open Go.RowKit

theorem ones_snoc (a : List ID) (x : ID) : ones (a ++ [x]) = ones a ++ [⟨x, 1⟩] := by unfold ones; simp
theorem cnt_ones_le (id : ID) : ∀ (l : List ID), 0 ≤ cnt id (ones l) ∧ cnt id (ones l) ≤ l.length := by
  intro l
  induction l with
  | nil => simp [ones, cnt]
  | cons x l ih =>
    unfold ones at ih ⊢
    simp only [List.map_cons, cnt, List.length_cons]
    split <;> omega
theorem ones_len (l : List ID) : (ones l).length = l.length := by unfold ones; simp
set_option maxRecDepth 100000 in
set_option maxHeartbeats 2000000 in
/-- bag.Of, of few enough names -/
theorem of_any (w : World) (v : Value) (l : List ID) (h : SlIn w v 32 idL l) (hlen : l.length ≤ 1048576) :
    Calls Try.prog 17 #[v] w (RetOwn w 33 33 vtL (ofV [] l)) := by
  obtain ⟨oa, cap, rfl, g1, g2, g3⟩ := h
  unfold maxLen at g2
  have H3 := Lib.hid g3
  have hmk : (Instr.makeMap 64 none).run Try.prog w = .ok (.map (some w.heap.size)) (w.alloc (.map #[] 0)) := by kernel_rfl
  have d1 : decide (1048576 < (l.length : Int)) = false := by simp; omega
  have HM0 := Lib.hid (MapB.made_at w rfl idV nV)
  have HB0 := Lib.hid ((Below.refl _ w).alloc (Nat.le_refl _) (.map #[] 0))
  have hz0 : (w.alloc (.map #[] 0)).heap.size = w.heap.size + 1 := by simp
  clear g3
  go_enter Try.func17, Try.ntmps17
  go_wp2
  generalize w.alloc (.map #[] 0) = w0 at *
  generalize hm : w.heap.size = m at *
  clear hmk
  go_loopw [12] (fun v8 wr => ∃ (k : Nat), k ≤ l.length ∧ v8 = .int .i64 k ∧ Hid (MapB wr m idV nV (gathK [] (ones (l.take k)))) ∧ Hid (Keeps (fun k => k = m) w0 wr)) (fun i _ => l.length - (intOf i).toNat)
  case atStart => exact ⟨0, Nat.zero_le _, rfl, Lib.hid (by simpa [gathK, ones] using HM0.out), Lib.hid (Keeps.refl _ _)⟩
  case round =>
    obtain ⟨k, hk, rfl, HMK, HK⟩ := hrel
    by_cases hlt : k < l.length
    · obtain ⟨b, off, hoa, hbb, hrow⟩ := H3.out (by omega)
      subst hoa
      have hs1 := hrow k hlt
      rw [← obj_below HB0.out hbb, ← HK.out.block b (by omega) (by omega)] at hs1
      have hbl : b < wr.heap.size := by have := HK.out.size; omega
      have hml := HMK.out.lt
      have hmulk : off + k * 32 + 32 ≤ off + k * 32 + 32 := Nat.le_refl _
      have o2 : obj (wr.alloc (.cells (idL l[k]).toArray 27)) wr.heap.size = some (.cells (idL l[k]).toArray 27 (0, 0)) := obj_alloc_at _ _ _ rfl
      have HK2 := Lib.hid (HK.out.alloc (.cells (idL l[k]).toArray 27))
      have HM2 := Lib.hid (HMK.out.of_obj (obj_alloc_past wr (.cells (idL l[k]).toArray 27) m hml))
      have hml2 : m < (wr.alloc (.cells (idL l[k]).toArray 27)).heap.size := by simp; omega
      have hne : m ≠ wr.heap.size := by omega
      have hkk : Hid (gathK [] (ones (l.take (k + 1))) = kPut l[k] (getN (gathK [] (ones (l.take k))) l[k] + 1) (gathK [] (ones (l.take k)))) := Lib.hid (by rw [List.take_succ_eq_append_getElem hlt, ones_snoc, gathK_snoc])
      have hle : 0 ≤ getN (gathK [] (ones (l.take k))) l[k] ∧ getN (gathK [] (ones (l.take k))) l[k] ≤ 1048576 := by
        rw [gathK_getN]
        have h0 : getN [] l[k] = 0 := rfl
        have h1 := cnt_ones_le l[k] (l.take k)
        rw [List.length_take] at h1
        omega
      obtain ⟨hge, hle⟩ := hle
      generalize l[k] = x at *
      generalize gathK [] (ones (l.take k)) = Lk at *
      have p1 : subOf (obj (wr.alloc (.cells (idL x).toArray 27)) wr.heap.size) 0 32 = some (idL x).toArray := by rw [o2, subOf_cells (by simp), subA_all (by simp)]
      have hwr : IntKind.i64.wrap (getN Lk x + 1) = getN Lk x + 1 := by simp [IntKind.wrap, IntKind.signed, IntKind.bits]; omega
      obtain ⟨es, clk, st, es1, clk1, es', clk', f0, f1, f2, f3, f4, f5⟩ := entry64 _ m Lk x (getN Lk x + 1) HM2.out
      clear hge hle
      go_wp2
      generalize hbx : wr.heap.size = bx at *
      generalize wr.alloc (.cells (idL x).toArray 27) = wr2 at *
      have f0' : obj (putObj wr2 m (.map es1 clk1)) m = some (.map es1 clk1) := obj_putObj_eq _ _ _ hml2
      have e0 : obj (putObj wr2 m (.map es1 clk1)) bx = obj wr2 bx := obj_putObj_ne _ _ _ _ (Ne.symm hne)
      have p1' := p1
      rw [← e0] at p1'
      have HF := Lib.hid (f5 (putObj wr2 m (.map es' clk')) (obj_putObj_eq _ _ _ hml2))
      have HPP := putObj_put wr2 m (.map es1 clk1) (.map es' clk')
      clear o2 e0 f5
      go_region
      go_wp2
      go_roundw
      case rel => exact ⟨k + 1, by omega, by go_num, by rw [hkk.out]; exact HF, Lib.hid (HK2.out.putObj (m := m) rfl _).drew⟩
      case measure => simp [intOf]; omega
    · have HE := HMK.out
      rw [List.take_of_length_le (by omega)] at HE
      have hgl := gathK_len (ones l) []
      rw [ones_len] at hgl
      have HS := Lib.hid (sorted_any wr m _ HE (gathK_nodup (ones l) [] (by simp)) (by simp at hgl; omega))
      rw [bagOf_ones] at HS
      clear HE hgl
      have HB1 := Lib.hid (HB0.out.trans (HK.out.below (B := m) (fun k hk => by omega) (by omega)))
      go_wp2_with fail
      refine HS.out.mono ?_
      rintro e w3 ⟨v3, rfl, h3, b3⟩
      have HO3 := Lib.hid h3
      have hz := HK.out.size
      have HB3 := Lib.hid (HB1.out.trans (b3.mono (by omega)))
      clear h3 b3
      go_wp2
      go_ret
      exact ⟨_, rfl, by rw [hm]; exact HO3.out.rebase (by omega), by rw [hm]; exact HB3.out⟩
end Go.Proofs.Ytkjaabajomigkaa
