import Derived.Test.YtmenfbfekfljbaaPath
import Derived.Test.YtmenfbfekfljbaaSlices
namespace Go.Proofs.Ytmenfbfekfljbaa
open Go.RowKit

theorem OwnS.snoc' {α : Type} {w : World} {base E k : Nat} {enc : α → List Value} {v : Value} {xs : List α} {y : α} (h : OwnS w base E k enc v (xs ++ [y])) : ∃ g cap, v = .slice (some ⟨g, 0, none⟩) (xs.length + 1) cap := by
  rcases h.1.2 with ⟨h1, _⟩ | ⟨g, cap, _, h1, _⟩
  · exact absurd (h.2.1 h1) (by simp)
  · exact ⟨g, cap, by rw [h1]; simp⟩
/-! ### the blocks that are seen, each once -/
def idsStep (ids : List ID) (x : FactD) : List ID := if x.kind == 1 && !decide (x.id ∈ ids) then ids ++ [x.id] else ids
def blkIds (xs : List FactD) : List ID := xs.foldl idsStep []
theorem blkIds_succ {xs : List FactD} {k : Nat} (h : k < xs.length) : blkIds (xs.take (k + 1)) = idsStep (blkIds (xs.take k)) xs[k] := by
  unfold blkIds
  rw [take_succ_get xs k h, List.foldl_append]
  rfl
theorem idsStep_length (ids : List ID) (x : FactD) : (idsStep ids x).length ≤ ids.length + 1 := by
  unfold idsStep; split <;> simp
theorem blkIds_length (xs : List FactD) : (blkIds xs).length ≤ xs.length := by
  have key : ∀ (l : List FactD) (ids : List ID), (l.foldl idsStep ids).length ≤ ids.length + l.length := by
    intro l
    induction l with
    | nil => simp
    | cons x l ih =>
      intro ids
      have h1 := ih (idsStep ids x)
      have h2 := idsStep_length ids x
      rw [List.foldl_cons, List.length_cons]
      omega
  have := key xs []
  simpa [blkIds] using this
theorem mem_idsStep (ids : List ID) (x : FactD) (a : ID) : a ∈ idsStep ids x ↔ a ∈ ids ∨ (x.kind = 1 ∧ x.id = a) := by
  unfold idsStep
  by_cases h1 : x.kind = 1
  · by_cases h2 : x.id ∈ ids
    · simp only [h1, h2, BEq.rfl, decide_true, Bool.not_true, Bool.and_false, Bool.false_eq_true, if_false, true_and]
      exact ⟨.inl, fun h => h.elim id (fun e => e ▸ h2)⟩
    · simp [h1, h2, eq_comm]
  · simp [h1]
theorem mem_blkIds (xs : List FactD) (a : ID) : a ∈ blkIds xs ↔ ∃ x ∈ xs, x.kind = 1 ∧ x.id = a := by
  have key : ∀ (l : List FactD) (ids : List ID), a ∈ l.foldl idsStep ids ↔ a ∈ ids ∨ ∃ x ∈ l, x.kind = 1 ∧ x.id = a := by
    intro l
    induction l with
    | nil => simp
    | cons x l ih =>
      intro ids
      rw [List.foldl_cons, ih, mem_idsStep]
      simp [or_assoc]
  have := key xs []
  simpa [blkIds] using this
def blkPairs (xs : List FactD) : List (ID × ID) := (blkIds xs).map fun a => (a, (parM xs a).getD ID.zero)

/-- what lies behind the iterator that 'Blocks' hands back -/
structure BlkAt (w : World) (ib ub m : Nat) (v : Value) (xs : List FactD) : Prop where
  ids : obj w ib = some (.cells #[v] 43 (0, 0))
  sl : SlIn w v 32 idL (blkIds xs)
  rel : RelAt w ub m xs
theorem BlkAt.below {w W : World} {ib ub m : Nat} {v : Value} {xs : List FactD} (h : BlkAt w ib ub m v xs) (hb : Below w.heap.size w W) : BlkAt W ib ub m v xs :=
  ⟨(obj_below hb (lt_of_obj h.ids)).trans h.ids, h.sl.below hb, h.rel.below hb⟩
def RetBlk (w : World) (xs : List FactD) (e : Ending) (w' : World) : Prop :=
  ∃ ib ub m v, e = .returned (.func (.func 47) #[] #[.pointer (some ⟨ib, 0, none⟩), .pointer (some ⟨ub, 0, none⟩)]) ∧ BlkAt w' ib ub m v xs ∧ Below w.heap.size w w'
set_option maxRecDepth 100000 in
set_option maxHeartbeats 2000000 in
theorem blocks_any (w : World) (v : Value) (xs : List FactD) (h : SlIn w v 72 factL xs) (hlen : xs.length ≤ 1000) :
    Calls Try.prog 24 #[v] w (RetBlk w xs) := by
  have HP := Lib.hid (parents_any w v xs h hlen)
  obtain ⟨oa, cap, rfl, h1, h2, h3⟩ := h
  unfold maxLen at h2
  have H3 := Lib.hid h3
  clear h3
  have hmf : ∀ (fn : Fn) (first cap : Array Value) (w : World), (Instr.makeFunc fn first cap).run Try.prog w = .ok (.func fn first cap) w := fun _ _ _ _ => rfl
  go_enter Try.func24, Try.ntmps24
  go_wp2_with fail
  refine HP.out.mono ?_
  rintro e w1 ⟨rfl, hm1, hb1⟩
  have hz1 := hb1.size
  have r2 : RelAt ((w1.alloc (.cells #[.map (some w.heap.size)] 82)).alloc (.cells #[.slice none 0 0] 43)) w1.heap.size w.heap.size xs := ⟨by simp [go_sem], (hm1.of_obj (obj_alloc_past _ _ _ hm1.lt)).of_obj (obj_alloc_past _ _ _ (by have := hm1.lt; simp; omega))⟩
  have i2 : obj ((w1.alloc (.cells #[.map (some w.heap.size)] 82)).alloc (.cells #[.slice none 0 0] 43)) (w1.heap.size + 1) = some (.cells #[.slice none 0 0] 43 (0, 0)) := by simp [go_sem]
  have b2 : Below w.heap.size w ((w1.alloc (.cells #[.map (some w.heap.size)] 82)).alloc (.cells #[.slice none 0 0] 43)) := (hb1.alloc hz1 _).alloc (by simp; omega) _
  have R2 := Lib.hid r2
  have I2 := Lib.hid i2
  clear hm1 r2 i2 hb1
  go_wp2_with fail
  generalize (w1.alloc (.cells #[.map (some w.heap.size)] 82)).alloc (.cells #[.slice none 0 0] 43) = w2 at *
  generalize w1.heap.size = ub at *
  go_loopw [6, 11] (fun _ v11 wr => ∃ (k : Nat) (sv : Value), k ≤ xs.length ∧ v11 = .int .i64 k ∧ Hid (obj wr (ub + 1) = some (.cells #[sv] 43 (0, 0))) ∧ OwnS wr w.heap.size 45 32 idL sv (blkIds (xs.take k)) ∧ Hid (RelAt wr ub w.heap.size xs) ∧ Below w.heap.size w wr) (fun _ i _ => xs.length - (intOf i).toNat)
  case atStart => exact ⟨0, _, Nat.zero_le _, rfl, I2, OwnS.nil _ _ _ _ _, R2, b2⟩
  case round =>
    clear b2 R2 I2
    obtain ⟨k, sv, hk, rfl, HI, hown, HR, hb⟩ := hrel
    have oi := HI.out
    have zi := lt_of_obj oi
    have c0 : wr.cell? ⟨ub + 1, 0, none⟩ = some sv := cell_at oi 0
    have hz := hb.size
    have hidl : (blkIds (xs.take k)).length ≤ k := Nat.le_trans (blkIds_length _) (List.length_take_le _ _)
    by_cases hlt : k < xs.length
    · obtain ⟨b, off, hoa, hbb, hrow⟩ := H3.out (by omega)
      subst hoa
      have hsub := hrow k hlt
      have hob : obj wr b = obj w b := obj_below hb hbb
      have hbr : b < wr.heap.size := Nat.lt_of_lt_of_le hbb hb.size
      have HU := Lib.hid (blkIds_succ hlt)
      generalize xs[k] = x at *
      generalize blkIds (xs.take k) = ids at *
      clear hrow
      have bA : Below wr.heap.size wr (wr.alloc (.cells (factL x).toArray 54)) := (Below.refl _ _).alloc (Nat.le_refl _) _
      by_cases hk1 : x.kind = 1
      · have e1 : (x.kind == 1) = true := by simpa using hk1
        have f1 : obj (wr.alloc (.cells (factL x).toArray 54)) wr.heap.size = some (.cells (factL x).toArray 54 (0, 0)) := obj_alloc_at _ _ _ rfl
        have CT := Lib.hid (contains_any (wr.alloc (.cells (factL x).toArray 54)) _ ids x.id ((hown.alloc (.cells (factL x).toArray 54)).slIn idL_length))
        by_cases hm8 : x.id ∈ ids
        · rw [decide_eq_true hm8] at CT
          have HE : Hid (blkIds (xs.take (k + 1)) = ids) := Lib.hid (by rw [HU.out, idsStep, e1, decide_eq_true hm8]; rfl)
          clear hk1 hm8
          go_wp2_with fail
          refine CT.out.mono ?_
          rintro e w3 ⟨rfl, hb3⟩
          have bB : Below wr.heap.size wr w3 := bA.trans (hb3.mono (by simp))
          go_wp2
          go_roundw
          case rel => exact ⟨k + 1, sv, by omega, by go_num, Lib.hid ((obj_below bB zi).trans oi), by rw [HE.out]; exact hown.below bB, Lib.hid (HR.out.below bB), hb.trans (bB.mono hz)⟩
          case measure => simp [intOf]; omega
        · rw [decide_eq_false hm8] at CT
          have HE : Hid (blkIds (xs.take (k + 1)) = ids ++ [x.id]) := Lib.hid (by rw [HU.out, idsStep, e1, decide_eq_false hm8]; rfl)
          clear hk1 hm8
          go_wp2_with fail
          refine CT.out.mono ?_
          rintro e w3 ⟨rfl, hb3⟩
          have bB : Below wr.heap.size wr w3 := bA.trans (hb3.mono (by simp))
          have f3 : obj w3 wr.heap.size = some (.cells (factL x).toArray 54 (0, 0)) := (obj_below hb3 (lt_of_obj f1)).trans f1
          have z3 := lt_of_obj f3
          have oi3 := (obj_below bB zi).trans oi
          have zi3 := lt_of_obj oi3
          have c3 : w3.cell? ⟨ub + 1, 0, none⟩ = some sv := cell_at oi3 0
          have hown3 := hown.below bB
          have bD : Below w.heap.size w w3 := hb.trans (bB.mono hz)
          have hz3 := bD.size
          have r3 := HR.out.below bB
          have n1 := hown3.ne oi3 (by simp)
          have n2 := hown3.ne r3.box (by simp)
          have n3 : sv.ownBlock ≠ some w.heap.size := by
            obtain ⟨es, clk, ho, _⟩ := r3.map
            exact hown3.ne ho (by simp)
          have r3' := Lib.hid r3
          clear hb3 f1 bA r3
          go_wp2_with (at_builtin; refine push45 rfl _ _ rfl w.heap.size _ ids x.id rfl (hown3.alloc _) w3.heap.size rfl (by go_simp) (by omega) (by simp; omega) ?_; intro v' w5 hown5 hb5 hk5; obtain ⟨g5, cap5, rfl⟩ := hown5.snoc'; have oi5 : obj w5 (ub + 1) = some (.cells #[sv] 43 (0, 0)) := (hk5 _ (by simp; omega) n1).trans ((obj_alloc_past _ _ _ zi3).trans oi3); have c5 : w5.cell? ⟨ub + 1, 0, none⟩ = some sv := cell_at oi5 0; have fz5 : w5.frozen? ⟨ub + 1, 0, none⟩ = false := frozen_at oi5 0)
          have hne5 : g5 ≠ ub + 1 := fun e => hown5.ne oi5 (by simp) (by simp [Value.ownBlock, e])
          go_roundw
          case rel => exact ⟨k + 1, _, by omega, by go_num, Lib.hid (obj_setCell_at _ oi5), by rw [HE.out]; exact hown5.keeps (fun g hg => obj_setCell_ne _ ⟨ub + 1, 0, none⟩ _ _ (by simp [Value.ownBlock] at hg; subst hg; exact hne5)),
              Lib.hid ⟨(obj_setCell_ne _ ⟨ub + 1, 0, none⟩ _ _ (by simp)).trans ((hk5 _ (by have := lt_of_obj r3'.out.box; simp; omega) n2).trans ((obj_alloc_past _ _ _ (lt_of_obj r3'.out.box)).trans r3'.out.box)), r3'.out.map.of_obj ((obj_setCell_ne _ ⟨ub + 1, 0, none⟩ _ _ (by simp; omega)).trans ((hk5 _ (by have := r3'.out.map.lt; simp; omega) n3).trans (obj_alloc_past _ _ _ r3'.out.map.lt)))⟩,
              ((bD.alloc hz3 _).trans hb5).setCell (p := ⟨ub + 1, 0, none⟩) (by show w.heap.size ≤ ub + 1; omega) _⟩
          case measure => simp [intOf]; omega
      · have e1 : (x.kind == 1) = false := by simpa using hk1
        have HE : Hid (blkIds (xs.take (k + 1)) = ids) := Lib.hid (by rw [HU.out, idsStep, e1]; rfl)
        clear hk1
        go_wp2
        go_roundw
        case rel => exact ⟨k + 1, sv, by omega, by go_num, Lib.hid ((obj_below bA zi).trans oi), by rw [HE.out]; exact hown.below bA, Lib.hid (HR.out.below bA), hb.trans (bA.mono hz)⟩
        case measure => simp [intOf]; omega
    · have hk' : k = xs.length := by omega
      subst hk'
      rw [List.take_length] at hown
      go_wp2
      go_ret
      exact ⟨_, _, _, sv, rfl, ⟨oi, hown.slIn idL_length, HR.out⟩, hb⟩
end Go.Proofs.Ytmenfbfekfljbaa
