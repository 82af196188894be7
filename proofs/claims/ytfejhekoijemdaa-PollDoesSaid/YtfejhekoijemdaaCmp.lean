import Derived.Test.YtfejhekoijemdaaVote
import Derived.Lib.BytesEntry
import Derived.Lib.Bytealg
import Derived.Laws.Externs
import Derived.Sort.Grow
namespace Go.Proofs.Ytfejhekoijemdaa
open Go.RowKit Go.Sort

def cmpI (a b : ID) : Int := if ltI a b = true then -1 else if a = b then 0 else 1
theorem compareBytes_lt : ∀ (a b : List UInt8), a.length = b.length → Lib.compareBytes a b = if ltL a b = true then -1 else if a = b then 0 else 1 := by
  intro a
  induction a with
  | nil =>
    intro b h
    have : b = [] := List.eq_nil_of_length_eq_zero h.symm
    subst this
    rfl
  | cons x a ih =>
    intro b h
    cases b with
    | nil => simp at h
    | cons y b =>
      by_cases hxy : x = y
      · subst hxy
        have hc : ltL (x :: a) (x :: b) = ltL a b := if_pos rfl
        have he : Lib.compareBytes (x :: a) (x :: b) = Lib.compareBytes a b := by
          simp only [Lib.compareBytes]
          rw [if_neg (UInt8.lt_irrefl x), if_neg (UInt8.lt_irrefl x)]
        rw [hc, he, ih b (by simpa using h)]
        simp
      · have hc : ltL (x :: a) (y :: b) = decide (x < y) := if_neg hxy
        rw [hc]
        simp only [Lib.compareBytes]
        rcases UInt8.lt_or_lt_of_ne hxy with h1 | h1
        · rw [if_pos h1]; simp [h1]
        · have h2 : ¬ x < y := fun h2 => UInt8.lt_irrefl _ (UInt8.lt_trans h1 h2)
          rw [if_neg h2, if_pos h1]
          simp [h2, hxy]
def numsOf (a : ID) : List Int := a.l.map fun b => (b.toNat : Int)
theorem bytesOf_nums (a : ID) : Lib.bytesOf (numsOf a) = a.l := by
  unfold Lib.bytesOf numsOf
  rw [List.map_map]
  conv => rhs; rw [← List.map_id a.l]
  refine List.map_congr_left fun b _ => ?_
  show UInt8.ofNat ((b.toNat : Int)).toNat = b
  rw [Int.toNat_natCast]
  exact UInt8.ofNat_toNat
theorem run_bytesOf_id (P : Program) (W : World) (a : ID) (b : Nat) (T : TypeId) (c : Nat) (h : obj W b = some (.cells (idL a).toArray T (0, 0))) : (Extern.Bytes.bytesOf (.slice (some ⟨b, 0, none⟩) 32 c)).run P W = .ok ⟨a.l.toArray⟩ W := by
  have hl := Lib.run_loadBytesX (P := P) W (numsOf a) ⟨b, 0, none⟩ .empty (fun j x hj => by
    rw [Addr.add_lit, Nat.zero_add, cell_at h]
    unfold numsOf at hj
    rw [List.getElem?_map] at hj
    cases hc : a.l[j]? with
    | none => rw [hc] at hj; cases hj
    | some y =>
      rw [hc] at hj
      simp at hj
      subst hj
      simp [idL, hc])
  have hn : (numsOf a).length = 32 := by simp [numsOf, a.h]
  rw [hn, bytesOf_nums] at hl
  simp only [Extern.Bytes.bytesOf]
  rw [hl]
  simp
theorem run_cmp50 (W : World) (a b : ID) (x y : Nat) (T T' : TypeId) (c d : Nat) (h1 : obj W x = some (.cells (idL a).toArray T (0, 0))) (h2 : obj W y = some (.cells (idL b).toArray T' (0, 0))) :
    (callFunc 82 #[.slice (some ⟨x, 0, none⟩) 32 c, .slice (some ⟨y, 0, none⟩) 32 d]).run Try.prog W = .ok (.value (.int .i64 (cmpI a b))) W := by
  rw [run_callFunc_extern Try.func82 (by kernel_rfl) (by kernel_rfl) (by kernel_rfl) (e := Extern.BytealgCompare.compare) (by kernel_rfl)]
  have e : (Extern.BytealgCompare.compare #[.slice (some ⟨x, 0, none⟩) 32 c, .slice (some ⟨y, 0, none⟩) 32 d]).run Try.prog W = .ok (.int .i64 (cmpI a b)) W := by
    show Sem.run Try.prog (do pure (goInt (Extern.BytealgCompare.cmp (← Extern.Bytes.bytesOf (.slice (some ⟨x, 0, none⟩) 32 c)) (← Extern.Bytes.bytesOf (.slice (some ⟨y, 0, none⟩) 32 d))))) W = _
    simp only [Sem.run_bind, run_bytesOf_id Try.prog W a x T c h1, run_bytesOf_id Try.prog W b y T' d h2, Result.andThen, Sem.run_pure]
    rw [Lib.cmp_eq]
    simp only
    rw [compareBytes_lt _ _ (by rw [a.h, b.h])]
    unfold cmpI ltI
    congr 2
    split
    · rfl
    · by_cases hab : a = b
      · subst hab; simp
      · rw [if_neg hab, if_neg (fun e => hab (ID.ext' e))]
  rw [e]
  rfl
set_option maxRecDepth 100000 in
theorem bytes_any (W : World) (a b : ID) (x y : Nat) (T T' : TypeId) (c d : Nat) (h1 : obj W x = some (.cells (idL a).toArray T (0, 0))) (h2 : obj W y = some (.cells (idL b).toArray T' (0, 0))) :
    Calls Try.prog 71 #[.slice (some ⟨x, 0, none⟩) 32 c, .slice (some ⟨y, 0, none⟩) 32 d] W fun e w' => e = .returned (.int .i64 (cmpI a b)) ∧ W = w' := by
  have hr := run_cmp50 W a b x y T T' c d h1 h2
  go_enter Try.func71, Try.ntmps71
  go_wp2
  go_ret
  exact ⟨rfl, rfl⟩
set_option maxRecDepth 100000 in
set_option maxHeartbeats 1000000 in
/-- bag.compare: its world grows alone -/
theorem compare_grow (w : World) (a b : ID) : Calls Try.prog 67 #[.agg (idL a).toArray, .agg (idL b).toArray] w fun e w' => e = .returned (.int .i64 (cmpI a b)) ∧ ∃ q os, w' = grow (w.drewN q) os := by
  have hg : ∀ k, Hid (∃ q os', ((w.alloc (.cells (idL a).toArray 37)).alloc (.cells (idL b).toArray 37)).drewN k = grow (w.drewN q) os') := fun k => Lib.hid ⟨k, #[.cells (idL a).toArray 37 (0, 0), .cells (idL b).toArray 37 (0, 0)], by rw [alloc_eq_grow, alloc_eq_grow, grow_grow]; rfl⟩
  have o1 : obj ((w.alloc (.cells (idL a).toArray 37)).alloc (.cells (idL b).toArray 37)) w.heap.size = some (.cells (idL a).toArray 37 (0, 0)) := (obj_alloc_past _ _ _ (by simp)).trans (obj_alloc_at _ _ _ rfl)
  have o2 : obj ((w.alloc (.cells (idL a).toArray 37)).alloc (.cells (idL b).toArray 37)) (w.heap.size + 1) = some (.cells (idL b).toArray 37 (0, 0)) := obj_alloc_at _ _ _ (by simp)
  have HB := Lib.hid (fun k c d => bytes_any (((w.alloc (.cells (idL a).toArray 37)).alloc (.cells (idL b).toArray 37)).drewN k) a b w.heap.size (w.heap.size + 1) 37 37 c d o1 o2)
  clear o1 o2
  go_enter Try.func67, Try.ntmps67
  go_wp2
  go_quiet ((go_at_call 71; exact Calls.quiet_of_same ((HB.out _ _ _).mono fun _ _ h => ⟨h.1, h.2.symm⟩)))
  go_wp2
  go_ret
  exact ⟨rfl, (hg nq).out⟩
theorem below_grow (w : World) (q : Nat) (os : Array Obj) : Below w.heap.size w (grow (w.drewN q) os) :=
  ⟨rfl, rfl, rfl, by simp [grow, World.drewN], fun k hk => by
    show (grow (w.drewN q) os).heap[k]? = w.heap[k]?
    exact Array.getElem?_append_left hk⟩
theorem compare_any (w : World) (a b : ID) : Calls Try.prog 67 #[.agg (idL a).toArray, .agg (idL b).toArray] w fun e w' => e = .returned (.int .i64 (cmpI a b)) ∧ Below w.heap.size w w' :=
  (compare_grow w a b).mono fun e w' h => by
    obtain ⟨h1, q, os, rfl⟩ := h
    exact ⟨h1, below_grow w q os⟩
set_option maxRecDepth 100000 in
set_option maxHeartbeats 1000000 in
/-- bag.Less -/
theorem less_any (w : World) (a b : ID) : Calls Try.prog 64 #[.agg (idL a).toArray, .agg (idL b).toArray] w fun e w' => e = .returned (.bool (ltI a b)) ∧ Below w.heap.size w w' := by
  have hb : Below w.heap.size w ((w.alloc (.cells (idL a).toArray 37)).alloc (.cells (idL b).toArray 37)) := ((Below.refl _ w).alloc (Nat.le_refl _) _).alloc (by simp) _
  have HB := Lib.hid hb
  have HC := Lib.hid (compare_any ((w.alloc (.cells (idL a).toArray 37)).alloc (.cells (idL b).toArray 37)) a b)
  have HL := Lib.hid (show decide (cmpI a b < 0) = ltI a b by unfold cmpI; cases h : ltI a b <;> simp; split <;> decide)
  generalize cmpI a b = c at *
  clear hb
  go_enter Try.func64, Try.ntmps64
  go_wp2_with fail
  refine HC.out.mono ?_
  rintro e w1 ⟨rfl, b1⟩
  go_wp2
  go_ret
  exact ⟨ret_bool HL.out, HB.out.trans (b1.mono HB.out.size)⟩
end Go.Proofs.Ytfejhekoijemdaa
