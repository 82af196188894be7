import Derived.Shelf.SlicesE.Delete
import Derived.Test.YtfejhekoijemdaaProg
import Derived.Test.YtfejhekoijemdaaOpenS
import Derived.Lib.OwnBridge
/-
  DERIVED: THE SHELF's CONTRACTS AT THIS DUMP, IN PLAIN WORDS (tools/lay-plain.mjs out of 'TryShelf.lean', which tools/lay-shelf.mjs wrote): THE SAME DECLARATIONS UNDER THE SAME NAMES: 'import', 'namespace', 'open', 'def', 'theorem' AND NOTHING ELSE: no command of the shelf's: FOR A HAND-IN. Each laying: the table of numbers ('.._ren') and one theorem, a field a fact of the dump's own or the kernel's comparison; each contract: ONE APPLICATION.
-/
namespace Go.Proofs
open Go.Shelf
def Try.delPtr_ren : Go.Shelf.Ren := ⟨fun | 45 => 37 | n => n, fun | 22 => 76 | 23 => 83 | 3 => 3 | 4 => 4 | 0 => 0 | n => n, fun | n => n⟩
theorem Try.delPtr : Go.Proofs.SlLaysE.n45 Try.prog Try.delPtr_ren := {
  mixed := by kernel_rfl
  f45 := ⟨Try.f37.name, by decide, Try.func37.trans (congrArg some (by kernel_rfl))⟩
  t0 := Try.underlying0
  a0 := Try.isAgg0
  z0 := Try.sizeOf0
  v0 := Try.zeroValue0
  t3 := Try.underlying3
  a3 := Try.isAgg3
  z3 := Try.sizeOf3
  v3 := Try.zeroValue3
  t4 := Try.underlying4
  a4 := Try.isAgg4
  z4 := Try.sizeOf4
  v4 := Try.zeroValue4
  t22 := Try.underlying76
  a22 := Try.isAgg76
  z22 := Try.sizeOf76
  v22 := Try.zeroValue76
  a23 := Try.isAgg83
  z23 := Try.sizeOf83 }
end Go.Proofs
namespace Go.Proofs.Ytfejhekoijemdaa
open Go.RowKit Go.Shelf Go.Lib Go.Sort

def ptrE : Option (Nat × Nat) → Value
  | none => .pointer none
  | some p => ptrV p
theorem ptrE_map (ps : List (Nat × Nat)) : (ps.map some).map ptrE = ps.map ptrV := by
  rw [List.map_map]; rfl
theorem zero83 (w : World) : (zeroValue 83).run Try.prog w = .ok (.pointer none) w := by kernel_rfl
/-- slices.Delete of the first pointer -/
theorem delete_any (w : World) (lv : Value) (p : Nat × Nat) (ps : List (Nat × Nat)) (h : RowP w lv (p :: ps)) :
    Calls Try.prog 37 #[lv, .int .i64 0, .int .i64 1] w fun e w' => ∃ oa cap, e = .returned (.slice oa ps.length cap) ∧ RowP w' (.slice oa ps.length cap) ps ∧ (Value.slice oa ps.length cap).ownBlock = lv.ownBlock ∧ Keeps (fun n => lv.ownBlock = some n) w w' := by
  have h0 : w.ownsRow 0 83 1 lv (ps.length + 1) (((p :: ps).map some).map ptrE) := by rw [ptrE_map]; exact h
  have hv : lv ≠ .slice none 0 0 := by
    intro e
    subst e
    rcases h0.2 with ⟨_, h1⟩ | ⟨g, cap, cur, h1, _⟩
    · omega
    · cases h1
  obtain ⟨g, cap, rfl, _, hg, hn, hm, hl, hH⟩ := holds_of_ownsRow h0 hv
  obtain ⟨i0, hi, hz0, hz1, hz2⟩ := info_parts info83
  have hC := AnyE.slices_Delete Try.delPtr ptrE (fun x => by cases x <;> rfl) none zero83 i0 hi hz1 g 0 cap 0 1 ((p :: ps).map some).toArray w hH (by simpa using hn) (by unfold maxLen at hm; omega) (by omega) (by simp)
  have e1 : ((p :: ps).map some).toArray.size = ps.length + 1 := by simp
  rw [e1] at hC
  refine hC.mono ?_
  rintro e w' ⟨rfl, q, rfl⟩
  have h2 := ownsRow_putRow (q := q) (k := ps.length) (ys := ((p :: ps).map some).toArray.toList.take 0 ++ ((p :: ps).map some).toArray.toList.drop 1 ++ List.replicate (1 - 0) none) h0 (by simp) (by omega)
  refine ⟨some ⟨g, 0, none⟩, cap, by simp, ?_, rfl, ⟨rfl, rfl, rfl, by simp [Sort.ahead], fun k hk hne => ?_⟩⟩
  · unfold RowP
    rw [← ptrE_map]
    have e2 : (((p :: ps).map some).toArray.toList.take 0 ++ ((p :: ps).map some).toArray.toList.drop 1 ++ List.replicate (1 - 0) none).take ps.length = ps.map some := by
      simp
    rw [e2] at h2
    exact h2
  · have hkg : g ≠ k := fun e => hne (by rw [e]; rfl)
    unfold obj
    simp [putRow, mapBlock, Sort.ahead, Array.getElem?_modify, hkg]
end Go.Proofs.Ytfejhekoijemdaa
