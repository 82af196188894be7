import Derived.Test.YtggpmepiggnnnaaPush
namespace Go.Proofs.Ytggpmepiggnnnaa
open Go.RowKit

def hasK (L : List Al) (k : Int) : Bool := L.any fun x => x.2 == k
theorem Spec.has {L : List Al} {M : List (Int × Int)} (h : Spec L M) (k : Int) : (aGet k M).isSome = hasK L k := by
  by_cases hk : ∃ j, j < L.length ∧ (at' L j).2 = k
  · obtain ⟨j, hj, e⟩ := hk
    have h1 := h.at_ j hj
    rw [e] at h1
    rw [h1]
    unfold hasK
    symm
    rw [Option.isSome_some, List.any_eq_true]
    exact ⟨L[j], List.getElem_mem hj, by rw [at'_eq hj] at e; simpa using e⟩
  · have h1 := h.no k fun j hj e => hk ⟨j, hj, e⟩
    rw [h1]
    unfold hasK
    symm
    rw [Option.isSome_none, List.any_eq_false]
    intro x hx e
    obtain ⟨j, hj, rfl⟩ := List.mem_iff_getElem.1 hx
    exact hk ⟨j, hj, by rw [at'_eq hj]; simpa using e⟩
def pushE (L : List Al) (t k : Int) : Int := if mayB t = false then 1 else if hasK L k = true then 7 else if 4096 ≤ L.length then 6 else 0
theorem zero3' (w : World) : (zeroValue 3).run Try.prog w = .ok (.int .i64 0) w := by kernel_rfl
set_option maxRecDepth 100000 in
set_option maxHeartbeats 1000000 in
/-- Push where it says no -/
theorem push_no (w : World) (F : Nat → Prop) (hb m : Nat) (sv : Value) (L : List Al) (M : List (Int × Int)) (t k : Int) (h : RawAt w F hb m sv L M) (hs : Spec L M) (hn : pushE L t k ≠ 0) :
    Calls Try.prog 11 #[.pointer (some ⟨hb, 0, none⟩), .int .i64 t, .int .i64 k] w fun e w' => e = .returned (.int .i64 (pushE L t k)) ∧ w' = w := by
  have HP := Lib.hid (show pushE L t k = if mayB t = false then 1 else if hasK L k = true then 7 else if 4096 ≤ L.length then 6 else 0 from rfl)
  have HNO := Lib.hid h.none
  have HM := Lib.hid (may_any w t)
  obtain ⟨oa, cap, rfl, q1, q2, q3⟩ := row_sub h.row
  unfold maxLen at q2
  have hl := run_lookup_int (P := Try.prog) (w := w) (m := m) (enc := intV) Try.underlying66 Try.underlying2 zero3' h.map k
  have hk := hs.has k
  have c0 : w.cell? ⟨hb, 0, none⟩ = some (.slice oa L.length cap) := cell_at h.box 0
  have c1 : w.cell? ⟨hb, 1, none⟩ = some (.map (some m)) := cell_at h.box 1
  generalize mayB t = mb at *
  generalize hasK L k = hk' at *
  generalize hgm : aGet k M = om at *
  have HN := Lib.hid hn
  clear h hs q3 hgm hn
  have key : ∃ (x : Int) (y : Bool), (Instr.lookup 66 (.map (some m)) (.int .i64 k) true).run Try.prog w = .ok (.tuple #[.int .i64 x, .bool y]) w ∧ y = hk' := by
    cases om with
    | none => exact ⟨0, false, hl, hk⟩
    | some x => exact ⟨x, true, hl, hk⟩
  obtain ⟨x, y, hl', rfl⟩ := key
  clear hl hk
  go_enter Try.func11, Try.ntmps11
  go_wp2_with fail
  refine HNO.out.mono ?_
  rintro e w1 ⟨rfl, rfl⟩
  go_wp2_with fail
  refine HM.out.mono ?_
  rintro e w2 ⟨rfl, rfl⟩
  cases mb
  · go_wp2
    go_ret
    exact ⟨ret_int (by rw [HP.out]; rfl), rfl⟩
  · cases y
    · have hge : 4096 ≤ L.length := by
        have h1 := HN.out
        rw [HP.out] at h1
        by_cases hc : 4096 ≤ L.length
        · exact hc
        · simp [hc] at h1
      have hgi : (4096 : Int) ≤ (L.length : Int) := by omega
      go_wp2
      go_ret
      exact ⟨ret_int (by rw [HP.out]; simp [hge]), rfl⟩
    · go_wp2
      go_ret
      exact ⟨ret_int (by rw [HP.out]; rfl), rfl⟩
end Go.Proofs.Ytggpmepiggnnnaa
