import Derived.Test.YtfejhekoijemdaaOpenA
import Derived.Maps.AppendAt
namespace Go.Proofs.Ytfejhekoijemdaa
open Go.RowKit

def openC (S : SetM) (slots : List Int) : Int := if (decide (slots.length < 1) || decide (64 < slots.length) || slots.any wrongB) = true then 1 else if 256 ≤ S.l.length then 6 else 0
def addS (S : SetM) (slots : List Int) : SetM := { S with last := S.last + 1, l := S.l ++ [newO S slots] }
theorem info83 : (Try.prog.info? 83).map (fun i => (i.zero, i.size, i.bytes)) = some (some (.pointer none), 1, 8) := by kernel_rfl
/-- append of a poll's pointer -/
theorem push76 {ops : Array Oper} {rest : List Oper} {o : Oper} {a : Act} {w : World} {Q : Exit → Act → World → Prop} (hgd : o.guard = none) (s x : Operand) (ho : o.op = .call { callee := .builtin .append, args := #[s, x], argTypes := #[76, 76] })
    (v : Value) (ps : List (Nat × Nat)) (y : Nat × Nat) (hs : a.eval s = v) (hown : RowP w v ps) (g : Nat) (hx : a.eval x = .slice (some ⟨g, 0, none⟩) 1 1) (hg : obj w g = some (.cells #[.pointer (some ⟨y.1, 0, none⟩)] 83 (0, 0)))
    (hlen : ps.length ≤ 1048576)
    (h : ∀ v' w', RowP w' v' (ps ++ [y]) → w.grownBy w' v.ownBlock → (v'.ownBlock = v.ownBlock ∨ v'.ownBlock = some w.heap.size) → wpList Try.prog ops Q rest (a.put o.dst v') w') : wpList Try.prog ops Q (o :: rest) a w := by
  obtain ⟨i0, hi, hz0, hz1, hz2⟩ := info_parts info83
  refine wpList_append_own_at (P := Try.prog) w hgd s x 76 ho 0 83 i0 _ 1 8 Try.underlying76 hi hz0 hz1 hz2 (by simp [Value.cells]) (by decide) v ps.length (ps.map ptrV) hs hown ⟨g, 0, none⟩ 1 1 [ptrV y] hx rfl (fun j u hu => ?_) (fun u hu => ?_) (by unfold maxLen; omega) (by omega) (Nat.zero_le _) ?_
  · rw [Addr.add_lit, cell_at hg]; simpa [ptrV] using hu
  · simp at hu; subst hu; rfl
  · intro v' w' h1 h2 h3 h4
    refine h v' w' ?_ h2 h4
    have e1 : (ps ++ [y]).length = ps.length + 1 := by simp
    have e2 : (ps ++ [y]).map ptrV = ps.map ptrV ++ [ptrV y] := by simp
    unfold RowP
    rw [e1, e2]
    exact h1
set_option maxRecDepth 100000 in
set_option maxHeartbeats 2000000 in
/-- (*Set).Open: what is refused -/
theorem open_no (w : World) (M V : Nat → Prop) (b : Nat) (lv : Value) (ps : List (Nat × Nat)) (S : SetM) (h : SetW w M V b lv ps S) (hp : 1 ≤ S.pref) (sv : Value) (slots : List Int) (hs : SlIn w sv 1 intL slots) (hne : openC S slots ≠ 0) :
    Calls Try.prog 11 #[.pointer (some ⟨b, 0, none⟩), sv] w fun e w' => e = .returned (.tuple #[.int .i64 0, .int .i64 (openC S slots)]) ∧ w' = w := by
  have HN := Lib.hid (none_no w M V b lv ps S h hp)
  have HC := Lib.hid (contains_wrong w sv slots hs)
  have c3 : w.cell? ⟨b, 3, none⟩ = some lv := cell_at h.box 3
  have hlen := h.len
  obtain ⟨la, lc, rfl, g1, g2, _⟩ := h.row.slIn
  obtain ⟨oa, cap, rfl, h1, h2, _⟩ := hs
  unfold maxLen at h2 g2
  rw [hlen] at c3 g1
  clear h hlen
  by_cases d1 : slots.length < 1
  · have e1 : openC S slots = 1 := by unfold openC; simp [d1]
    rw [e1]
    have q1 : decide ((slots.length : Int) < 1) = true := by simp; omega
    clear hne e1
    generalize slots.length = n at *
    go_enter Try.func11, Try.ntmps11
    go_wp2_with fail
    refine HN.out.mono ?_
    rintro e w1 ⟨rfl, rfl⟩
    go_wp2
    go_ret2
    exact ⟨rfl, rfl⟩
  have q1 : decide ((slots.length : Int) < 1) = false := by simp; omega
  by_cases d2 : 64 < slots.length
  · have e1 : openC S slots = 1 := by unfold openC; simp [d2]
    rw [e1]
    have q2 : decide (64 < (slots.length : Int)) = true := by simp; omega
    clear hne e1 d1
    generalize slots.length = n at *
    go_enter Try.func11, Try.ntmps11
    go_wp2_with fail
    refine HN.out.mono ?_
    rintro e w1 ⟨rfl, rfl⟩
    go_wp2
    go_ret2
    exact ⟨rfl, rfl⟩
  have q2 : decide (64 < (slots.length : Int)) = false := by simp; omega
  cases d3 : slots.any wrongB with
  | true =>
    have e1 : openC S slots = 1 := by unfold openC; rw [d3]; simp
    rw [e1]
    rw [d3] at HC
    clear hne e1 d1 d2 d3
    generalize slots.length = n at *
    go_enter Try.func11, Try.ntmps11
    go_wp2_with fail
    refine HN.out.mono ?_
    rintro e w1 ⟨rfl, rfl⟩
    go_wp2_with fail
    refine HC.out.mono ?_
    rintro e w2 ⟨rfl, rfl⟩
    go_wp2
    go_ret2
    exact ⟨rfl, rfl⟩
  | false =>
    have d4 : 256 ≤ S.l.length := by
      refine Classical.byContradiction fun hc => hne ?_
      unfold openC
      rw [d3, decide_eq_false d1, decide_eq_false d2]
      simp [hc]
    have e1 : openC S slots = 6 := by unfold openC; rw [d3, decide_eq_false d1, decide_eq_false d2]; simp [d4]
    rw [e1]
    rw [d3] at HC
    have q4 : decide ((256 : Int) ≤ (S.l.length : Int)) = true := by simp; omega
    clear hne e1 d1 d2 d3
    generalize slots.length = n at *
    generalize S.l.length = m at *
    go_enter Try.func11, Try.ntmps11
    go_wp2_with fail
    refine HN.out.mono ?_
    rintro e w1 ⟨rfl, rfl⟩
    go_wp2_with fail
    refine HC.out.mono ?_
    rintro e w2 ⟨rfl, rfl⟩
    go_wp2
    go_ret2
    exact ⟨rfl, rfl⟩
end Go.Proofs.Ytfejhekoijemdaa
