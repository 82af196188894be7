import Derived.Test.YtiknonljdibfgaaTurn
import Derived.Test.YtiknonljdibfgaaAct
namespace Go.Proofs.Ytiknonljdibfgaa
open Go.RowKit

theorem pushNone50 {ops : Array Oper} {rest : List Oper} {o : Oper} {a : Act} {w : World} {Q : Exit → Act → World → Prop} (hgd : o.guard = none) (s x : Operand) (ho : o.op = .call { callee := .builtin .append, args := #[s, x], argTypes := #[31, 31] })
    (base : Nat) (v : Value) (hs : a.eval s = v) (hown : w.ownsRow base 50 3 v 0 []) (ad : Addr) (c : Nat) (hx : a.eval x = .slice (some ad) 0 c) (hbase : base ≤ w.heap.size)
    (h : ∀ v' w', w'.ownsRow base 50 3 v' 0 [] → w.grownBy w' v.ownBlock → wpList Try.prog ops Q rest (a.put o.dst v') w') : wpList Try.prog ops Q (o :: rest) a w := by
  obtain ⟨i0, hi, hz0, hz1, hz2⟩ := info_parts info50
  refine wpList_append_own (P := Try.prog) w hgd s x 31 ho base 50 i0 _ 3 24 Try.underlying31 hi hz0 hz1 hz2 (by simp [Value.cells]) (by decide) v 0 [] hs hown ad 0 c [] hx rfl (fun j u hj => by simp at hj) (fun u hu => by simp at hu) (by unfold maxLen; omega) (by omega) hbase (fun v' w' q1 q2 _ => h v' w' (by simpa using q1) q2)
theorem ownsRow_nil0 {w : World} {base e k : Nat} {v : Value} (h : w.ownsRow base e k v 0 []) : ∃ oa cap, v = .slice oa 0 cap ∧ cap ≤ maxLen ∧ ∀ a, oa = some a → base ≤ a.block := by
  rcases h.2 with ⟨h1, _⟩ | ⟨g, cap, cur, h1, h2, _, _, h3, _⟩
  · exact ⟨none, 0, h1, Nat.zero_le _, fun a e => by cases e⟩
  · exact ⟨_, cap, h1, h3, fun a e => by cases e; exact h2⟩
/-- slices.Clone, of any -/
def CloneP (w : World) (s : List St) (e : Ending) (w' : World) : Prop := ∃ oa cap, e = .returned (.slice oa s.length cap) ∧ SlIn w' (.slice oa s.length cap) 3 stL s ∧ (∀ a, oa = some a → w.heap.size ≤ a.block) ∧ Below w.heap.size w w'
set_option maxRecDepth 100000 in
set_option maxHeartbeats 1000000 in
theorem clone_all (w : World) (v : Value) (s : List St) (h : SlIn w v 3 stL s) (hlen : s.length ≤ 1048576) : Calls Try.prog 32 #[v] w (CloneP w s) := by
  by_cases hpos : 0 < s.length
  · refine (clone_any w v s h hpos hlen).mono ?_
    rintro e w' ⟨u, rfl, hown, hb⟩
    have hs := hown.slIn stL_length
    rcases hown.1.2 with ⟨_, h0⟩ | ⟨g, cap, cur, rfl, hg, _⟩
    · omega
    · exact ⟨_, cap, rfl, hs, fun a e => by cases e; exact hg, hb⟩
  · have h0 : s = [] := List.eq_nil_of_length_eq_zero (by omega)
    subst h0
    have hq : ∀ (w : World) (a : Option Addr) (n c n' c' : Nat), (binOp .eql 31 (.slice a n c) (.slice none n' c')).run Try.prog w = .ok (.bool a.isNone) w := fun w a n c n' c' => Lib.run_eql_slice_nil w 31 50 a n c n' c' Try.underlying31
    obtain ⟨oa, cap, rfl, g1, g2, g3⟩ := h
    clear g3
    simp only [List.length_nil] at *
    cases oa with
    | none =>
      go_enter Try.func32, Try.ntmps32
      go_wp2
      go_ret
      exact ⟨none, 0, rfl, ⟨none, 0, rfl, Nat.le_refl _, Nat.zero_le _, fun h => absurd h (Nat.lt_irrefl _)⟩, fun a e => (by cases e), Below.refl _ _⟩
    | some ad =>
      have h0b : (Instr.buildSlice 31 0 #[]).run Try.prog w = .ok (.slice (some ⟨w.heap.size, 0, none⟩) 0 0) (w.alloc (.cells #[] 50)) := by kernel_rfl
      have HOW : Hid ((w.alloc (.cells #[] 50)).ownsRow w.heap.size 50 3 (.slice (some ⟨w.heap.size, 0, none⟩) 0 0) 0 []) := Lib.hid ⟨rfl, .inr ⟨w.heap.size, 0, #[], rfl, Nat.le_refl _, obj_alloc_at _ _ _ rfl, Nat.le_refl _, by unfold maxLen; omega, rfl, rfl⟩⟩
      go_enter Try.func32, Try.ntmps32
      go_wp2_with (at_builtin; refine pushNone50 rfl _ _ rfl w.heap.size (.slice (some ⟨w.heap.size, 0, none⟩) 0 0) rfl HOW.out ad cap rfl (by simp) ?_; intro v' w' q1 q2)
      go_ret
      obtain ⟨oa', cap', rfl, hc, hb⟩ := ownsRow_nil0 q1
      exact ⟨oa', cap', rfl, ⟨oa', cap', rfl, Nat.zero_le _, hc, fun h => absurd h (Nat.lt_irrefl _)⟩, hb, ((Below.refl _ w).alloc (Nat.le_refl _) _).grown q2 (by simp) (fun k e => by simp [Value.ownBlock] at e; omega)⟩
end Go.Proofs.Ytiknonljdibfgaa
