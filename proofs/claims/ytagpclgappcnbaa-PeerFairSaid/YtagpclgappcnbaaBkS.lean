import Derived.Test.YtagpclgappcnbaaBkP
namespace Go.Proofs.Ytagpclgappcnbaa
open Go.RowKit

def thr : List Be.Vd := [⟨⟨#[97]⟩, 1⟩, ⟨⟨#[98]⟩, 1⟩, ⟨⟨#[99]⟩, 1⟩]
def som : CfgD := ⟨9, ⟨8, 1, 100, 3, 8⟩, ⟨2, 0, 10, 1, 2⟩⟩
set_option maxRecDepth 100000 in
theorem three_any (w : World) : Calls Try.prog 26 #[] w fun e w' => ∃ v, e = .returned v ∧ SlIn w' v 2 Be.vdL thr ∧ Below w.heap.size w w' := by
  have hb : (Instr.buildSlice 28 3 #[(0, .agg #[.string ⟨#[97]⟩, .int .i64 1]), (1, .agg #[.string ⟨#[98]⟩, .int .i64 1]), (2, .agg #[.string ⟨#[99]⟩, .int .i64 1])]).run Try.prog w = .ok (.slice (some ⟨w.heap.size, 0, none⟩) 3 3) (w.alloc (.cells #[.string ⟨#[97]⟩, .int .i64 1, .string ⟨#[98]⟩, .int .i64 1, .string ⟨#[99]⟩, .int .i64 1] 54)) := by kernel_rfl
  go_enter Try.func26, Try.ntmps26
  go_wp2
  go_ret
  refine ⟨_, rfl, ?_, (Below.refl _ _).alloc (Nat.le_refl _) _⟩
  exact SlIn.of_cells (E := 54) (fr := (0, 0)) Be.vdL_length thr (by exact obj_alloc_at _ _ _ rfl) (by simp [thr, maxLen])
set_option maxRecDepth 100000 in
theorem some_any (w : World) : Calls Try.prog 25 #[] w fun e w' => e = .returned (.agg (cfgC som)) ∧ Below w.heap.size w w' := by
  have h1 : ∀ w, (Instr.build 23 #[(0, .int .i64 8), (1, .int .i64 1), (2, .int .i64 100), (3, .int .i64 3), (4, .int .i64 8)]).run Try.prog w = .ok (.agg #[.int .i64 8, .int .i64 1, .int .i64 100, .int .i64 3, .int .i64 8]) w := fun _ => by kernel_rfl
  have h2 : ∀ w, (Instr.build 25 #[(0, .int .i64 2), (2, .int .i64 10), (3, .int .i64 1), (4, .int .i64 2)]).run Try.prog w = .ok (.agg #[.int .i64 2, .int .i64 0, .int .i64 10, .int .i64 1, .int .i64 2]) w := fun _ => by kernel_rfl
  have h3 : ∀ w, (Instr.build 27 #[(0, .int .i64 9), (1, .agg #[.int .i64 8, .int .i64 1, .int .i64 100, .int .i64 3, .int .i64 8]), (2, .agg #[.int .i64 2, .int .i64 0, .int .i64 10, .int .i64 1, .int .i64 2])]).run Try.prog w = .ok (.agg (cfgC som)) w := fun _ => by kernel_rfl
  go_enter Try.func25, Try.ntmps25
  go_wp2_with fail
  refine bodyPost_ret (v := .agg (cfgC som)) (by simp [results, Try.results25, go_sem, som, cfgC]) rfl ⟨rfl, (Below.refl _ _).alloc (Nat.le_refl _) _⟩
end Go.Proofs.Ytagpclgappcnbaa
