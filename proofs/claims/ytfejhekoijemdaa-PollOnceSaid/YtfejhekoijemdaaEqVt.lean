import Derived.Test.YtfejhekoijemdaaVote
import Derived.Laws.StructEq
namespace Go.Proofs.Ytfejhekoijemdaa
open Go.RowKit

theorem isAgg37' (w : World) : (isAgg 37).run Try.prog w = .ok true w := by kernel_rfl
theorem isAgg3' (w : World) : (isAgg 3).run Try.prog w = .ok false w := by kernel_rfl
theorem fields58 : (Try.prog.fieldsOf 58).toList.map (fun f => (f.name == "_", f.type, f.offset)) = [(false, 37, 0), (false, 3, 32)] := by kernel_rfl
theorem under58 : Try.prog.underlying 58 = some (.struct (Try.prog.fieldsOf 58)) := by kernel_rfl
theorem held58 : Try.prog.stoodInHeld 58 = false := by kernel_rfl
theorem run_eqVt (d : Nat) (a b : Vt) : ∀ (fs : List Field), fs.map (fun f => (f.name == "_", f.type, f.offset)) = [(false, 37, 0), (false, 3, 32)] → ∀ w : World, (Op.eqFields (d + 2) (vtL a).toArray (vtL b).toArray fs).run Try.prog w = .ok (decide (a = b)) w := by
  intro fs h w
  rcases fs with _ | ⟨f1, _ | ⟨f2, _ | ⟨f3, r⟩⟩⟩
  · simp at h
  · simp at h
  · have hh := h
    obtain ⟨n1, t1, o1⟩ : (f1.name == "_") = false ∧ f1.type = 37 ∧ f1.offset = 0 := by simp at h; simp [h]
    obtain ⟨n2, t2, o2⟩ : (f2.name == "_") = false ∧ f2.type = 3 ∧ f2.offset = 32 := by simp at h; simp [h]
    have hs : ∀ w, (sizeOf 37).run Try.prog w = .ok 32 w := fun w => by simp [Try.sizeOf37]
    have e1 : ∀ x : Vt, (vtL x).toArray.extract 0 (0 + 32) = (idL x.id).toArray := fun x => vtL_id x
    have e2 : ∀ (d : Nat) (x y : Int) (w : World), (Op.equalIn (d + 1) 3 (.int .i64 x) (.int .i64 y)).run Try.prog w = .ok (x == y) w := fun d x y w => run_equalIn_int w d 3 .i64 .i64 x y Try.underlying3
    have e3 : ∀ x : Vt, (vtL x).toArray[32]? = some (.int .i64 x.n) := fun x => by rw [List.getElem?_toArray]; exact vtL_32 x
    have m1 : f1.name ≠ "_" := by simpa using n1
    have m2 : f2.name ≠ "_" := by simpa using n2
    simp only [Op.eqFields, if_pos m1, if_pos m2, t1, t2, o1, o2, part, isAgg37', isAgg3', Result.andThen_ok, if_true, Sem.run_bind, Sem.run_pure, hs, e1, run_eql37, e2, e3]
    obtain ⟨ai, an⟩ := a
    obtain ⟨bi, bn⟩ := b
    by_cases h1 : ai = bi
    · by_cases h2 : an = bn
      · simp [h1, h2, Sem.run_bind, isAgg3', e2]
      · simp [h1, h2, Sem.run_bind, isAgg3', e2]
    · simp [h1]
  · simp at h
@[go_sem] theorem guard58 (op : BinOp) (x y : Operand) (xs ys : Array Value) (w : World) : (eqGuard op 58 x y (.agg xs) (.agg ys)).run Try.prog w = .ok () w := run_eqGuard_agg w op 58 x y xs ys (by kernel_rfl)
@[go_sem] theorem run_eql58 (d : Nat) (a b : Vt) (w : World) : (Op.equalIn (d + 3) 58 (.agg (vtL a).toArray) (.agg (vtL b).toArray)).run Try.prog w = .ok (decide (a = b)) w := by
  rw [run_equalIn_struct w (d + 2) 58 _ _ under58 held58]
  exact run_eqVt d a b _ fields58 w
@[go_sem ↓] theorem neq58 (a b : Vt) (w : World) : (binOp .neq 58 (.agg (vtL a).toArray) (.agg (vtL b).toArray)).run Try.prog w = .ok (.bool (!decide (a = b))) w := by
  rw [run_neq_struct, run_eql58 9997]
  rfl
end Go.Proofs.Ytfejhekoijemdaa
