/-
  The law AsksOnce of the given program: whatever the arguments, the call returns true and the arguments read as they did. No condition.
-/
import Derived.Test.YtnaknoebjbmboaaOnce
import Derived.Test.YtnaknoebjbmboaaLaw
namespace Go.Proofs.Ytnaknoebjbmboaa.asksOnce
open Go.ChangeShapes Go.WideShapes Go.ChangeAt Go.RowKit
set_option linter.unusedVariables false
theorem cells45 : Try.prog.cellsOf 45 = 4 := by kernel_rfl
theorem fields45 : ∃ fs : Array Field, Try.prog.underlying 45 = some (.struct fs) ∧ fs.size = 4 ∧ ∀ (i : Nat) (f : Field), fs[i]? = some f → f.offset = i ∧ Try.prog.underlying f.type = some (.int .i64) ∧ Try.prog.cellsOf f.type = 1 := by
  refine ⟨_, Try.underlying45, rfl, ?_⟩
  intro i f hf
  match i, hf with
  | 0, hf => cases hf; exact ⟨rfl, Try.underlying3, by kernel_rfl⟩
  | 1, hf => cases hf; exact ⟨rfl, Try.underlying3, by kernel_rfl⟩
  | 2, hf => cases hf; exact ⟨rfl, Try.underlying3, by kernel_rfl⟩
  | 3, hf => cases hf; exact ⟨rfl, Try.underlying2, by kernel_rfl⟩
  | n + 4, hf => simp at hf

theorem own : ownKnob Try.prog.godebug = none := by kernel_rfl
theorem laid : laidOutB Try.prog = true := by kernel_rfl
theorem readable : (Try.f5.params.toList.all fun t => Try.prog.readableRec t && decide (t < Try.prog.types.size)) = true := by kernel_rfl
set_option maxRecDepth 100000 in
theorem lifted (os : Os) (started : os.Started) (H : Type) (enc : TypeId × Value → H) :
    ReturnsInHanded {} Try.checked os 5 .any (Rows.asksOnceSpec.pre6 enc Try.prog Try.f5 Rows.asksOnceRow.domain false) (Rows.asksOnceSpec.post enc Try.prog Try.f5 false true false false) := by
  refine returnsInHanded_of_change (C := Try.checked) own started (by kernel_rfl) Try.func5
    (ChangeSpec.witness6 (enc := enc) (C := Try.checked) false ⟨#[], #[.int .u8 0, .slice none 0 0], []⟩ 8 (by kernel_rfl) (by kernel_rfl) (by kernel_rfl) (by kernel_rfl)) ?_
  intro W base args ds gs before hval0 hW hcnd _
  have hval : ∀ (j : Nat) t v, Try.f5.params[j]? = some t → args[j]? = some v → Value.okWide Try.prog W .any base t v := hval0
  have hr : ∀ t ∈ Try.f5.params.toList, Try.prog.readableRec t = true ∧ t < Try.prog.types.size := fun t ht => by simpa using List.all_eq_true.1 readable t ht
  have hW' := hW
  obtain ⟨p, q, hA0, hV, rfl, hfz, hnd⟩ := hW
  have hA : DataW.TrodAll enc Try.prog W 0 (fun _ => true) true Try.f5.params.toList args.toList ds p := hA0
  rw [Try.params5] at hA hval
  obtain ⟨v0, vs0, d0, ds0, p0, q0, hargs, rfl, rfl, h0, r0⟩ := trodAll_cons hA
  obtain ⟨v1, vs1, d1, ds1, p1, q1, rfl, rfl, rfl, h1, r1⟩ := trodAll_cons r0
  obtain ⟨rfl, rfl, rfl⟩ := trodAll_nil r1
  obtain rfl : args = #[v0, v1] := by cases args; simp_all
  obtain ⟨rfl, rfl⟩ := trodVars_none hV
  obtain ⟨a0, rfl, rfl, rfl, w0⟩ := open_int Try.underlying5 (hval 0 5 v0 rfl rfl) h0
  obtain ⟨oa, len, cap, rfl⟩ := okWide_slice Try.underlying42 (hval 1 42 v1 rfl rfl)
  obtain ⟨hlc, hcap, hsh⟩ := slice_shape (k := 4) Try.underlying42 cells45 (by decide) h1
  have bd0 := bounds_u8 w0
  refine (once_any a0 bd0.1 bd0.2 oa len cap hlc hcap W (fun hl => by
    obtain ⟨b, off, rfl, hb, C, hC⟩ := hsh hl
    refine ⟨b, off, rfl, hb, fun i hi => ?_⟩
    obtain ⟨_, hc, fuel, y, hy⟩ := hC i hi
    obtain ⟨fs, hfs, hsz, hf⟩ := fields45
    have hh := struct_ints hfs hf hy
    rw [hsz] at hh
    obtain ⟨n0, g0, _⟩ := hh 0 (by decide)
    obtain ⟨n1, g1, _⟩ := hh 1 (by decide)
    obtain ⟨n2, g2, _⟩ := hh 2 (by decide)
    obtain ⟨n3, g3, _⟩ := hh 3 (by decide)
    exact ⟨n0, n1, n2, n3, (hc 0 (by decide)).trans g0, (hc 1 (by decide)).trans g1, (hc 2 (by decide)).trans g2, (hc 3 (by decide)).trans g3⟩)).mono fun e W' ⟨he, hb⟩ => ?_
  subst he
  exact ⟨_, rfl, law_post laid hr rfl rfl Try.underlying4 hW' rfl hb⟩

theorem over : Rows.asksOnceRow.holds Try.pinned (OpenSpec.ofChange Rows.asksOnceSpec) :=
  OpenClaim.holds_of_wide 5 Try.f5 rfl rfl rfl rfl rfl rfl rfl ⟨rfl, rfl, rfl, rfl, rfl⟩ rfl rfl rfl rfl rfl (by kernel_rfl) Try.func5 (by kernel_rfl)
    (of_decide_eq_true (by kernel_rfl)) (by unfold Func.isWrapper; first | (rw [if_pos (by decide +kernel)]; kernel_rfl) | (rw [if_neg (by decide +kernel)]; exact ⟨rfl, rfl⟩))
    (fun os started H enc _ => lifted os started H enc)

theorem proved : Rows.AsksOnceSaid := over
#print axioms proved
end Go.Proofs.Ytnaknoebjbmboaa.asksOnce
