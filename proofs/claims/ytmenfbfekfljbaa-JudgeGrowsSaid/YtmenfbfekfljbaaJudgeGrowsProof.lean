/-
  The law JudgeGrows of the given program: whatever the arguments, the call returns true and the arguments read as they did. No condition.
-/
import Derived.Test.YtmenfbfekfljbaaGrowLaw
import Derived.SizedLaws
namespace Go.Proofs.Ytmenfbfekfljbaa.judgeGrows
open Go.ChangeShapes Go.WideShapes Go.ChangeAt Go.RowKit
set_option linter.unusedVariables false
theorem row_weight {H : Type} {enc : TypeId × Value → H} {t e : TypeId} (ht : Try.prog.underlying t = some (.slice e)) {W : World} {oa : Option Addr} {len cap : Nat} {d : DataW H} {p : List MemPlace}
    (h : DataW.Trod enc Try.prog W 0 (fun _ => true) true t (.slice oa len cap) d p) : len = 0 ∨ ∃ el sp, d = .slice el sp ∧ el.length = len := by
  obtain ⟨fuel, hf⟩ := h
  rcases Go.Deep.open_slice ht hf with ⟨h0, _⟩ | ⟨a, len', cap', m, n, D, Pl, h0, _, h1, h2, h3, h5, h4⟩
  · simp [Value.cells] at h0
    exact .inl h0.2.1
  · simp [Value.cells] at h0
    obtain ⟨rfl, rfl, rfl⟩ := h0
    simp only [Prod.mk.injEq] at h5
    exact .inr ⟨_, _, h5.1, by simp⟩
theorem bytes54 : Try.prog.bytesOf 54 = 160 := by kernel_rfl
theorem sized_row {H : Type} {enc : TypeId × Value → H} {ts : List TypeId} {ds : List (DataW H)} (hs : (DataW.weightsEach Try.prog ts ds).all (· ≤ reachBytes) = true) {j : Nat} {d : DataW H} (h1 : ts[j]? = some 22) (h2 : ds[j]? = some d)
    {W : World} {oa : Option Addr} {len cap : Nat} {p : List MemPlace} (h : DataW.Trod enc Try.prog W 0 (fun _ => true) true 22 (.slice oa len cap) d p) : len * 160 ≤ 140737488351232 := by
  rcases row_weight Try.underlying22 h with rfl | ⟨el, sp, rfl, rfl⟩
  · omega
  · have := sized_slice hs h1 h2 Try.underlying22
    rw [bytes54] at this
    unfold reachBytes at this
    have h3 : el.length * 160 ≤ (el.length + sp.length) * 160 := Nat.mul_le_mul_right _ (by omega)
    omega

theorem own : ownKnob Try.prog.godebug = none := by kernel_rfl
theorem laid : laidOutB Try.prog = true := by kernel_rfl
theorem readable : (Try.f9.params.toList.all fun t => Try.prog.readableRec t && decide (t < Try.prog.types.size)) = true := by kernel_rfl
set_option maxRecDepth 100000 in
theorem lifted (os : Os) (started : os.Started) (H : Type) (enc : TypeId × Value → H) :
    ReturnsInHanded {} Try.checked os 9 .any (Rows.judgeGrowsSpec.pre6 enc Try.prog Try.f9 Rows.judgeGrowsRow.domain false) (Rows.judgeGrowsSpec.post enc Try.prog Try.f9 false true false false) := by
  refine returnsInHanded_of_change_sized (C := Try.checked) own started (by kernel_rfl) Try.func9
    (ChangeSpec.witness6 (enc := enc) (C := Try.checked) false ⟨#[], #[.agg (planL PlanD.zero).toArray, .slice none 0 0, .slice none 0 0, .int .i64 0, .agg (idL ID.zero).toArray, .agg (idL ID.zero).toArray], []⟩ 8 (by kernel_rfl) (by kernel_rfl) (by kernel_rfl) (by kernel_rfl)) ?_
  intro W base args ds gs before hval0 hW hcnd hcs _
  have hval : ∀ (j : Nat) t v, Try.f9.params[j]? = some t → args[j]? = some v → Value.okWide Try.prog W .any base t v := hval0
  have hr : ∀ t ∈ Try.f9.params.toList, Try.prog.readableRec t = true ∧ t < Try.prog.types.size := fun t ht => by simpa using List.all_eq_true.1 readable t ht
  have hW' := hW
  obtain ⟨p, q, hA0, hV, rfl, hfz, hnd⟩ := hW
  have hA : DataW.TrodAll enc Try.prog W 0 (fun _ => true) true Try.f9.params.toList args.toList ds p := hA0
  rw [Try.params9] at hA hval
  obtain ⟨v0, vs0, d0, ds0, p0, q0, hargs, rfl, rfl, h0, r0⟩ := trodAll_cons hA
  obtain ⟨v1, vs1, d1, ds1, p1, q1, rfl, rfl, rfl, h1, r1⟩ := trodAll_cons r0
  obtain ⟨v2, vs2, d2, ds2, p2, q2, rfl, rfl, rfl, h2, r2⟩ := trodAll_cons r1
  obtain ⟨v3, vs3, d3, ds3, p3, q3, rfl, rfl, rfl, h3, r3⟩ := trodAll_cons r2
  obtain ⟨v4, vs4, d4, ds4, p4, q4, rfl, rfl, rfl, h4, r4⟩ := trodAll_cons r3
  obtain ⟨v5, vs5, d5, ds5, p5, q5, rfl, rfl, rfl, h5, r5⟩ := trodAll_cons r4
  obtain ⟨rfl, rfl, rfl⟩ := trodAll_nil r5
  obtain rfl : args = #[v0, v1, v2, v3, v4, v5] := by cases args; simp_all
  obtain ⟨rfl, rfl⟩ := trodVars_none hV
  obtain ⟨pl, vs, byz, rfl, hv1, hv2, hv3, hv4, hv5⟩ := open_plan (hval 0 41 v0 rfl rfl) h0
  obtain ⟨oa, len, cap, rfl⟩ := okWide_slice Try.underlying22 (hval 1 22 v1 rfl rfl)
  obtain ⟨oa2, len2, cap2, rfl⟩ := okWide_slice Try.underlying22 (hval 2 22 v2 rfl rfl)
  have hz1 := sized_row hcs (j := 1) rfl rfl h1
  have hz2 := sized_row hcs (j := 2) rfl rfl h2
  obtain ⟨xs, hs, hl, hb⟩ := open_facts h1
  obtain ⟨ys, hs2, hl2, hb2⟩ := open_facts h2
  obtain ⟨a3, rfl, rfl, rfl, w3⟩ := open_int Try.underlying3 (hval 3 3 v3 rfl rfl) h3
  obtain ⟨a, rfl⟩ := open_name (hval 4 45 v4 rfl rfl) h4
  obtain ⟨b, rfl⟩ := open_name (hval 5 45 v5 rfl rfl) h5
  refine (growsLaw_any W pl _ _ xs ys vs a3 a b hs hs2 hb hb2 hv1 hv2 hv4 (by omega)).mono fun e W' ⟨he, hb⟩ => ?_
  subst he
  exact ⟨_, rfl, law_post laid hr rfl rfl Try.underlying4 hW' rfl hb⟩

theorem over : Rows.judgeGrowsRow.holds Try.pinned (OpenSpec.ofChange Rows.judgeGrowsSpec) :=
  OpenClaim.holds_of_wide 9 Try.f9 rfl rfl rfl rfl rfl rfl rfl ⟨rfl, rfl, rfl, rfl, rfl⟩ rfl rfl rfl rfl rfl (by kernel_rfl) Try.func9 (by kernel_rfl)
    (of_decide_eq_true (by kernel_rfl)) (by unfold Func.isWrapper; first | (rw [if_pos (by decide +kernel)]; kernel_rfl) | (rw [if_neg (by decide +kernel)]; exact ⟨rfl, rfl⟩))
    (fun os started H enc _ => lifted os started H enc)

theorem proved : Rows.JudgeGrowsSaid := over
#print axioms proved
end Go.Proofs.Ytmenfbfekfljbaa.judgeGrows
