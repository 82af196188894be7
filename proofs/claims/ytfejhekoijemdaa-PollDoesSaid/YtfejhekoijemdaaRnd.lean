import Derived.Test.YtfejhekoijemdaaLib
import Derived.OrdersIn
import Derived.RangeFuncCalls
import Derived.Deep.RegionHeld3
namespace Go.Proofs.Ytfejhekoijemdaa
open Go.RowKit

/-! ### a region that draws, in a round of a range over a function, by the laws for regions anywhere -/
section
variable {P : Program} {ops : Array Oper} {l n : Nat}
theorem wpIn_round_op {o : Oper} {a : Act} {w : World} {K : Act → World → Prop} {Q : Exit → Act → World → Prop} (hdef : ∀ c, o.op ≠ .defer c) (h : o.wp P a w K Q) : o.wpIn (Fence.wide.inRound l) n P a w K Q := by
  refine ⟨fun _ _ => trivial, ?_⟩
  rw [Oper.semAt_eq _ _ _ hdef]
  unfold Oper.wp at h
  generalize (execOp a.eval o).run P w = r at *
  cases r with
  | ok nx w' =>
    cases nx with
    | value v => exact h
    | skip => exact h
    | defer d => exact h
    | enter f args => exact ⟨(fun hd => (by cases hd)), CallsIn.inRound l (callsIn_wide.2 h)⟩
    | row row args =>
      refine ⟨(fun hd => (by cases hd)), fun c cs _ => ?_⟩
      obtain ⟨v, w'', r, s⟩ := h c cs
      exact ⟨v, w'', r, stepsIn_wide.2 s⟩
    | _ => exact h.elim
  | halt hlt w' =>
    cases hlt <;> first | exact h | exact h.elim
theorem wpIn_round_any {md : Region.Mode} {Q : Exit → Act → World → Prop} (hno : ¬ LetsOut Q) (hdef : ∀ (i : Nat) (o : Oper), ops[i]? = some o → ∀ c, o.op ≠ .defer c) : ∀ (fuel : Nat) (listed : Array Bool) (a : Act) (w : World), wpAny P md ops Q fuel listed a w → wpAnyIn (Fence.wide.inRound l) n P md ops Q fuel listed a w
  | 0, _, _, _, h => h
  | fuel + 1, listed, a, w, h => by
    refine ⟨h.1, fun i hi => ?_⟩
    have h2 := h.2 i hi
    unfold wpOp at h2
    unfold wpOpIn
    cases ho : ops[i]? with
    | none =>
      rw [ho] at h2
      exact wpIn_round_any hno hdef fuel _ a w h2
    | some o =>
      rw [ho] at h2
      simp only at h2 ⊢
      by_cases hw : Region.wanted o (yielded ops a.tmps) = true
      · rw [if_pos hw] at h2 ⊢
        rcases h2 with h2 | h2
        · exact Oper.wpIn_mono (fun a' w' h3 => wpIn_round_any hno hdef fuel _ a' w' h3) (wpIn_round_op (hdef i o ho) h2)
        · exact absurd h2.2 hno
      · rw [if_neg hw] at h2 ⊢
        exact ⟨fun _ _ => trivial, wpIn_round_any hno hdef fuel _ _ w h2⟩
theorem noDefer_of {ops : Array Oper} (h : (ops.toList.all fun o => match o.op with | .defer _ => false | _ => true) = true) : ∀ (i : Nat) (o : Oper), ops[i]? = some o → ∀ c, o.op ≠ .defer c := by
  intro i o ho c hc
  have hm : o ∈ ops.toList := by
    rw [← Array.getElem?_toList] at ho
    exact List.mem_of_getElem? ho
  have := List.all_eq_true.1 h o hm
  rw [hc] at this
  cases this
/-- the region, what lies behind it and S -/
theorem wpIn_round_held {id : Nat} {Q : Exit → Act → World → Prop} {a : Act} {w : World} {S : World → Prop} (hm : P.follows .mixedOrders = true) (hd : (ops.toList.all fun o => match o.op with | .defer _ => false | _ => true) = true) (hS : S w.drew)
    (h : S w.drew → wpAnyH P .any ops (fun e a w => e = .normal ∧ Q .normal a w) S ops.size (Array.replicate ops.size false) a w.drew) : (Code.region id ops true).wpIn (Fence.wide.inRound l) n P Q a w := by
  refine wpIn_mono (Q := fun e a w => e = .normal ∧ Q .normal a w) (wpIn_region_any hm (wpIn_round_any ?_ (noDefer_of hd) _ _ _ _ (wpAny_of_held _ _ _ _ (h hS)))) ?_
  · rintro ⟨a', w', h1, _⟩
    cases h1
  · rintro e a' w' ⟨rfl, h2⟩
    exact h2
end
end Go.Proofs.Ytfejhekoijemdaa
