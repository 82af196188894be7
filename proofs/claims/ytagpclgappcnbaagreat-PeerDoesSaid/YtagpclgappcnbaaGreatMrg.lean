import Derived.Test.YtagpclgappcnbaaGreatWide
import Derived.Deep.RegionLaw
namespace Go.Proofs.YtagpclgappcnbaaGreat

/-! ### the ways through a region, joined in one -/
def AtEnd (R : Act → World → Prop) : Exit → Act → World → Prop
  | .normal, a, w => R a w
  | _, _, _ => False
theorem region_merge {P : Program} {c : Code} {Q : Exit → Act → World → Prop} {a : Act} {w : World} (Good : World → Prop)
    (h : ∃ fr : Act, c.wp P (AtEnd fun a' w' => a' = fr ∧ Good w') a w ∧ ∀ w', Good w' → Q .normal fr w') : c.wp P Q a w := by
  obtain ⟨fr, h1, h2⟩ := h
  refine Code.wp_mono ?_ h1
  intro e a' w' h
  cases e <;> first | exact h.elim | (obtain ⟨rfl, hg⟩ := h; exact h2 w' hg)
theorem region_merge2 {P : Program} {c : Code} {Q : Exit → Act → World → Prop} {a : Act} {w : World} {α β : Type} (Good : α → β → World → Prop)
    (h : ∃ fr : α → β → Act, c.wp P (AtEnd fun a' w' => ∃ x y, a' = fr x y ∧ Good x y w') a w ∧ ∀ x y w', Good x y w' → Q .normal (fr x y) w') : c.wp P Q a w := by
  obtain ⟨fr, h1, h2⟩ := h
  refine Code.wp_mono ?_ h1
  intro e a' w' h
  cases e <;> first | exact h.elim | (obtain ⟨x, y, rfl, hg⟩ := h; exact h2 x y w' hg)
theorem region_merge3 {P : Program} {c : Code} {Q : Exit → Act → World → Prop} {a : Act} {w : World} {α β γ : Type} (Good : α → β → γ → World → Prop)
    (h : ∃ fr : α → β → γ → Act, c.wp P (AtEnd fun a' w' => ∃ x y z, a' = fr x y z ∧ Good x y z w') a w ∧ ∀ x y z w', Good x y z w' → Q .normal (fr x y z) w') : c.wp P Q a w := by
  obtain ⟨fr, h1, h2⟩ := h
  refine Code.wp_mono ?_ h1
  intro e a' w' h
  cases e <;> first | exact h.elim | (obtain ⟨x, y, z, rfl, hg⟩ := h; exact h2 x y z w' hg)
theorem region_merge1 {P : Program} {c : Code} {Q : Exit → Act → World → Prop} {a : Act} {w : World} {α : Type} (Good : α → World → Prop)
    (h : ∃ fr : α → Act, c.wp P (AtEnd fun a' w' => ∃ x, a' = fr x ∧ Good x w') a w ∧ ∀ x w', Good x w' → Q .normal (fr x) w') : c.wp P Q a w := by
  obtain ⟨fr, h1, h2⟩ := h
  refine Code.wp_mono ?_ h1
  intro e a' w' h
  cases e <;> first | exact h.elim | (obtain ⟨x, rfl, hg⟩ := h; exact h2 x w' hg)
end Go.Proofs.YtagpclgappcnbaaGreat
