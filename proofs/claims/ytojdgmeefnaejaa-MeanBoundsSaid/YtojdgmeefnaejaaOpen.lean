import Derived.Test.YtojdgmeefnaejaaPure
import Derived.Test.YtojdgmeefnaejaaLaw
namespace Go.Proofs.Ytojdgmeefnaejaa
open Go.ChangeShapes Go.WideShapes Go.ChangeAt Go.RowKit
set_option linter.unusedVariables false

theorem cells25 : Try.prog.cellsOf 25 = 2 := by kernel_rfl
theorem cells23 : Try.prog.cellsOf 23 = 5 := by kernel_rfl
theorem fields25 : ∃ fs : Array Field, Try.prog.underlying 25 = some (.struct fs) ∧ fs.size = 2 ∧ ∀ (i : Nat) (f : Field), fs[i]? = some f → f.offset = i ∧ Try.prog.underlying f.type = some (.int .i64) ∧ Try.prog.cellsOf f.type = 1 := by
  refine ⟨_, Try.underlying25, rfl, ?_⟩
  intro i f hf
  match i, hf with
  | 0, hf => cases hf; exact ⟨rfl, Try.underlying2, by kernel_rfl⟩
  | 1, hf => cases hf; exact ⟨rfl, Try.underlying2, by kernel_rfl⟩
  | n + 2, hf => simp at hf
theorem fields23 : ∃ fs : Array Field, Try.prog.underlying 23 = some (.struct fs) ∧ fs.size = 5 ∧ ∀ (i : Nat) (f : Field), fs[i]? = some f → f.offset = i ∧ Try.prog.underlying f.type = some (.int .i64) ∧ Try.prog.cellsOf f.type = 1 := by
  refine ⟨_, Try.underlying23, rfl, ?_⟩
  intro i f hf
  match i, hf with
  | 0, hf => cases hf; exact ⟨rfl, Try.underlying2, by kernel_rfl⟩
  | 1, hf => cases hf; exact ⟨rfl, Try.underlying2, by kernel_rfl⟩
  | 2, hf => cases hf; exact ⟨rfl, Try.underlying2, by kernel_rfl⟩
  | 3, hf => cases hf; exact ⟨rfl, Try.underlying2, by kernel_rfl⟩
  | 4, hf => cases hf; exact ⟨rfl, Try.underlying2, by kernel_rfl⟩
  | n + 5, hf => simp at hf
section
variable {H : Type} {enc : TypeId × Value → H} {W : World}
theorem open_mean {r : Reach} {b0 : Nat} {v : Value} {d : DataW H} {p : List MemPlace} (hval : Value.okWide Try.prog W r b0 25 v) (h : DataW.Trod enc Try.prog W 0 (fun _ => true) true 25 v d p) : ∃ m : MeanD, v = meanV m := by
  obtain ⟨fs, hfs, hsz, hf⟩ := fields25
  obtain ⟨cs, rfl, hc⟩ := okWide_struct hfs hval
  obtain ⟨fuel, h⟩ := h
  have hh := struct_ints hfs hf h
  rw [hsz] at hh
  rw [cells25] at hc
  obtain ⟨n0, g0, _⟩ := hh 0 (by decide)
  obtain ⟨n1, g1, _⟩ := hh 1 (by decide)
  obtain ⟨l⟩ := cs
  match l, hc, g0, g1 with
  | [a, b], _, g0, g1 =>
    simp [Value.cells] at g0 g1
    subst g0 g1
    exact ⟨⟨n0, n1⟩, rfl⟩
theorem open_rule {r : Reach} {b0 : Nat} {v : Value} {d : DataW H} {p : List MemPlace} (hval : Value.okWide Try.prog W r b0 23 v) (h : DataW.Trod enc Try.prog W 0 (fun _ => true) true 23 v d p) : ∃ m : RuleD, v = ruleV m := by
  obtain ⟨fs, hfs, hsz, hf⟩ := fields23
  obtain ⟨cs, rfl, hc⟩ := okWide_struct hfs hval
  obtain ⟨fuel, h⟩ := h
  have hh := struct_ints hfs hf h
  rw [hsz] at hh
  rw [cells23] at hc
  obtain ⟨n0, g0, _⟩ := hh 0 (by decide)
  obtain ⟨n1, g1, _⟩ := hh 1 (by decide)
  obtain ⟨n2, g2, _⟩ := hh 2 (by decide)
  obtain ⟨n3, g3, _⟩ := hh 3 (by decide)
  obtain ⟨n4, g4, _⟩ := hh 4 (by decide)
  obtain ⟨l⟩ := cs
  match l, hc, g0, g1, g2, g3, g4 with
  | [a, b, c, d, e], _, g0, g1, g2, g3, g4 =>
    simp [Value.cells] at g0 g1 g2 g3 g4
    subst g0 g1 g2 g3 g4
    exact ⟨⟨n0, n1, n2, n3, n4⟩, rfl⟩
theorem open_means {oa : Option Addr} {len cap : Nat} {d : DataW H} {p : List MemPlace} (h : DataW.Trod enc Try.prog W 0 (fun _ => true) true 37 (.slice oa len cap) d p) :
    len ≤ cap ∧ cap ≤ maxLen ∧ ∃ L : Nat → MeanD, SlAt W oa len L := by
  obtain ⟨hlc, hcap, hsh⟩ := slice_shape (k := 2) Try.underlying37 cells25 (by decide) h
  refine ⟨hlc, hcap, ?_⟩
  by_cases h0 : 0 < len
  · obtain ⟨b, off, rfl, hb, C, hC⟩ := hsh h0
    have hx : ∀ i, ∃ m : MeanD, i < len → W.cell? ⟨b, off + i * 2, none⟩ = some (.int .i64 m.value) ∧ W.cell? ⟨b, off + i * 2 + 1, none⟩ = some (.int .i64 m.at_) := by
      intro i
      by_cases hi : i < len
      · obtain ⟨_, hc, fuel, y, hy⟩ := hC i hi
        obtain ⟨fs, hfs, hsz, hf⟩ := fields25
        have hh := struct_ints hfs hf hy
        rw [hsz] at hh
        obtain ⟨n0, g0, _⟩ := hh 0 (by decide)
        obtain ⟨n1, g1, _⟩ := hh 1 (by decide)
        exact ⟨⟨n0, n1⟩, fun _ => ⟨(hc 0 (by decide)).trans g0, (hc 1 (by decide)).trans g1⟩⟩
      · exact ⟨⟨0, 0⟩, fun h => absurd h hi⟩
    exact ⟨fun i => Classical.choose (hx i), fun _ => ⟨b, off, rfl, hb, fun i hi => Classical.choose_spec (hx i) hi⟩⟩
  · exact ⟨fun _ => ⟨0, 0⟩, fun h => absurd h h0⟩
end
end Go.Proofs.Ytojdgmeefnaejaa
