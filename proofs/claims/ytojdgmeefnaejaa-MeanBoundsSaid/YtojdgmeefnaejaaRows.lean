/-
  No cell of these rows narrows 'for every input' (looked for: loops, veiled, ifaces, maps, wideKeys, modest, calm, conditions, laid).
  DERIVED. THE GIVEN ROWS OF THIS SEAT. 6 by the template 'for every input the law returns true; each argument reads behind the call as it read before'; 0 by the template 'total and deterministic' (their statements: YtojdgmeefnaejaaTotals.lean).
  GIVEN WITH THE SEED: the statements are not yours to turn. If you find one false, say at which input.
  Laid BY PROGRAM, IN A SANDBOX (cutbox-rows.mjs): the forced cells as the released guide's own fill.sh prints them over the translation 90f712923a0c3d0c… (all of the seat's roots in one cut). By AI agents, Wed Nov 11 2026. No macro, syntax, notation, axiom, sorry.
-/
import Derived.Test.YtojdgmeefnaejaaChecked
import GoSem.Claim
import GoSem.ClaimJoined
import GoSem.ClaimMapViews
import Derived.JoinedTies
import Derived.KernelRfl
namespace Go.Proofs.Ytojdgmeefnaejaa
/- THE CELL 'sum', in the pinned program and in every row, IS THE sha256 OF THE DUMP (.gsa) THAT YtojdgmeefnaejaaProg.lean LOADS. Nothing in Lean hashes anything: it is a label: what it is worth is what the hold of that sum in a sandbox is worth. -/
noncomputable def Try.pinned : Pinned := { name := "ytojdgmeefnaejaa", sum := "90f712923a0c3d0c2c185bf277fda760a97bca162a65f19659f71d6c2e4d52ef", checked := Try.checked }
namespace Rows
def none {H : Type} : Left H := { results := [], args := [] }

/-- 'flurrylaw13.MeanIs': WHATEVER THE INPUT: true; the input reads as it did. -/
def meanIsSpec : ChangeSpec := { name := "meanIs", fn := fun _ => fun
  | [d1, d2, d3] => { results := [.lit (.bool true)], args := [d1, d2, d3] }
  | _ => none }
def meanIsRow : OpenClaim := { program := "ytojdgmeefnaejaa", sum := "90f712923a0c3d0c2c185bf277fda760a97bca162a65f19659f71d6c2e4d52ef", func := "flurry/flurrylaw13.MeanIs", spec := "meanIs", named := ["math/bits.divideError", "math/bits.overflowError"], apart := false }
def MeanIsSaid : Prop := meanIsRow.holds Try.pinned (OpenSpec.ofChange meanIsSpec)

/-- ITS FALSE NEIGHBOUR: 'it returns false'. Refute it at one input. -/
def meanIsWrong : ChangeSpec := { name := "meanIs", fn := fun _ => fun
  | [d1, d2, d3] => { results := [.lit (.bool false)], args := [d1, d2, d3] }
  | _ => none }
def MeanIsWrongFalsely : Prop := meanIsRow.holds Try.pinned (OpenSpec.ofChange meanIsWrong)

/-- 'flurrylaw13.MeanGoes': WHATEVER THE INPUT: true; the input reads as it did. -/
def meanGoesSpec : ChangeSpec := { name := "meanGoes", fn := fun _ => fun
  | [d1, d2, d3] => { results := [.lit (.bool true)], args := [d1, d2, d3] }
  | _ => none }
def meanGoesRow : OpenClaim := { program := "ytojdgmeefnaejaa", sum := "90f712923a0c3d0c2c185bf277fda760a97bca162a65f19659f71d6c2e4d52ef", func := "flurry/flurrylaw13.MeanGoes", spec := "meanGoes", named := ["math/bits.divideError", "math/bits.overflowError"], apart := false }
def MeanGoesSaid : Prop := meanGoesRow.holds Try.pinned (OpenSpec.ofChange meanGoesSpec)

/-- ITS FALSE NEIGHBOUR: 'it returns false'. Refute it at one input. -/
def meanGoesWrong : ChangeSpec := { name := "meanGoes", fn := fun _ => fun
  | [d1, d2, d3] => { results := [.lit (.bool false)], args := [d1, d2, d3] }
  | _ => none }
def MeanGoesWrongFalsely : Prop := meanGoesRow.holds Try.pinned (OpenSpec.ofChange meanGoesWrong)

/-- 'flurrylaw13.MeanBetween': WHATEVER THE INPUT: true; the input reads as it did. -/
def meanBetweenSpec : ChangeSpec := { name := "meanBetween", fn := fun _ => fun
  | [d1, d2, d3] => { results := [.lit (.bool true)], args := [d1, d2, d3] }
  | _ => none }
def meanBetweenRow : OpenClaim := { program := "ytojdgmeefnaejaa", sum := "90f712923a0c3d0c2c185bf277fda760a97bca162a65f19659f71d6c2e4d52ef", func := "flurry/flurrylaw13.MeanBetween", spec := "meanBetween", named := ["math/bits.divideError", "math/bits.overflowError"], apart := false }
def MeanBetweenSaid : Prop := meanBetweenRow.holds Try.pinned (OpenSpec.ofChange meanBetweenSpec)

/-- ITS FALSE NEIGHBOUR: 'it returns false'. Refute it at one input. -/
def meanBetweenWrong : ChangeSpec := { name := "meanBetween", fn := fun _ => fun
  | [d1, d2, d3] => { results := [.lit (.bool false)], args := [d1, d2, d3] }
  | _ => none }
def MeanBetweenWrongFalsely : Prop := meanBetweenRow.holds Try.pinned (OpenSpec.ofChange meanBetweenWrong)

/-- 'flurrylaw13.MeanFurther': WHATEVER THE INPUT: true; the input reads as it did. -/
def meanFurtherSpec : ChangeSpec := { name := "meanFurther", fn := fun _ => fun
  | [d1, d2, d3, d4, d5] => { results := [.lit (.bool true)], args := [d1, d2, d3, d4, d5] }
  | _ => none }
def meanFurtherRow : OpenClaim := { program := "ytojdgmeefnaejaa", sum := "90f712923a0c3d0c2c185bf277fda760a97bca162a65f19659f71d6c2e4d52ef", func := "flurry/flurrylaw13.MeanFurther", spec := "meanFurther", named := ["math/bits.divideError", "math/bits.overflowError"], apart := false }
def MeanFurtherSaid : Prop := meanFurtherRow.holds Try.pinned (OpenSpec.ofChange meanFurtherSpec)

/-- ITS FALSE NEIGHBOUR: 'it returns false'. Refute it at one input. -/
def meanFurtherWrong : ChangeSpec := { name := "meanFurther", fn := fun _ => fun
  | [d1, d2, d3, d4, d5] => { results := [.lit (.bool false)], args := [d1, d2, d3, d4, d5] }
  | _ => none }
def MeanFurtherWrongFalsely : Prop := meanFurtherRow.holds Try.pinned (OpenSpec.ofChange meanFurtherWrong)

/-- 'flurrylaw13.MeanAll': WHATEVER THE INPUT: true; the input reads as it did. -/
def meanAllSpec : ChangeSpec := { name := "meanAll", fn := fun _ => fun
  | [d1, d2, d3] => { results := [.lit (.bool true)], args := [d1, d2, d3] }
  | _ => none }
def meanAllRow : OpenClaim := { program := "ytojdgmeefnaejaa", sum := "90f712923a0c3d0c2c185bf277fda760a97bca162a65f19659f71d6c2e4d52ef", func := "flurry/flurrylaw13.MeanAll", spec := "meanAll", named := ["math/bits.divideError", "math/bits.overflowError"], apart := false }
def MeanAllSaid : Prop := meanAllRow.holds Try.pinned (OpenSpec.ofChange meanAllSpec)

/-- ITS FALSE NEIGHBOUR: 'it returns false'. Refute it at one input. -/
def meanAllWrong : ChangeSpec := { name := "meanAll", fn := fun _ => fun
  | [d1, d2, d3] => { results := [.lit (.bool false)], args := [d1, d2, d3] }
  | _ => none }
def MeanAllWrongFalsely : Prop := meanAllRow.holds Try.pinned (OpenSpec.ofChange meanAllWrong)

/-- 'flurrylaw13.MeanBounds': WHATEVER THE INPUT: true; the input reads as it did. -/
def meanBoundsSpec : ChangeSpec := { name := "meanBounds", fn := fun _ => fun
  | [d1, d2, d3] => { results := [.lit (.bool true)], args := [d1, d2, d3] }
  | _ => none }
def meanBoundsRow : OpenClaim := { program := "ytojdgmeefnaejaa", sum := "90f712923a0c3d0c2c185bf277fda760a97bca162a65f19659f71d6c2e4d52ef", func := "flurry/flurrylaw13.MeanBounds", spec := "meanBounds", named := ["math/bits.divideError", "math/bits.overflowError"], apart := false }
def MeanBoundsSaid : Prop := meanBoundsRow.holds Try.pinned (OpenSpec.ofChange meanBoundsSpec)

/-- ITS FALSE NEIGHBOUR: 'it returns false'. Refute it at one input. -/
def meanBoundsWrong : ChangeSpec := { name := "meanBounds", fn := fun _ => fun
  | [d1, d2, d3] => { results := [.lit (.bool false)], args := [d1, d2, d3] }
  | _ => none }
def MeanBoundsWrongFalsely : Prop := meanBoundsRow.holds Try.pinned (OpenSpec.ofChange meanBoundsWrong)

/- THE SECOND FORM. 'bulk': how many values and letters a reading holds, each counted each time it is reached (what is shared counts as often as it is met; a slice's spare places count too). A statement '..UptoSaid' is the law's where the arguments, and the package variables that the reading takes, are together of bulk at most 1048576: NARROWER than '..Said'. Prove '..Said' where nothing that the law and all that it calls make is longer than what came in: it says more and counts as full. Else prove '..UptoSaid'. A law counts once. -/
mutual
def uptoBulk {H : Type} : DataW H → Nat
  | .lit (.string bytes) => bytes.length + 1
  | .lit _ => 1
  | .nil => 1
  | .ptr d => uptoBulk d + 1
  | .slice elems spare => uptoBulkAll elems + uptoBulkAll spare + 1
  | .agg parts => uptoBulkAll parts + 1
  | .iface _ d => uptoBulk d + 1
  | .map entries => uptoBulkEntries entries + 1
  | .held _ => 1
def uptoBulkAll {H : Type} : List (DataW H) → Nat
  | [] => 0
  | d :: r => uptoBulk d + uptoBulkAll r
def uptoBulkEntries {H : Type} : List (Lit × DataW H) → Nat
  | [] => 0
  | x :: r => uptoBulkEntry x + uptoBulkEntries r
def uptoBulkEntry {H : Type} : Lit × DataW H → Nat
  | (.string bytes, d) => bytes.length + uptoBulk d + 1
  | (_, d) => uptoBulk d + 1
 end
def uptoSmall : (H : Type) → List (DataW H) → Bool := fun _ ds => decide (uptoBulkAll ds ≤ 1048576)
def OpenSpec.upto (s : _root_.Go.ChangeSpec) : _root_.Go.OpenSpec := { _root_.Go.OpenSpec.ofChange s with cond := some uptoSmall }

/-- 'flurrylaw13.MeanIs', WHERE WHAT IT READS IS OF BULK AT MOST 1048576: true; the input reads as it did. -/
def meanIsUptoRow : OpenClaim := { program := "ytojdgmeefnaejaa", sum := "90f712923a0c3d0c2c185bf277fda760a97bca162a65f19659f71d6c2e4d52ef", func := "flurry/flurrylaw13.MeanIs", spec := "meanIs", named := ["math/bits.divideError", "math/bits.overflowError"], apart := false, narrowed := true }
def MeanIsUptoSaid : Prop := meanIsUptoRow.holds Try.pinned (OpenSpec.upto meanIsSpec)

/-- 'flurrylaw13.MeanGoes', WHERE WHAT IT READS IS OF BULK AT MOST 1048576: true; the input reads as it did. -/
def meanGoesUptoRow : OpenClaim := { program := "ytojdgmeefnaejaa", sum := "90f712923a0c3d0c2c185bf277fda760a97bca162a65f19659f71d6c2e4d52ef", func := "flurry/flurrylaw13.MeanGoes", spec := "meanGoes", named := ["math/bits.divideError", "math/bits.overflowError"], apart := false, narrowed := true }
def MeanGoesUptoSaid : Prop := meanGoesUptoRow.holds Try.pinned (OpenSpec.upto meanGoesSpec)

/-- 'flurrylaw13.MeanBetween', WHERE WHAT IT READS IS OF BULK AT MOST 1048576: true; the input reads as it did. -/
def meanBetweenUptoRow : OpenClaim := { program := "ytojdgmeefnaejaa", sum := "90f712923a0c3d0c2c185bf277fda760a97bca162a65f19659f71d6c2e4d52ef", func := "flurry/flurrylaw13.MeanBetween", spec := "meanBetween", named := ["math/bits.divideError", "math/bits.overflowError"], apart := false, narrowed := true }
def MeanBetweenUptoSaid : Prop := meanBetweenUptoRow.holds Try.pinned (OpenSpec.upto meanBetweenSpec)

/-- 'flurrylaw13.MeanFurther', WHERE WHAT IT READS IS OF BULK AT MOST 1048576: true; the input reads as it did. -/
def meanFurtherUptoRow : OpenClaim := { program := "ytojdgmeefnaejaa", sum := "90f712923a0c3d0c2c185bf277fda760a97bca162a65f19659f71d6c2e4d52ef", func := "flurry/flurrylaw13.MeanFurther", spec := "meanFurther", named := ["math/bits.divideError", "math/bits.overflowError"], apart := false, narrowed := true }
def MeanFurtherUptoSaid : Prop := meanFurtherUptoRow.holds Try.pinned (OpenSpec.upto meanFurtherSpec)

/-- 'flurrylaw13.MeanAll', WHERE WHAT IT READS IS OF BULK AT MOST 1048576: true; the input reads as it did. -/
def meanAllUptoRow : OpenClaim := { program := "ytojdgmeefnaejaa", sum := "90f712923a0c3d0c2c185bf277fda760a97bca162a65f19659f71d6c2e4d52ef", func := "flurry/flurrylaw13.MeanAll", spec := "meanAll", named := ["math/bits.divideError", "math/bits.overflowError"], apart := false, narrowed := true }
def MeanAllUptoSaid : Prop := meanAllUptoRow.holds Try.pinned (OpenSpec.upto meanAllSpec)

/-- 'flurrylaw13.MeanBounds', WHERE WHAT IT READS IS OF BULK AT MOST 1048576: true; the input reads as it did. -/
def meanBoundsUptoRow : OpenClaim := { program := "ytojdgmeefnaejaa", sum := "90f712923a0c3d0c2c185bf277fda760a97bca162a65f19659f71d6c2e4d52ef", func := "flurry/flurrylaw13.MeanBounds", spec := "meanBounds", named := ["math/bits.divideError", "math/bits.overflowError"], apart := false, narrowed := true }
def MeanBoundsUptoSaid : Prop := meanBoundsUptoRow.holds Try.pinned (OpenSpec.upto meanBoundsSpec)

end Rows
end Go.Proofs.Ytojdgmeefnaejaa
