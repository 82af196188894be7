/-
  No cell of these rows narrows 'for every input' (looked for: loops, veiled, ifaces, maps, wideKeys, modest, calm, conditions, laid).
  DERIVED. THE GIVEN ROWS OF THIS SEAT. 5 by the template 'for every input the law returns true; each argument reads behind the call as it read before'; 0 by the template 'total and deterministic' (their statements: YtiknonljdibfgaaTotals.lean).
  GIVEN WITH THE SEED: the statements are not yours to turn. If you find one false, say at which input.
  Laid BY PROGRAM, IN A SANDBOX (cutbox-rows.mjs): the forced cells as the released guide's own fill.sh prints them over the translation 7223a66eeed4d973… (all of the seat's roots in one cut). By AI agents, Wed Nov 11 2026. No macro, syntax, notation, axiom, sorry.
-/
import Derived.Test.YtiknonljdibfgaaChecked
import GoSem.Claim
import GoSem.ClaimJoined
import GoSem.ClaimMapViews
import Derived.JoinedTies
import Derived.KernelRfl
namespace Go.Proofs.Ytiknonljdibfgaa
/- THE CELL 'sum', in the pinned program and in every row, IS THE sha256 OF THE DUMP (.gsa) THAT YtiknonljdibfgaaProg.lean LOADS. Nothing in Lean hashes anything: it is a label: what it is worth is what the hold of that sum in a sandbox is worth. -/
noncomputable def Try.pinned : Pinned := { name := "ytiknonljdibfgaa", sum := "7223a66eeed4d9735b2c21ba392fdafd729c5e789d06179b129a1d27518ab24f", checked := Try.checked }
namespace Rows
def none {H : Type} : Left H := { results := [], args := [] }

/-- 'flurrylaw15.BenchShare': WHATEVER THE INPUT: true; the input reads as it did. -/
def benchShareSpec : ChangeSpec := { name := "benchShare", fn := fun _ => fun
  | [d1, d2, d3] => { results := [.lit (.bool true)], args := [d1, d2, d3] }
  | _ => none }
def benchShareRow : OpenClaim := { program := "ytiknonljdibfgaa", sum := "7223a66eeed4d9735b2c21ba392fdafd729c5e789d06179b129a1d27518ab24f", func := "flurry/flurrylaw15.BenchShare", spec := "benchShare", unfollowed := true, recurses := true, apart := false }
def BenchShareSaid : Prop := benchShareRow.holds Try.pinned (OpenSpec.ofChange benchShareSpec)

/-- ITS FALSE NEIGHBOUR: 'it returns false'. Refute it at one input. -/
def benchShareWrong : ChangeSpec := { name := "benchShare", fn := fun _ => fun
  | [d1, d2, d3] => { results := [.lit (.bool false)], args := [d1, d2, d3] }
  | _ => none }
def BenchShareWrongFalsely : Prop := benchShareRow.holds Try.pinned (OpenSpec.ofChange benchShareWrong)

/-- 'flurrylaw15.BenchRows': WHATEVER THE INPUT: true; the input reads as it did. -/
def benchRowsSpec : ChangeSpec := { name := "benchRows", fn := fun _ => fun
  | [d1, d2, d3] => { results := [.lit (.bool true)], args := [d1, d2, d3] }
  | _ => none }
def benchRowsRow : OpenClaim := { program := "ytiknonljdibfgaa", sum := "7223a66eeed4d9735b2c21ba392fdafd729c5e789d06179b129a1d27518ab24f", func := "flurry/flurrylaw15.BenchRows", spec := "benchRows", unfollowed := true, recurses := true, apart := false }
def BenchRowsSaid : Prop := benchRowsRow.holds Try.pinned (OpenSpec.ofChange benchRowsSpec)

/-- ITS FALSE NEIGHBOUR: 'it returns false'. Refute it at one input. -/
def benchRowsWrong : ChangeSpec := { name := "benchRows", fn := fun _ => fun
  | [d1, d2, d3] => { results := [.lit (.bool false)], args := [d1, d2, d3] }
  | _ => none }
def BenchRowsWrongFalsely : Prop := benchRowsRow.holds Try.pinned (OpenSpec.ofChange benchRowsWrong)

/-- 'flurrylaw15.BenchIs': WHATEVER THE INPUT: true; the input reads as it did. -/
def benchIsSpec : ChangeSpec := { name := "benchIs", fn := fun _ => fun
  | [d1, d2, d3, d4, d5] => { results := [.lit (.bool true)], args := [d1, d2, d3, d4, d5] }
  | _ => none }
def benchIsRow : OpenClaim := { program := "ytiknonljdibfgaa", sum := "7223a66eeed4d9735b2c21ba392fdafd729c5e789d06179b129a1d27518ab24f", func := "flurry/flurrylaw15.BenchIs", spec := "benchIs", unfollowed := true, recurses := true, apart := false }
def BenchIsSaid : Prop := benchIsRow.holds Try.pinned (OpenSpec.ofChange benchIsSpec)

/-- ITS FALSE NEIGHBOUR: 'it returns false'. Refute it at one input. -/
def benchIsWrong : ChangeSpec := { name := "benchIs", fn := fun _ => fun
  | [d1, d2, d3, d4, d5] => { results := [.lit (.bool false)], args := [d1, d2, d3, d4, d5] }
  | _ => none }
def BenchIsWrongFalsely : Prop := benchIsRow.holds Try.pinned (OpenSpec.ofChange benchIsWrong)

/-- 'flurrylaw15.BenchGoes': WHATEVER THE INPUT: true; the input reads as it did. -/
def benchGoesSpec : ChangeSpec := { name := "benchGoes", fn := fun _ => fun
  | [d1, d2, d3, d4, d5] => { results := [.lit (.bool true)], args := [d1, d2, d3, d4, d5] }
  | _ => none }
def benchGoesRow : OpenClaim := { program := "ytiknonljdibfgaa", sum := "7223a66eeed4d9735b2c21ba392fdafd729c5e789d06179b129a1d27518ab24f", func := "flurry/flurrylaw15.BenchGoes", spec := "benchGoes", unfollowed := true, recurses := true, apart := false }
def BenchGoesSaid : Prop := benchGoesRow.holds Try.pinned (OpenSpec.ofChange benchGoesSpec)

/-- ITS FALSE NEIGHBOUR: 'it returns false'. Refute it at one input. -/
def benchGoesWrong : ChangeSpec := { name := "benchGoes", fn := fun _ => fun
  | [d1, d2, d3, d4, d5] => { results := [.lit (.bool false)], args := [d1, d2, d3, d4, d5] }
  | _ => none }
def BenchGoesWrongFalsely : Prop := benchGoesRow.holds Try.pinned (OpenSpec.ofChange benchGoesWrong)

/-- 'flurrylaw15.BenchWhile': WHATEVER THE INPUT: true; the input reads as it did. -/
def benchWhileSpec : ChangeSpec := { name := "benchWhile", fn := fun _ => fun
  | [d1, d2, d3, d4] => { results := [.lit (.bool true)], args := [d1, d2, d3, d4] }
  | _ => none }
def benchWhileRow : OpenClaim := { program := "ytiknonljdibfgaa", sum := "7223a66eeed4d9735b2c21ba392fdafd729c5e789d06179b129a1d27518ab24f", func := "flurry/flurrylaw15.BenchWhile", spec := "benchWhile", unfollowed := true, recurses := true, apart := false }
def BenchWhileSaid : Prop := benchWhileRow.holds Try.pinned (OpenSpec.ofChange benchWhileSpec)

/-- ITS FALSE NEIGHBOUR: 'it returns false'. Refute it at one input. -/
def benchWhileWrong : ChangeSpec := { name := "benchWhile", fn := fun _ => fun
  | [d1, d2, d3, d4] => { results := [.lit (.bool false)], args := [d1, d2, d3, d4] }
  | _ => none }
def BenchWhileWrongFalsely : Prop := benchWhileRow.holds Try.pinned (OpenSpec.ofChange benchWhileWrong)

/- THE SECOND FORM. 'bulk': how many values and letters a reading holds, each counted each time it is reached (what is shared counts as often as it is met; a slice's spare places count too). A statement '..UptoSaid' is the law's where the arguments, and the package variables that the reading takes, are together of bulk at most 1048576: NARROWER than '..Said'. Prove '..Said' where nothing that the law and all that it calls make is longer than what came in: it says more and counts as full. Else prove '..UptoSaid'. A law counts once. -/
mutual
def uptoBulk {H : Type} : DataW H → Nat
  | .lit (.string bytes) => bytes.length + 1
  | .lit _ => 1
  | .nil => 1
  | .ptr d => uptoBulk d + 1
  | .slice elems spare => uptoBulkAll elems + uptoBulkAll spare + 1
  | .agg parts => uptoBulkAll parts + 1
  | .iface _ d => uptoBulk d + 1
  | .map entries => uptoBulkEntries entries + 1
  | .held _ => 1
def uptoBulkAll {H : Type} : List (DataW H) → Nat
  | [] => 0
  | d :: r => uptoBulk d + uptoBulkAll r
def uptoBulkEntries {H : Type} : List (Lit × DataW H) → Nat
  | [] => 0
  | x :: r => uptoBulkEntry x + uptoBulkEntries r
def uptoBulkEntry {H : Type} : Lit × DataW H → Nat
  | (.string bytes, d) => bytes.length + uptoBulk d + 1
  | (_, d) => uptoBulk d + 1
 end
def uptoSmall : (H : Type) → List (DataW H) → Bool := fun _ ds => decide (uptoBulkAll ds ≤ 1048576)
def OpenSpec.upto (s : _root_.Go.ChangeSpec) : _root_.Go.OpenSpec := { _root_.Go.OpenSpec.ofChange s with cond := some uptoSmall }

/-- 'flurrylaw15.BenchShare', WHERE WHAT IT READS IS OF BULK AT MOST 1048576: true; the input reads as it did. -/
def benchShareUptoRow : OpenClaim := { program := "ytiknonljdibfgaa", sum := "7223a66eeed4d9735b2c21ba392fdafd729c5e789d06179b129a1d27518ab24f", func := "flurry/flurrylaw15.BenchShare", spec := "benchShare", unfollowed := true, recurses := true, apart := false, narrowed := true }
def BenchShareUptoSaid : Prop := benchShareUptoRow.holds Try.pinned (OpenSpec.upto benchShareSpec)

/-- 'flurrylaw15.BenchRows', WHERE WHAT IT READS IS OF BULK AT MOST 1048576: true; the input reads as it did. -/
def benchRowsUptoRow : OpenClaim := { program := "ytiknonljdibfgaa", sum := "7223a66eeed4d9735b2c21ba392fdafd729c5e789d06179b129a1d27518ab24f", func := "flurry/flurrylaw15.BenchRows", spec := "benchRows", unfollowed := true, recurses := true, apart := false, narrowed := true }
def BenchRowsUptoSaid : Prop := benchRowsUptoRow.holds Try.pinned (OpenSpec.upto benchRowsSpec)

/-- 'flurrylaw15.BenchIs', WHERE WHAT IT READS IS OF BULK AT MOST 1048576: true; the input reads as it did. -/
def benchIsUptoRow : OpenClaim := { program := "ytiknonljdibfgaa", sum := "7223a66eeed4d9735b2c21ba392fdafd729c5e789d06179b129a1d27518ab24f", func := "flurry/flurrylaw15.BenchIs", spec := "benchIs", unfollowed := true, recurses := true, apart := false, narrowed := true }
def BenchIsUptoSaid : Prop := benchIsUptoRow.holds Try.pinned (OpenSpec.upto benchIsSpec)

/-- 'flurrylaw15.BenchGoes', WHERE WHAT IT READS IS OF BULK AT MOST 1048576: true; the input reads as it did. -/
def benchGoesUptoRow : OpenClaim := { program := "ytiknonljdibfgaa", sum := "7223a66eeed4d9735b2c21ba392fdafd729c5e789d06179b129a1d27518ab24f", func := "flurry/flurrylaw15.BenchGoes", spec := "benchGoes", unfollowed := true, recurses := true, apart := false, narrowed := true }
def BenchGoesUptoSaid : Prop := benchGoesUptoRow.holds Try.pinned (OpenSpec.upto benchGoesSpec)

/-- 'flurrylaw15.BenchWhile', WHERE WHAT IT READS IS OF BULK AT MOST 1048576: true; the input reads as it did. -/
def benchWhileUptoRow : OpenClaim := { program := "ytiknonljdibfgaa", sum := "7223a66eeed4d9735b2c21ba392fdafd729c5e789d06179b129a1d27518ab24f", func := "flurry/flurrylaw15.BenchWhile", spec := "benchWhile", unfollowed := true, recurses := true, apart := false, narrowed := true }
def BenchWhileUptoSaid : Prop := benchWhileUptoRow.holds Try.pinned (OpenSpec.upto benchWhileSpec)

end Rows
end Go.Proofs.Ytiknonljdibfgaa
