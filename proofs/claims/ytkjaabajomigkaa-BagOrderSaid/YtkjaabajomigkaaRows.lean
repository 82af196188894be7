/-
  No cell of these rows narrows 'for every input' (looked for: loops, veiled, ifaces, maps, wideKeys, modest, calm, conditions, laid).
  DERIVED. THE GIVEN ROWS OF THIS SEAT. 6 by the template 'for every input the law returns true; each argument reads behind the call as it read before'; 0 by the template 'total and deterministic' (their statements: YtkjaabajomigkaaTotals.lean).
  GIVEN WITH THE SEED: the statements are not yours to turn. If you find one false, say at which input.
  Laid BY PROGRAM, IN A SANDBOX (cutbox-rows.mjs): the forced cells as the released guide's own fill.sh prints them over the translation 07b8ef8fc6803fa5… (all of the seat's roots in one cut). By AI agents, Wed Nov 11 2026. No macro, syntax, notation, axiom, sorry.
-/
import Derived.Test.YtkjaabajomigkaaChecked
import GoSem.Claim
import GoSem.ClaimJoined
import GoSem.ClaimMapViews
import Derived.JoinedTies
import Derived.KernelRfl
namespace Go.Proofs.Ytkjaabajomigkaa
/- THE CELL 'sum', in the pinned program and in every row, IS THE sha256 OF THE DUMP (.gsa) THAT YtkjaabajomigkaaProg.lean LOADS. Nothing in Lean hashes anything: it is a label: what it is worth is what the hold of that sum in a sandbox is worth. -/
noncomputable def Try.pinned : Pinned := { name := "ytkjaabajomigkaa", sum := "07b8ef8fc6803fa5713e164a2f38a3600f08312374e06026de679c2760449be5", checked := Try.checked }
namespace Rows
def none {H : Type} : Left H := { results := [], args := [] }

/-- 'flurrylaw07.BagIs': WHATEVER THE INPUT: true; the input reads as it did. -/
def bagIsSpec : ChangeSpec := { name := "bagIs", fn := fun _ => fun
  | [d1, d2, d3] => { results := [.lit (.bool true)], args := [d1, d2, d3] }
  | _ => none }
def bagIsRow : OpenClaim := { program := "ytkjaabajomigkaa", sum := "07b8ef8fc6803fa5713e164a2f38a3600f08312374e06026de679c2760449be5", func := "flurry/flurrylaw07.BagIs", spec := "bagIs", inPlace := ["internal/bytealg.Compare"], unfollowed := true, recurses := true, plainKeys := false, apart := false }
def BagIsSaid : Prop := bagIsRow.holds Try.pinned (OpenSpec.ofChange bagIsSpec)

/-- ITS FALSE NEIGHBOUR: 'it returns false'. Refute it at one input. -/
def bagIsWrong : ChangeSpec := { name := "bagIs", fn := fun _ => fun
  | [d1, d2, d3] => { results := [.lit (.bool false)], args := [d1, d2, d3] }
  | _ => none }
def BagIsWrongFalsely : Prop := bagIsRow.holds Try.pinned (OpenSpec.ofChange bagIsWrong)

/-- 'flurrylaw07.BagCounts': WHATEVER THE INPUT: true; the input reads as it did. -/
def bagCountsSpec : ChangeSpec := { name := "bagCounts", fn := fun _ => fun
  | [d1, d2, d3] => { results := [.lit (.bool true)], args := [d1, d2, d3] }
  | _ => none }
def bagCountsRow : OpenClaim := { program := "ytkjaabajomigkaa", sum := "07b8ef8fc6803fa5713e164a2f38a3600f08312374e06026de679c2760449be5", func := "flurry/flurrylaw07.BagCounts", spec := "bagCounts", inPlace := ["internal/bytealg.Compare"], unfollowed := true, recurses := true, plainKeys := false, apart := false }
def BagCountsSaid : Prop := bagCountsRow.holds Try.pinned (OpenSpec.ofChange bagCountsSpec)

/-- ITS FALSE NEIGHBOUR: 'it returns false'. Refute it at one input. -/
def bagCountsWrong : ChangeSpec := { name := "bagCounts", fn := fun _ => fun
  | [d1, d2, d3] => { results := [.lit (.bool false)], args := [d1, d2, d3] }
  | _ => none }
def BagCountsWrongFalsely : Prop := bagCountsRow.holds Try.pinned (OpenSpec.ofChange bagCountsWrong)

/-- 'flurrylaw07.BagMost': WHATEVER THE INPUT: true; the input reads as it did. -/
def bagMostSpec : ChangeSpec := { name := "bagMost", fn := fun _ => fun
  | [d1, d2] => { results := [.lit (.bool true)], args := [d1, d2] }
  | _ => none }
def bagMostRow : OpenClaim := { program := "ytkjaabajomigkaa", sum := "07b8ef8fc6803fa5713e164a2f38a3600f08312374e06026de679c2760449be5", func := "flurry/flurrylaw07.BagMost", spec := "bagMost", inPlace := ["internal/bytealg.Compare"], unfollowed := true, recurses := true, plainKeys := false, apart := false }
def BagMostSaid : Prop := bagMostRow.holds Try.pinned (OpenSpec.ofChange bagMostSpec)

/-- ITS FALSE NEIGHBOUR: 'it returns false'. Refute it at one input. -/
def bagMostWrong : ChangeSpec := { name := "bagMost", fn := fun _ => fun
  | [d1, d2] => { results := [.lit (.bool false)], args := [d1, d2] }
  | _ => none }
def BagMostWrongFalsely : Prop := bagMostRow.holds Try.pinned (OpenSpec.ofChange bagMostWrong)

/-- 'flurrylaw07.BagOrder': WHATEVER THE INPUT: true; the input reads as it did. -/
def bagOrderSpec : ChangeSpec := { name := "bagOrder", fn := fun _ => fun
  | [d1, d2, d3] => { results := [.lit (.bool true)], args := [d1, d2, d3] }
  | _ => none }
def bagOrderRow : OpenClaim := { program := "ytkjaabajomigkaa", sum := "07b8ef8fc6803fa5713e164a2f38a3600f08312374e06026de679c2760449be5", func := "flurry/flurrylaw07.BagOrder", spec := "bagOrder", inPlace := ["internal/bytealg.Compare"], unfollowed := true, recurses := true, plainKeys := false, apart := false }
def BagOrderSaid : Prop := bagOrderRow.holds Try.pinned (OpenSpec.ofChange bagOrderSpec)

/-- ITS FALSE NEIGHBOUR: 'it returns false'. Refute it at one input. -/
def bagOrderWrong : ChangeSpec := { name := "bagOrder", fn := fun _ => fun
  | [d1, d2, d3] => { results := [.lit (.bool false)], args := [d1, d2, d3] }
  | _ => none }
def BagOrderWrongFalsely : Prop := bagOrderRow.holds Try.pinned (OpenSpec.ofChange bagOrderWrong)

/-- 'flurrylaw07.BagParts': WHATEVER THE INPUT: true; the input reads as it did. -/
def bagPartsSpec : ChangeSpec := { name := "bagParts", fn := fun _ => fun
  | [d1, d2] => { results := [.lit (.bool true)], args := [d1, d2] }
  | _ => none }
def bagPartsRow : OpenClaim := { program := "ytkjaabajomigkaa", sum := "07b8ef8fc6803fa5713e164a2f38a3600f08312374e06026de679c2760449be5", func := "flurry/flurrylaw07.BagParts", spec := "bagParts", inPlace := ["internal/bytealg.Compare"], unfollowed := true, recurses := true, plainKeys := false, apart := false }
def BagPartsSaid : Prop := bagPartsRow.holds Try.pinned (OpenSpec.ofChange bagPartsSpec)

/-- ITS FALSE NEIGHBOUR: 'it returns false'. Refute it at one input. -/
def bagPartsWrong : ChangeSpec := { name := "bagParts", fn := fun _ => fun
  | [d1, d2] => { results := [.lit (.bool false)], args := [d1, d2] }
  | _ => none }
def BagPartsWrongFalsely : Prop := bagPartsRow.holds Try.pinned (OpenSpec.ofChange bagPartsWrong)

/-- 'flurrylaw07.BagPuts': WHATEVER THE INPUT: true; the input reads as it did. -/
def bagPutsSpec : ChangeSpec := { name := "bagPuts", fn := fun _ => fun
  | [d1, d2, d3] => { results := [.lit (.bool true)], args := [d1, d2, d3] }
  | _ => none }
def bagPutsRow : OpenClaim := { program := "ytkjaabajomigkaa", sum := "07b8ef8fc6803fa5713e164a2f38a3600f08312374e06026de679c2760449be5", func := "flurry/flurrylaw07.BagPuts", spec := "bagPuts", inPlace := ["internal/bytealg.Compare"], unfollowed := true, recurses := true, plainKeys := false, apart := false }
def BagPutsSaid : Prop := bagPutsRow.holds Try.pinned (OpenSpec.ofChange bagPutsSpec)

/-- ITS FALSE NEIGHBOUR: 'it returns false'. Refute it at one input. -/
def bagPutsWrong : ChangeSpec := { name := "bagPuts", fn := fun _ => fun
  | [d1, d2, d3] => { results := [.lit (.bool false)], args := [d1, d2, d3] }
  | _ => none }
def BagPutsWrongFalsely : Prop := bagPutsRow.holds Try.pinned (OpenSpec.ofChange bagPutsWrong)

/- THE SECOND FORM. 'bulk': how many values and letters a reading holds, each counted each time it is reached (what is shared counts as often as it is met; a slice's spare places count too). A statement '..UptoSaid' is the law's where the arguments, and the package variables that the reading takes, are together of bulk at most 1048576: NARROWER than '..Said'. Prove '..Said' where nothing that the law and all that it calls make is longer than what came in: it says more and counts as full. Else prove '..UptoSaid'. A law counts once. -/
mutual
def uptoBulk {H : Type} : DataW H → Nat
  | .lit (.string bytes) => bytes.length + 1
  | .lit _ => 1
  | .nil => 1
  | .ptr d => uptoBulk d + 1
  | .slice elems spare => uptoBulkAll elems + uptoBulkAll spare + 1
  | .agg parts => uptoBulkAll parts + 1
  | .iface _ d => uptoBulk d + 1
  | .map entries => uptoBulkEntries entries + 1
  | .held _ => 1
def uptoBulkAll {H : Type} : List (DataW H) → Nat
  | [] => 0
  | d :: r => uptoBulk d + uptoBulkAll r
def uptoBulkEntries {H : Type} : List (Lit × DataW H) → Nat
  | [] => 0
  | x :: r => uptoBulkEntry x + uptoBulkEntries r
def uptoBulkEntry {H : Type} : Lit × DataW H → Nat
  | (.string bytes, d) => bytes.length + uptoBulk d + 1
  | (_, d) => uptoBulk d + 1
 end
def uptoSmall : (H : Type) → List (DataW H) → Bool := fun _ ds => decide (uptoBulkAll ds ≤ 1048576)
def OpenSpec.upto (s : _root_.Go.ChangeSpec) : _root_.Go.OpenSpec := { _root_.Go.OpenSpec.ofChange s with cond := some uptoSmall }

/-- 'flurrylaw07.BagIs', WHERE WHAT IT READS IS OF BULK AT MOST 1048576: true; the input reads as it did. -/
def bagIsUptoRow : OpenClaim := { program := "ytkjaabajomigkaa", sum := "07b8ef8fc6803fa5713e164a2f38a3600f08312374e06026de679c2760449be5", func := "flurry/flurrylaw07.BagIs", spec := "bagIs", inPlace := ["internal/bytealg.Compare"], unfollowed := true, recurses := true, plainKeys := false, apart := false, narrowed := true }
def BagIsUptoSaid : Prop := bagIsUptoRow.holds Try.pinned (OpenSpec.upto bagIsSpec)

/-- 'flurrylaw07.BagCounts', WHERE WHAT IT READS IS OF BULK AT MOST 1048576: true; the input reads as it did. -/
def bagCountsUptoRow : OpenClaim := { program := "ytkjaabajomigkaa", sum := "07b8ef8fc6803fa5713e164a2f38a3600f08312374e06026de679c2760449be5", func := "flurry/flurrylaw07.BagCounts", spec := "bagCounts", inPlace := ["internal/bytealg.Compare"], unfollowed := true, recurses := true, plainKeys := false, apart := false, narrowed := true }
def BagCountsUptoSaid : Prop := bagCountsUptoRow.holds Try.pinned (OpenSpec.upto bagCountsSpec)

/-- 'flurrylaw07.BagMost', WHERE WHAT IT READS IS OF BULK AT MOST 1048576: true; the input reads as it did. -/
def bagMostUptoRow : OpenClaim := { program := "ytkjaabajomigkaa", sum := "07b8ef8fc6803fa5713e164a2f38a3600f08312374e06026de679c2760449be5", func := "flurry/flurrylaw07.BagMost", spec := "bagMost", inPlace := ["internal/bytealg.Compare"], unfollowed := true, recurses := true, plainKeys := false, apart := false, narrowed := true }
def BagMostUptoSaid : Prop := bagMostUptoRow.holds Try.pinned (OpenSpec.upto bagMostSpec)

/-- 'flurrylaw07.BagOrder', WHERE WHAT IT READS IS OF BULK AT MOST 1048576: true; the input reads as it did. -/
def bagOrderUptoRow : OpenClaim := { program := "ytkjaabajomigkaa", sum := "07b8ef8fc6803fa5713e164a2f38a3600f08312374e06026de679c2760449be5", func := "flurry/flurrylaw07.BagOrder", spec := "bagOrder", inPlace := ["internal/bytealg.Compare"], unfollowed := true, recurses := true, plainKeys := false, apart := false, narrowed := true }
def BagOrderUptoSaid : Prop := bagOrderUptoRow.holds Try.pinned (OpenSpec.upto bagOrderSpec)

/-- 'flurrylaw07.BagParts', WHERE WHAT IT READS IS OF BULK AT MOST 1048576: true; the input reads as it did. -/
def bagPartsUptoRow : OpenClaim := { program := "ytkjaabajomigkaa", sum := "07b8ef8fc6803fa5713e164a2f38a3600f08312374e06026de679c2760449be5", func := "flurry/flurrylaw07.BagParts", spec := "bagParts", inPlace := ["internal/bytealg.Compare"], unfollowed := true, recurses := true, plainKeys := false, apart := false, narrowed := true }
def BagPartsUptoSaid : Prop := bagPartsUptoRow.holds Try.pinned (OpenSpec.upto bagPartsSpec)

/-- 'flurrylaw07.BagPuts', WHERE WHAT IT READS IS OF BULK AT MOST 1048576: true; the input reads as it did. -/
def bagPutsUptoRow : OpenClaim := { program := "ytkjaabajomigkaa", sum := "07b8ef8fc6803fa5713e164a2f38a3600f08312374e06026de679c2760449be5", func := "flurry/flurrylaw07.BagPuts", spec := "bagPuts", inPlace := ["internal/bytealg.Compare"], unfollowed := true, recurses := true, plainKeys := false, apart := false, narrowed := true }
def BagPutsUptoSaid : Prop := bagPutsUptoRow.holds Try.pinned (OpenSpec.upto bagPutsSpec)

end Rows
end Go.Proofs.Ytkjaabajomigkaa
