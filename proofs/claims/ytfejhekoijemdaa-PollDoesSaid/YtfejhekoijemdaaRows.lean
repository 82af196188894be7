/-
  No cell of these rows narrows 'for every input' (looked for: loops, veiled, ifaces, maps, wideKeys, modest, calm, conditions, laid).
  DERIVED. THE GIVEN ROWS OF THIS SEAT. 6 by the template 'for every input the law returns true; each argument reads behind the call as it read before'; 0 by the template 'total and deterministic' (their statements: YtfejhekoijemdaaTotals.lean).
  GIVEN WITH THE SEED: the statements are not yours to turn. If you find one false, say at which input.
  Laid BY PROGRAM, IN A SANDBOX (cutbox-rows.mjs): the forced cells as the released guide's own fill.sh prints them over the translation 310bf99d4ba17c6a… (all of the seat's roots in one cut). By AI agents, Wed Nov 11 2026. No macro, syntax, notation, axiom, sorry.
-/
import Derived.Test.YtfejhekoijemdaaChecked
import GoSem.Claim
import GoSem.ClaimJoined
import GoSem.ClaimMapViews
import Derived.JoinedTies
import Derived.KernelRfl
namespace Go.Proofs.Ytfejhekoijemdaa
/- THE CELL 'sum', in the pinned program and in every row, IS THE sha256 OF THE DUMP (.gsa) THAT YtfejhekoijemdaaProg.lean LOADS. Nothing in Lean hashes anything: it is a label: what it is worth is what the hold of that sum in a sandbox is worth. -/
noncomputable def Try.pinned : Pinned := { name := "ytfejhekoijemdaa", sum := "310bf99d4ba17c6a798cb60b80b39c6826c8c09ac6e25b0cb4e527f715865e9c", checked := Try.checked }
namespace Rows
def none {H : Type} : Left H := { results := [], args := [] }

/-- 'flurrylaw18.PollEarly': WHATEVER THE INPUT: true; the input reads as it did. -/
def pollEarlySpec : ChangeSpec := { name := "pollEarly", fn := fun _ => fun
  | [d1, d2, d3, d4, d5] => { results := [.lit (.bool true)], args := [d1, d2, d3, d4, d5] }
  | _ => none }
def pollEarlyRow : OpenClaim := { program := "ytfejhekoijemdaa", sum := "310bf99d4ba17c6a798cb60b80b39c6826c8c09ac6e25b0cb4e527f715865e9c", func := "flurry/flurrylaw18.PollEarly", spec := "pollEarly", inPlace := ["internal/bytealg.Compare"], unfollowed := true, recurses := true, plainKeys := false, apart := false }
def PollEarlySaid : Prop := pollEarlyRow.holds Try.pinned (OpenSpec.ofChange pollEarlySpec)

/-- ITS FALSE NEIGHBOUR: 'it returns false'. Refute it at one input. -/
def pollEarlyWrong : ChangeSpec := { name := "pollEarly", fn := fun _ => fun
  | [d1, d2, d3, d4, d5] => { results := [.lit (.bool false)], args := [d1, d2, d3, d4, d5] }
  | _ => none }
def PollEarlyWrongFalsely : Prop := pollEarlyRow.holds Try.pinned (OpenSpec.ofChange pollEarlyWrong)

/-- 'flurrylaw18.PollFull': WHATEVER THE INPUT: true; the input reads as it did. -/
def pollFullSpec : ChangeSpec := { name := "pollFull", fn := fun _ => fun
  | [d] => { results := [.lit (.bool true)], args := [d] }
  | _ => none }
def pollFullRow : OpenClaim := { program := "ytfejhekoijemdaa", sum := "310bf99d4ba17c6a798cb60b80b39c6826c8c09ac6e25b0cb4e527f715865e9c", func := "flurry/flurrylaw18.PollFull", spec := "pollFull", inPlace := ["internal/bytealg.Compare"], unfollowed := true, recurses := true, plainKeys := false, apart := false }
def PollFullSaid : Prop := pollFullRow.holds Try.pinned (OpenSpec.ofChange pollFullSpec)

/-- ITS FALSE NEIGHBOUR: 'it returns false'. Refute it at one input. -/
def pollFullWrong : ChangeSpec := { name := "pollFull", fn := fun _ => fun
  | [d] => { results := [.lit (.bool false)], args := [d] }
  | _ => none }
def PollFullWrongFalsely : Prop := pollFullRow.holds Try.pinned (OpenSpec.ofChange pollFullWrong)

/-- 'flurrylaw18.PollOnce': WHATEVER THE INPUT: true; the input reads as it did. -/
def pollOnceSpec : ChangeSpec := { name := "pollOnce", fn := fun _ => fun
  | [d1, d2, d3] => { results := [.lit (.bool true)], args := [d1, d2, d3] }
  | _ => none }
def pollOnceRow : OpenClaim := { program := "ytfejhekoijemdaa", sum := "310bf99d4ba17c6a798cb60b80b39c6826c8c09ac6e25b0cb4e527f715865e9c", func := "flurry/flurrylaw18.PollOnce", spec := "pollOnce", inPlace := ["internal/bytealg.Compare"], unfollowed := true, recurses := true, plainKeys := false, apart := false }
def PollOnceSaid : Prop := pollOnceRow.holds Try.pinned (OpenSpec.ofChange pollOnceSpec)

/-- ITS FALSE NEIGHBOUR: 'it returns false'. Refute it at one input. -/
def pollOnceWrong : ChangeSpec := { name := "pollOnce", fn := fun _ => fun
  | [d1, d2, d3] => { results := [.lit (.bool false)], args := [d1, d2, d3] }
  | _ => none }
def PollOnceWrongFalsely : Prop := pollOnceRow.holds Try.pinned (OpenSpec.ofChange pollOnceWrong)

/-- 'flurrylaw18.PollOrder': WHATEVER THE INPUT: true; the input reads as it did. -/
def pollOrderSpec : ChangeSpec := { name := "pollOrder", fn := fun _ => fun
  | [d1, d2, d3] => { results := [.lit (.bool true)], args := [d1, d2, d3] }
  | _ => none }
def pollOrderRow : OpenClaim := { program := "ytfejhekoijemdaa", sum := "310bf99d4ba17c6a798cb60b80b39c6826c8c09ac6e25b0cb4e527f715865e9c", func := "flurry/flurrylaw18.PollOrder", spec := "pollOrder", inPlace := ["internal/bytealg.Compare"], unfollowed := true, recurses := true, plainKeys := false, apart := false }
def PollOrderSaid : Prop := pollOrderRow.holds Try.pinned (OpenSpec.ofChange pollOrderSpec)

/-- ITS FALSE NEIGHBOUR: 'it returns false'. Refute it at one input. -/
def pollOrderWrong : ChangeSpec := { name := "pollOrder", fn := fun _ => fun
  | [d1, d2, d3] => { results := [.lit (.bool false)], args := [d1, d2, d3] }
  | _ => none }
def PollOrderWrongFalsely : Prop := pollOrderRow.holds Try.pinned (OpenSpec.ofChange pollOrderWrong)

/-- 'flurrylaw18.PollDoes': WHATEVER THE INPUT: true; the input reads as it did. -/
def pollDoesSpec : ChangeSpec := { name := "pollDoes", fn := fun _ => fun
  | [d1, d2, d3] => { results := [.lit (.bool true)], args := [d1, d2, d3] }
  | _ => none }
def pollDoesRow : OpenClaim := { program := "ytfejhekoijemdaa", sum := "310bf99d4ba17c6a798cb60b80b39c6826c8c09ac6e25b0cb4e527f715865e9c", func := "flurry/flurrylaw18.PollDoes", spec := "pollDoes", inPlace := ["internal/bytealg.Compare", "maps.clone"], unfollowed := true, recurses := true, plainKeys := false, apart := false }
def PollDoesSaid : Prop := pollDoesRow.holds Try.pinned (OpenSpec.ofChange pollDoesSpec)

/-- ITS FALSE NEIGHBOUR: 'it returns false'. Refute it at one input. -/
def pollDoesWrong : ChangeSpec := { name := "pollDoes", fn := fun _ => fun
  | [d1, d2, d3] => { results := [.lit (.bool false)], args := [d1, d2, d3] }
  | _ => none }
def PollDoesWrongFalsely : Prop := pollDoesRow.holds Try.pinned (OpenSpec.ofChange pollDoesWrong)

/-- 'flurrylaw18.PollNone': WHATEVER THE INPUT: true; the input reads as it did. -/
def pollNoneSpec : ChangeSpec := { name := "pollNone", fn := fun _ => fun
  | [d1, d2, d3] => { results := [.lit (.bool true)], args := [d1, d2, d3] }
  | _ => none }
def pollNoneRow : OpenClaim := { program := "ytfejhekoijemdaa", sum := "310bf99d4ba17c6a798cb60b80b39c6826c8c09ac6e25b0cb4e527f715865e9c", func := "flurry/flurrylaw18.PollNone", spec := "pollNone", inPlace := ["internal/bytealg.Compare", "maps.clone"], unfollowed := true, recurses := true, plainKeys := false, apart := false }
def PollNoneSaid : Prop := pollNoneRow.holds Try.pinned (OpenSpec.ofChange pollNoneSpec)

/-- ITS FALSE NEIGHBOUR: 'it returns false'. Refute it at one input. -/
def pollNoneWrong : ChangeSpec := { name := "pollNone", fn := fun _ => fun
  | [d1, d2, d3] => { results := [.lit (.bool false)], args := [d1, d2, d3] }
  | _ => none }
def PollNoneWrongFalsely : Prop := pollNoneRow.holds Try.pinned (OpenSpec.ofChange pollNoneWrong)

/- THE SECOND FORM. 'bulk': how many values and letters a reading holds, each counted each time it is reached (what is shared counts as often as it is met; a slice's spare places count too). A statement '..UptoSaid' is the law's where the arguments, and the package variables that the reading takes, are together of bulk at most 1048576: NARROWER than '..Said'. Prove '..Said' where nothing that the law and all that it calls make is longer than what came in: it says more and counts as full. Else prove '..UptoSaid'. A law counts once. -/
mutual
def uptoBulk {H : Type} : DataW H → Nat
  | .lit (.string bytes) => bytes.length + 1
  | .lit _ => 1
  | .nil => 1
  | .ptr d => uptoBulk d + 1
  | .slice elems spare => uptoBulkAll elems + uptoBulkAll spare + 1
  | .agg parts => uptoBulkAll parts + 1
  | .iface _ d => uptoBulk d + 1
  | .map entries => uptoBulkEntries entries + 1
  | .held _ => 1
def uptoBulkAll {H : Type} : List (DataW H) → Nat
  | [] => 0
  | d :: r => uptoBulk d + uptoBulkAll r
def uptoBulkEntries {H : Type} : List (Lit × DataW H) → Nat
  | [] => 0
  | x :: r => uptoBulkEntry x + uptoBulkEntries r
def uptoBulkEntry {H : Type} : Lit × DataW H → Nat
  | (.string bytes, d) => bytes.length + uptoBulk d + 1
  | (_, d) => uptoBulk d + 1
 end
def uptoSmall : (H : Type) → List (DataW H) → Bool := fun _ ds => decide (uptoBulkAll ds ≤ 1048576)
def OpenSpec.upto (s : _root_.Go.ChangeSpec) : _root_.Go.OpenSpec := { _root_.Go.OpenSpec.ofChange s with cond := some uptoSmall }

/-- 'flurrylaw18.PollEarly', WHERE WHAT IT READS IS OF BULK AT MOST 1048576: true; the input reads as it did. -/
def pollEarlyUptoRow : OpenClaim := { program := "ytfejhekoijemdaa", sum := "310bf99d4ba17c6a798cb60b80b39c6826c8c09ac6e25b0cb4e527f715865e9c", func := "flurry/flurrylaw18.PollEarly", spec := "pollEarly", inPlace := ["internal/bytealg.Compare"], unfollowed := true, recurses := true, plainKeys := false, apart := false, narrowed := true }
def PollEarlyUptoSaid : Prop := pollEarlyUptoRow.holds Try.pinned (OpenSpec.upto pollEarlySpec)

/-- 'flurrylaw18.PollFull', WHERE WHAT IT READS IS OF BULK AT MOST 1048576: true; the input reads as it did. -/
def pollFullUptoRow : OpenClaim := { program := "ytfejhekoijemdaa", sum := "310bf99d4ba17c6a798cb60b80b39c6826c8c09ac6e25b0cb4e527f715865e9c", func := "flurry/flurrylaw18.PollFull", spec := "pollFull", inPlace := ["internal/bytealg.Compare"], unfollowed := true, recurses := true, plainKeys := false, apart := false, narrowed := true }
def PollFullUptoSaid : Prop := pollFullUptoRow.holds Try.pinned (OpenSpec.upto pollFullSpec)

/-- 'flurrylaw18.PollOnce', WHERE WHAT IT READS IS OF BULK AT MOST 1048576: true; the input reads as it did. -/
def pollOnceUptoRow : OpenClaim := { program := "ytfejhekoijemdaa", sum := "310bf99d4ba17c6a798cb60b80b39c6826c8c09ac6e25b0cb4e527f715865e9c", func := "flurry/flurrylaw18.PollOnce", spec := "pollOnce", inPlace := ["internal/bytealg.Compare"], unfollowed := true, recurses := true, plainKeys := false, apart := false, narrowed := true }
def PollOnceUptoSaid : Prop := pollOnceUptoRow.holds Try.pinned (OpenSpec.upto pollOnceSpec)

/-- 'flurrylaw18.PollOrder', WHERE WHAT IT READS IS OF BULK AT MOST 1048576: true; the input reads as it did. -/
def pollOrderUptoRow : OpenClaim := { program := "ytfejhekoijemdaa", sum := "310bf99d4ba17c6a798cb60b80b39c6826c8c09ac6e25b0cb4e527f715865e9c", func := "flurry/flurrylaw18.PollOrder", spec := "pollOrder", inPlace := ["internal/bytealg.Compare"], unfollowed := true, recurses := true, plainKeys := false, apart := false, narrowed := true }
def PollOrderUptoSaid : Prop := pollOrderUptoRow.holds Try.pinned (OpenSpec.upto pollOrderSpec)

/-- 'flurrylaw18.PollDoes', WHERE WHAT IT READS IS OF BULK AT MOST 1048576: true; the input reads as it did. -/
def pollDoesUptoRow : OpenClaim := { program := "ytfejhekoijemdaa", sum := "310bf99d4ba17c6a798cb60b80b39c6826c8c09ac6e25b0cb4e527f715865e9c", func := "flurry/flurrylaw18.PollDoes", spec := "pollDoes", inPlace := ["internal/bytealg.Compare", "maps.clone"], unfollowed := true, recurses := true, plainKeys := false, apart := false, narrowed := true }
def PollDoesUptoSaid : Prop := pollDoesUptoRow.holds Try.pinned (OpenSpec.upto pollDoesSpec)

/-- 'flurrylaw18.PollNone', WHERE WHAT IT READS IS OF BULK AT MOST 1048576: true; the input reads as it did. -/
def pollNoneUptoRow : OpenClaim := { program := "ytfejhekoijemdaa", sum := "310bf99d4ba17c6a798cb60b80b39c6826c8c09ac6e25b0cb4e527f715865e9c", func := "flurry/flurrylaw18.PollNone", spec := "pollNone", inPlace := ["internal/bytealg.Compare", "maps.clone"], unfollowed := true, recurses := true, plainKeys := false, apart := false, narrowed := true }
def PollNoneUptoSaid : Prop := pollNoneUptoRow.holds Try.pinned (OpenSpec.upto pollNoneSpec)

end Rows
end Go.Proofs.Ytfejhekoijemdaa
