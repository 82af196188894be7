/-
  No cell of these rows narrows 'for every input' (looked for: loops, veiled, ifaces, maps, wideKeys, modest, calm, conditions, laid).
  DERIVED. THE GIVEN ROWS OF THIS SEAT. 5 by the template 'for every input the law returns true; each argument reads behind the call as it read before'; 0 by the template 'total and deterministic' (their statements: YtnaknoebjbmboaaTotals.lean).
  GIVEN WITH THE SEED: the statements are not yours to turn. If you find one false, say at which input.
  Laid BY PROGRAM, IN A SANDBOX (cutbox-rows.mjs): the forced cells as the released guide's own fill.sh prints them over the translation f50b876fcec55654… (all of the seat's roots in one cut). By AI agents, Wed Nov 11 2026. No macro, syntax, notation, axiom, sorry.
-/
import Derived.Test.YtnaknoebjbmboaaChecked
import GoSem.Claim
import GoSem.ClaimJoined
import GoSem.ClaimMapViews
import Derived.JoinedTies
import Derived.KernelRfl
namespace Go.Proofs.Ytnaknoebjbmboaa
/- THE CELL 'sum', in the pinned program and in every row, IS THE sha256 OF THE DUMP (.gsa) THAT YtnaknoebjbmboaaProg.lean LOADS. Nothing in Lean hashes anything: it is a label: what it is worth is what the hold of that sum in a sandbox is worth. -/
noncomputable def Try.pinned : Pinned := { name := "ytnaknoebjbmboaa", sum := "f50b876fcec556541f2bbc05df12fef6230cd656c316578b01cab6572dec3f84", checked := Try.checked }
namespace Rows
def none {H : Type} : Left H := { results := [], args := [] }

/-- 'flurrylaw14.AsksOther': WHATEVER THE INPUT: true; the input reads as it did. -/
def asksOtherSpec : ChangeSpec := { name := "asksOther", fn := fun _ => fun
  | [d1, d2, d3, d4, d5] => { results := [.lit (.bool true)], args := [d1, d2, d3, d4, d5] }
  | _ => none }
def asksOtherRow : OpenClaim := { program := "ytnaknoebjbmboaa", sum := "f50b876fcec556541f2bbc05df12fef6230cd656c316578b01cab6572dec3f84", func := "flurry/flurrylaw14.AsksOther", spec := "asksOther", apart := false }
def AsksOtherSaid : Prop := asksOtherRow.holds Try.pinned (OpenSpec.ofChange asksOtherSpec)

/-- ITS FALSE NEIGHBOUR: 'it returns false'. Refute it at one input. -/
def asksOtherWrong : ChangeSpec := { name := "asksOther", fn := fun _ => fun
  | [d1, d2, d3, d4, d5] => { results := [.lit (.bool false)], args := [d1, d2, d3, d4, d5] }
  | _ => none }
def AsksOtherWrongFalsely : Prop := asksOtherRow.holds Try.pinned (OpenSpec.ofChange asksOtherWrong)

/-- 'flurrylaw14.AsksRise': WHATEVER THE INPUT: true; the input reads as it did. -/
def asksRiseSpec : ChangeSpec := { name := "asksRise", fn := fun _ => fun
  | [d1, d2, d3] => { results := [.lit (.bool true)], args := [d1, d2, d3] }
  | _ => none }
def asksRiseRow : OpenClaim := { program := "ytnaknoebjbmboaa", sum := "f50b876fcec556541f2bbc05df12fef6230cd656c316578b01cab6572dec3f84", func := "flurry/flurrylaw14.AsksRise", spec := "asksRise", apart := false }
def AsksRiseSaid : Prop := asksRiseRow.holds Try.pinned (OpenSpec.ofChange asksRiseSpec)

/-- ITS FALSE NEIGHBOUR: 'it returns false'. Refute it at one input. -/
def asksRiseWrong : ChangeSpec := { name := "asksRise", fn := fun _ => fun
  | [d1, d2, d3] => { results := [.lit (.bool false)], args := [d1, d2, d3] }
  | _ => none }
def AsksRiseWrongFalsely : Prop := asksRiseRow.holds Try.pinned (OpenSpec.ofChange asksRiseWrong)

/-- 'flurrylaw14.AsksOnce': WHATEVER THE INPUT: true; the input reads as it did. -/
def asksOnceSpec : ChangeSpec := { name := "asksOnce", fn := fun _ => fun
  | [d1, d2] => { results := [.lit (.bool true)], args := [d1, d2] }
  | _ => none }
def asksOnceRow : OpenClaim := { program := "ytnaknoebjbmboaa", sum := "f50b876fcec556541f2bbc05df12fef6230cd656c316578b01cab6572dec3f84", func := "flurry/flurrylaw14.AsksOnce", spec := "asksOnce", apart := false }
def AsksOnceSaid : Prop := asksOnceRow.holds Try.pinned (OpenSpec.ofChange asksOnceSpec)

/-- ITS FALSE NEIGHBOUR: 'it returns false'. Refute it at one input. -/
def asksOnceWrong : ChangeSpec := { name := "asksOnce", fn := fun _ => fun
  | [d1, d2] => { results := [.lit (.bool false)], args := [d1, d2] }
  | _ => none }
def AsksOnceWrongFalsely : Prop := asksOnceRow.holds Try.pinned (OpenSpec.ofChange asksOnceWrong)

/-- 'flurrylaw14.AsksNone': WHATEVER THE INPUT: true; the input reads as it did. -/
def asksNoneSpec : ChangeSpec := { name := "asksNone", fn := fun _ => fun
  | [d1, d2, d3] => { results := [.lit (.bool true)], args := [d1, d2, d3] }
  | _ => none }
def asksNoneRow : OpenClaim := { program := "ytnaknoebjbmboaa", sum := "f50b876fcec556541f2bbc05df12fef6230cd656c316578b01cab6572dec3f84", func := "flurry/flurrylaw14.AsksNone", spec := "asksNone", inPlace := ["maps.clone"], unfollowed := true, recurses := true, apart := false }
def AsksNoneSaid : Prop := asksNoneRow.holds Try.pinned (OpenSpec.ofChange asksNoneSpec)

/-- ITS FALSE NEIGHBOUR: 'it returns false'. Refute it at one input. -/
def asksNoneWrong : ChangeSpec := { name := "asksNone", fn := fun _ => fun
  | [d1, d2, d3] => { results := [.lit (.bool false)], args := [d1, d2, d3] }
  | _ => none }
def AsksNoneWrongFalsely : Prop := asksNoneRow.holds Try.pinned (OpenSpec.ofChange asksNoneWrong)

/-- 'flurrylaw14.AsksDoes': WHATEVER THE INPUT: true; the input reads as it did. -/
def asksDoesSpec : ChangeSpec := { name := "asksDoes", fn := fun _ => fun
  | [d1, d2, d3] => { results := [.lit (.bool true)], args := [d1, d2, d3] }
  | _ => none }
def asksDoesRow : OpenClaim := { program := "ytnaknoebjbmboaa", sum := "f50b876fcec556541f2bbc05df12fef6230cd656c316578b01cab6572dec3f84", func := "flurry/flurrylaw14.AsksDoes", spec := "asksDoes", inPlace := ["maps.clone"], unfollowed := true, recurses := true, apart := false }
def AsksDoesSaid : Prop := asksDoesRow.holds Try.pinned (OpenSpec.ofChange asksDoesSpec)

/-- ITS FALSE NEIGHBOUR: 'it returns false'. Refute it at one input. -/
def asksDoesWrong : ChangeSpec := { name := "asksDoes", fn := fun _ => fun
  | [d1, d2, d3] => { results := [.lit (.bool false)], args := [d1, d2, d3] }
  | _ => none }
def AsksDoesWrongFalsely : Prop := asksDoesRow.holds Try.pinned (OpenSpec.ofChange asksDoesWrong)

/- THE SECOND FORM. 'bulk': how many values and letters a reading holds, each counted each time it is reached (what is shared counts as often as it is met; a slice's spare places count too). A statement '..UptoSaid' is the law's where the arguments, and the package variables that the reading takes, are together of bulk at most 1048576: NARROWER than '..Said'. Prove '..Said' where nothing that the law and all that it calls make is longer than what came in: it says more and counts as full. Else prove '..UptoSaid'. A law counts once. -/
mutual
def uptoBulk {H : Type} : DataW H → Nat
  | .lit (.string bytes) => bytes.length + 1
  | .lit _ => 1
  | .nil => 1
  | .ptr d => uptoBulk d + 1
  | .slice elems spare => uptoBulkAll elems + uptoBulkAll spare + 1
  | .agg parts => uptoBulkAll parts + 1
  | .iface _ d => uptoBulk d + 1
  | .map entries => uptoBulkEntries entries + 1
  | .held _ => 1
def uptoBulkAll {H : Type} : List (DataW H) → Nat
  | [] => 0
  | d :: r => uptoBulk d + uptoBulkAll r
def uptoBulkEntries {H : Type} : List (Lit × DataW H) → Nat
  | [] => 0
  | x :: r => uptoBulkEntry x + uptoBulkEntries r
def uptoBulkEntry {H : Type} : Lit × DataW H → Nat
  | (.string bytes, d) => bytes.length + uptoBulk d + 1
  | (_, d) => uptoBulk d + 1
 end
def uptoSmall : (H : Type) → List (DataW H) → Bool := fun _ ds => decide (uptoBulkAll ds ≤ 1048576)
def OpenSpec.upto (s : _root_.Go.ChangeSpec) : _root_.Go.OpenSpec := { _root_.Go.OpenSpec.ofChange s with cond := some uptoSmall }

/-- 'flurrylaw14.AsksOther', WHERE WHAT IT READS IS OF BULK AT MOST 1048576: true; the input reads as it did. -/
def asksOtherUptoRow : OpenClaim := { program := "ytnaknoebjbmboaa", sum := "f50b876fcec556541f2bbc05df12fef6230cd656c316578b01cab6572dec3f84", func := "flurry/flurrylaw14.AsksOther", spec := "asksOther", apart := false, narrowed := true }
def AsksOtherUptoSaid : Prop := asksOtherUptoRow.holds Try.pinned (OpenSpec.upto asksOtherSpec)

/-- 'flurrylaw14.AsksRise', WHERE WHAT IT READS IS OF BULK AT MOST 1048576: true; the input reads as it did. -/
def asksRiseUptoRow : OpenClaim := { program := "ytnaknoebjbmboaa", sum := "f50b876fcec556541f2bbc05df12fef6230cd656c316578b01cab6572dec3f84", func := "flurry/flurrylaw14.AsksRise", spec := "asksRise", apart := false, narrowed := true }
def AsksRiseUptoSaid : Prop := asksRiseUptoRow.holds Try.pinned (OpenSpec.upto asksRiseSpec)

/-- 'flurrylaw14.AsksOnce', WHERE WHAT IT READS IS OF BULK AT MOST 1048576: true; the input reads as it did. -/
def asksOnceUptoRow : OpenClaim := { program := "ytnaknoebjbmboaa", sum := "f50b876fcec556541f2bbc05df12fef6230cd656c316578b01cab6572dec3f84", func := "flurry/flurrylaw14.AsksOnce", spec := "asksOnce", apart := false, narrowed := true }
def AsksOnceUptoSaid : Prop := asksOnceUptoRow.holds Try.pinned (OpenSpec.upto asksOnceSpec)

/-- 'flurrylaw14.AsksNone', WHERE WHAT IT READS IS OF BULK AT MOST 1048576: true; the input reads as it did. -/
def asksNoneUptoRow : OpenClaim := { program := "ytnaknoebjbmboaa", sum := "f50b876fcec556541f2bbc05df12fef6230cd656c316578b01cab6572dec3f84", func := "flurry/flurrylaw14.AsksNone", spec := "asksNone", inPlace := ["maps.clone"], unfollowed := true, recurses := true, apart := false, narrowed := true }
def AsksNoneUptoSaid : Prop := asksNoneUptoRow.holds Try.pinned (OpenSpec.upto asksNoneSpec)

/-- 'flurrylaw14.AsksDoes', WHERE WHAT IT READS IS OF BULK AT MOST 1048576: true; the input reads as it did. -/
def asksDoesUptoRow : OpenClaim := { program := "ytnaknoebjbmboaa", sum := "f50b876fcec556541f2bbc05df12fef6230cd656c316578b01cab6572dec3f84", func := "flurry/flurrylaw14.AsksDoes", spec := "asksDoes", inPlace := ["maps.clone"], unfollowed := true, recurses := true, apart := false, narrowed := true }
def AsksDoesUptoSaid : Prop := asksDoesUptoRow.holds Try.pinned (OpenSpec.upto asksDoesSpec)

end Rows
end Go.Proofs.Ytnaknoebjbmboaa
