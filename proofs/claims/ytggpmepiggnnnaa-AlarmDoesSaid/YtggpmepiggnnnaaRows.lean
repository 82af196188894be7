/-
  No cell of these rows narrows 'for every input' (looked for: loops, veiled, ifaces, maps, wideKeys, modest, calm, conditions, laid).
  DERIVED. THE GIVEN ROWS OF THIS SEAT. 6 by the template 'for every input the law returns true; each argument reads behind the call as it read before'; 0 by the template 'total and deterministic' (their statements: YtggpmepiggnnnaaTotals.lean).
  GIVEN WITH THE SEED: the statements are not yours to turn. If you find one false, say at which input.
  Laid BY PROGRAM, IN A SANDBOX (cutbox-rows.mjs): the forced cells as the released guide's own fill.sh prints them over the translation 2cb3ecf5c74836bf… (all of the seat's roots in one cut). By AI agents, Wed Nov 11 2026. No macro, syntax, notation, axiom, sorry.
-/
import Derived.Test.YtggpmepiggnnnaaChecked
import GoSem.Claim
import GoSem.ClaimJoined
import GoSem.ClaimMapViews
import Derived.JoinedTies
import Derived.KernelRfl
namespace Go.Proofs.Ytggpmepiggnnnaa
/- THE CELL 'sum', in the pinned program and in every row, IS THE sha256 OF THE DUMP (.gsa) THAT YtggpmepiggnnnaaProg.lean LOADS. Nothing in Lean hashes anything: it is a label: what it is worth is what the hold of that sum in a sandbox is worth. -/
noncomputable def Try.pinned : Pinned := { name := "ytggpmepiggnnnaa", sum := "2cb3ecf5c74836bfa71d2b23b4becff7322aa04316dece8c3026c2550a09ba04", checked := Try.checked }
namespace Rows
def none {H : Type} : Left H := { results := [], args := [] }

/-- 'flurrylaw12.AlarmFull': WHATEVER THE INPUT: true; the input reads as it did. -/
def alarmFullSpec : ChangeSpec := { name := "alarmFull", fn := fun _ => fun
  | [d1, d2, d3] => { results := [.lit (.bool true)], args := [d1, d2, d3] }
  | _ => none }
def alarmFullRow : OpenClaim := { program := "ytggpmepiggnnnaa", sum := "2cb3ecf5c74836bfa71d2b23b4becff7322aa04316dece8c3026c2550a09ba04", func := "flurry/flurrylaw12.AlarmFull", spec := "alarmFull", unfollowed := true, recurses := true, apart := false }
def AlarmFullSaid : Prop := alarmFullRow.holds Try.pinned (OpenSpec.ofChange alarmFullSpec)

/-- ITS FALSE NEIGHBOUR: 'it returns false'. Refute it at one input. -/
def alarmFullWrong : ChangeSpec := { name := "alarmFull", fn := fun _ => fun
  | [d1, d2, d3] => { results := [.lit (.bool false)], args := [d1, d2, d3] }
  | _ => none }
def AlarmFullWrongFalsely : Prop := alarmFullRow.holds Try.pinned (OpenSpec.ofChange alarmFullWrong)

/-- 'flurrylaw12.AlarmOrder': WHATEVER THE INPUT: true; the input reads as it did. -/
def alarmOrderSpec : ChangeSpec := { name := "alarmOrder", fn := fun _ => fun
  | [d1, d2] => { results := [.lit (.bool true)], args := [d1, d2] }
  | _ => none }
def alarmOrderRow : OpenClaim := { program := "ytggpmepiggnnnaa", sum := "2cb3ecf5c74836bfa71d2b23b4becff7322aa04316dece8c3026c2550a09ba04", func := "flurry/flurrylaw12.AlarmOrder", spec := "alarmOrder", unfollowed := true, recurses := true, apart := false }
def AlarmOrderSaid : Prop := alarmOrderRow.holds Try.pinned (OpenSpec.ofChange alarmOrderSpec)

/-- ITS FALSE NEIGHBOUR: 'it returns false'. Refute it at one input. -/
def alarmOrderWrong : ChangeSpec := { name := "alarmOrder", fn := fun _ => fun
  | [d1, d2] => { results := [.lit (.bool false)], args := [d1, d2] }
  | _ => none }
def AlarmOrderWrongFalsely : Prop := alarmOrderRow.holds Try.pinned (OpenSpec.ofChange alarmOrderWrong)

/-- 'flurrylaw12.AlarmDue': WHATEVER THE INPUT: true; the input reads as it did. -/
def alarmDueSpec : ChangeSpec := { name := "alarmDue", fn := fun _ => fun
  | [d1, d2, d3] => { results := [.lit (.bool true)], args := [d1, d2, d3] }
  | _ => none }
def alarmDueRow : OpenClaim := { program := "ytggpmepiggnnnaa", sum := "2cb3ecf5c74836bfa71d2b23b4becff7322aa04316dece8c3026c2550a09ba04", func := "flurry/flurrylaw12.AlarmDue", spec := "alarmDue", unfollowed := true, recurses := true, apart := false }
def AlarmDueSaid : Prop := alarmDueRow.holds Try.pinned (OpenSpec.ofChange alarmDueSpec)

/-- ITS FALSE NEIGHBOUR: 'it returns false'. Refute it at one input. -/
def alarmDueWrong : ChangeSpec := { name := "alarmDue", fn := fun _ => fun
  | [d1, d2, d3] => { results := [.lit (.bool false)], args := [d1, d2, d3] }
  | _ => none }
def AlarmDueWrongFalsely : Prop := alarmDueRow.holds Try.pinned (OpenSpec.ofChange alarmDueWrong)

/-- 'flurrylaw12.AlarmKeeps': WHATEVER THE INPUT: true; the input reads as it did. -/
def alarmKeepsSpec : ChangeSpec := { name := "alarmKeeps", fn := fun _ => fun
  | [d] => { results := [.lit (.bool true)], args := [d] }
  | _ => none }
def alarmKeepsRow : OpenClaim := { program := "ytggpmepiggnnnaa", sum := "2cb3ecf5c74836bfa71d2b23b4becff7322aa04316dece8c3026c2550a09ba04", func := "flurry/flurrylaw12.AlarmKeeps", spec := "alarmKeeps", unfollowed := true, recurses := true, apart := false }
def AlarmKeepsSaid : Prop := alarmKeepsRow.holds Try.pinned (OpenSpec.ofChange alarmKeepsSpec)

/-- ITS FALSE NEIGHBOUR: 'it returns false'. Refute it at one input. -/
def alarmKeepsWrong : ChangeSpec := { name := "alarmKeeps", fn := fun _ => fun
  | [d] => { results := [.lit (.bool false)], args := [d] }
  | _ => none }
def AlarmKeepsWrongFalsely : Prop := alarmKeepsRow.holds Try.pinned (OpenSpec.ofChange alarmKeepsWrong)

/-- 'flurrylaw12.AlarmDoes': WHATEVER THE INPUT: true; the input reads as it did. -/
def alarmDoesSpec : ChangeSpec := { name := "alarmDoes", fn := fun _ => fun
  | [d] => { results := [.lit (.bool true)], args := [d] }
  | _ => none }
def alarmDoesRow : OpenClaim := { program := "ytggpmepiggnnnaa", sum := "2cb3ecf5c74836bfa71d2b23b4becff7322aa04316dece8c3026c2550a09ba04", func := "flurry/flurrylaw12.AlarmDoes", spec := "alarmDoes", inPlace := ["maps.clone"], unfollowed := true, recurses := true, apart := false }
def AlarmDoesSaid : Prop := alarmDoesRow.holds Try.pinned (OpenSpec.ofChange alarmDoesSpec)

/-- ITS FALSE NEIGHBOUR: 'it returns false'. Refute it at one input. -/
def alarmDoesWrong : ChangeSpec := { name := "alarmDoes", fn := fun _ => fun
  | [d] => { results := [.lit (.bool false)], args := [d] }
  | _ => none }
def AlarmDoesWrongFalsely : Prop := alarmDoesRow.holds Try.pinned (OpenSpec.ofChange alarmDoesWrong)

/-- 'flurrylaw12.AlarmNone': WHATEVER THE INPUT: true; the input reads as it did. -/
def alarmNoneSpec : ChangeSpec := { name := "alarmNone", fn := fun _ => fun
  | [d1, d2] => { results := [.lit (.bool true)], args := [d1, d2] }
  | _ => none }
def alarmNoneRow : OpenClaim := { program := "ytggpmepiggnnnaa", sum := "2cb3ecf5c74836bfa71d2b23b4becff7322aa04316dece8c3026c2550a09ba04", func := "flurry/flurrylaw12.AlarmNone", spec := "alarmNone", inPlace := ["maps.clone"], unfollowed := true, recurses := true, apart := false }
def AlarmNoneSaid : Prop := alarmNoneRow.holds Try.pinned (OpenSpec.ofChange alarmNoneSpec)

/-- ITS FALSE NEIGHBOUR: 'it returns false'. Refute it at one input. -/
def alarmNoneWrong : ChangeSpec := { name := "alarmNone", fn := fun _ => fun
  | [d1, d2] => { results := [.lit (.bool false)], args := [d1, d2] }
  | _ => none }
def AlarmNoneWrongFalsely : Prop := alarmNoneRow.holds Try.pinned (OpenSpec.ofChange alarmNoneWrong)

/- THE SECOND FORM. 'bulk': how many values and letters a reading holds, each counted each time it is reached (what is shared counts as often as it is met; a slice's spare places count too). A statement '..UptoSaid' is the law's where the arguments, and the package variables that the reading takes, are together of bulk at most 1048576: NARROWER than '..Said'. Prove '..Said' where nothing that the law and all that it calls make is longer than what came in: it says more and counts as full. Else prove '..UptoSaid'. A law counts once. -/
mutual
def uptoBulk {H : Type} : DataW H → Nat
  | .lit (.string bytes) => bytes.length + 1
  | .lit _ => 1
  | .nil => 1
  | .ptr d => uptoBulk d + 1
  | .slice elems spare => uptoBulkAll elems + uptoBulkAll spare + 1
  | .agg parts => uptoBulkAll parts + 1
  | .iface _ d => uptoBulk d + 1
  | .map entries => uptoBulkEntries entries + 1
  | .held _ => 1
def uptoBulkAll {H : Type} : List (DataW H) → Nat
  | [] => 0
  | d :: r => uptoBulk d + uptoBulkAll r
def uptoBulkEntries {H : Type} : List (Lit × DataW H) → Nat
  | [] => 0
  | x :: r => uptoBulkEntry x + uptoBulkEntries r
def uptoBulkEntry {H : Type} : Lit × DataW H → Nat
  | (.string bytes, d) => bytes.length + uptoBulk d + 1
  | (_, d) => uptoBulk d + 1
 end
def uptoSmall : (H : Type) → List (DataW H) → Bool := fun _ ds => decide (uptoBulkAll ds ≤ 1048576)
def OpenSpec.upto (s : _root_.Go.ChangeSpec) : _root_.Go.OpenSpec := { _root_.Go.OpenSpec.ofChange s with cond := some uptoSmall }

/-- 'flurrylaw12.AlarmFull', WHERE WHAT IT READS IS OF BULK AT MOST 1048576: true; the input reads as it did. -/
def alarmFullUptoRow : OpenClaim := { program := "ytggpmepiggnnnaa", sum := "2cb3ecf5c74836bfa71d2b23b4becff7322aa04316dece8c3026c2550a09ba04", func := "flurry/flurrylaw12.AlarmFull", spec := "alarmFull", unfollowed := true, recurses := true, apart := false, narrowed := true }
def AlarmFullUptoSaid : Prop := alarmFullUptoRow.holds Try.pinned (OpenSpec.upto alarmFullSpec)

/-- 'flurrylaw12.AlarmOrder', WHERE WHAT IT READS IS OF BULK AT MOST 1048576: true; the input reads as it did. -/
def alarmOrderUptoRow : OpenClaim := { program := "ytggpmepiggnnnaa", sum := "2cb3ecf5c74836bfa71d2b23b4becff7322aa04316dece8c3026c2550a09ba04", func := "flurry/flurrylaw12.AlarmOrder", spec := "alarmOrder", unfollowed := true, recurses := true, apart := false, narrowed := true }
def AlarmOrderUptoSaid : Prop := alarmOrderUptoRow.holds Try.pinned (OpenSpec.upto alarmOrderSpec)

/-- 'flurrylaw12.AlarmDue', WHERE WHAT IT READS IS OF BULK AT MOST 1048576: true; the input reads as it did. -/
def alarmDueUptoRow : OpenClaim := { program := "ytggpmepiggnnnaa", sum := "2cb3ecf5c74836bfa71d2b23b4becff7322aa04316dece8c3026c2550a09ba04", func := "flurry/flurrylaw12.AlarmDue", spec := "alarmDue", unfollowed := true, recurses := true, apart := false, narrowed := true }
def AlarmDueUptoSaid : Prop := alarmDueUptoRow.holds Try.pinned (OpenSpec.upto alarmDueSpec)

/-- 'flurrylaw12.AlarmKeeps', WHERE WHAT IT READS IS OF BULK AT MOST 1048576: true; the input reads as it did. -/
def alarmKeepsUptoRow : OpenClaim := { program := "ytggpmepiggnnnaa", sum := "2cb3ecf5c74836bfa71d2b23b4becff7322aa04316dece8c3026c2550a09ba04", func := "flurry/flurrylaw12.AlarmKeeps", spec := "alarmKeeps", unfollowed := true, recurses := true, apart := false, narrowed := true }
def AlarmKeepsUptoSaid : Prop := alarmKeepsUptoRow.holds Try.pinned (OpenSpec.upto alarmKeepsSpec)

/-- 'flurrylaw12.AlarmDoes', WHERE WHAT IT READS IS OF BULK AT MOST 1048576: true; the input reads as it did. -/
def alarmDoesUptoRow : OpenClaim := { program := "ytggpmepiggnnnaa", sum := "2cb3ecf5c74836bfa71d2b23b4becff7322aa04316dece8c3026c2550a09ba04", func := "flurry/flurrylaw12.AlarmDoes", spec := "alarmDoes", inPlace := ["maps.clone"], unfollowed := true, recurses := true, apart := false, narrowed := true }
def AlarmDoesUptoSaid : Prop := alarmDoesUptoRow.holds Try.pinned (OpenSpec.upto alarmDoesSpec)

/-- 'flurrylaw12.AlarmNone', WHERE WHAT IT READS IS OF BULK AT MOST 1048576: true; the input reads as it did. -/
def alarmNoneUptoRow : OpenClaim := { program := "ytggpmepiggnnnaa", sum := "2cb3ecf5c74836bfa71d2b23b4becff7322aa04316dece8c3026c2550a09ba04", func := "flurry/flurrylaw12.AlarmNone", spec := "alarmNone", inPlace := ["maps.clone"], unfollowed := true, recurses := true, apart := false, narrowed := true }
def AlarmNoneUptoSaid : Prop := alarmNoneUptoRow.holds Try.pinned (OpenSpec.upto alarmNoneSpec)

end Rows
end Go.Proofs.Ytggpmepiggnnnaa
