/-
  No cell of these rows narrows 'for every input' (looked for: loops, veiled, ifaces, maps, wideKeys, modest, calm, conditions, laid).
  DERIVED. THE GIVEN ROWS OF THIS SEAT. 3 by the template 'for every input the law returns true; each argument reads behind the call as it read before'; 0 by the template 'total and deterministic' (their statements: YtmgpfmgmpmkkaaaGreatTotals.lean).
  GIVEN WITH THE SEED: the statements are not yours to turn. If you find one false, say at which input.
  Laid BY PROGRAM, IN A SANDBOX (cutbox-rows.mjs): the forced cells as the released guide's own fill.sh prints them over the translation 487b0a207329ff92… (all of the seat's roots in one cut). By AI agents, Wed Nov 11 2026. No macro, syntax, notation, axiom, sorry.
-/
import Derived.Test.YtmgpfmgmpmkkaaaGreatChecked
import GoSem.Claim
import GoSem.ClaimJoined
import GoSem.ClaimMapViews
import Derived.JoinedTies
import Derived.KernelRfl
namespace Go.Proofs.YtmgpfmgmpmkkaaaGreat
/- THE CELL 'sum', in the pinned program and in every row, IS THE sha256 OF THE DUMP (.gsa) THAT YtmgpfmgmpmkkaaaGreatProg.lean LOADS. Nothing in Lean hashes anything: it is a label: what it is worth is what the hold of that sum in a sandbox is worth. -/
noncomputable def Tryz.pinned : Pinned := { name := "ytmgpfmgmpmkkaaagreat", sum := "487b0a207329ff9274dc843d0f761c6dfbb4215737ea58e465ff0ee734e2d941", checked := Tryz.checked }
namespace Rows
def none {H : Type} : Left H := { results := [], args := [] }

/-- 'flurrylaw21.FrontGoes': WHATEVER THE INPUT: true; the input reads as it did. -/
def frontGoesSpec : ChangeSpec := { name := "frontGoes", fn := fun _ => fun
  | [d1, d2, d3, d4] => { results := [.lit (.bool true)], args := [d1, d2, d3, d4] }
  | _ => none }
def frontGoesRow : OpenClaim := { program := "ytmgpfmgmpmkkaaagreat", sum := "487b0a207329ff9274dc843d0f761c6dfbb4215737ea58e465ff0ee734e2d941", func := "flurry/flurrylaw21.FrontGoes", spec := "frontGoes", inPlace := ["internal/bytealg.Compare"], unfollowed := true, recurses := true, plainKeys := false, apart := false }
def FrontGoesSaid : Prop := frontGoesRow.holds Tryz.pinned (OpenSpec.ofChange frontGoesSpec)

/-- ITS FALSE NEIGHBOUR: 'it returns false'. Refute it at one input. -/
def frontGoesWrong : ChangeSpec := { name := "frontGoes", fn := fun _ => fun
  | [d1, d2, d3, d4] => { results := [.lit (.bool false)], args := [d1, d2, d3, d4] }
  | _ => none }
def FrontGoesWrongFalsely : Prop := frontGoesRow.holds Tryz.pinned (OpenSpec.ofChange frontGoesWrong)

/-- 'flurrylaw21.FrontIs': WHATEVER THE INPUT: true; the input reads as it did. -/
def frontIsSpec : ChangeSpec := { name := "frontIs", fn := fun _ => fun
  | [d1, d2, d3, d4] => { results := [.lit (.bool true)], args := [d1, d2, d3, d4] }
  | _ => none }
def frontIsRow : OpenClaim := { program := "ytmgpfmgmpmkkaaagreat", sum := "487b0a207329ff9274dc843d0f761c6dfbb4215737ea58e465ff0ee734e2d941", func := "flurry/flurrylaw21.FrontIs", spec := "frontIs", inPlace := ["internal/bytealg.Compare"], unfollowed := true, recurses := true, plainKeys := false, apart := false }
def FrontIsSaid : Prop := frontIsRow.holds Tryz.pinned (OpenSpec.ofChange frontIsSpec)

/-- ITS FALSE NEIGHBOUR: 'it returns false'. Refute it at one input. -/
def frontIsWrong : ChangeSpec := { name := "frontIs", fn := fun _ => fun
  | [d1, d2, d3, d4] => { results := [.lit (.bool false)], args := [d1, d2, d3, d4] }
  | _ => none }
def FrontIsWrongFalsely : Prop := frontIsRow.holds Tryz.pinned (OpenSpec.ofChange frontIsWrong)

/-- 'flurrylaw21.FrontStake': WHATEVER THE INPUT: true; the input reads as it did. -/
def frontStakeSpec : ChangeSpec := { name := "frontStake", fn := fun _ => fun
  | [d1, d2, d3, d4] => { results := [.lit (.bool true)], args := [d1, d2, d3, d4] }
  | _ => none }
def frontStakeRow : OpenClaim := { program := "ytmgpfmgmpmkkaaagreat", sum := "487b0a207329ff9274dc843d0f761c6dfbb4215737ea58e465ff0ee734e2d941", func := "flurry/flurrylaw21.FrontStake", spec := "frontStake", inPlace := ["internal/bytealg.Compare"], unfollowed := true, recurses := true, plainKeys := false, apart := false }
def FrontStakeSaid : Prop := frontStakeRow.holds Tryz.pinned (OpenSpec.ofChange frontStakeSpec)

/-- ITS FALSE NEIGHBOUR: 'it returns false'. Refute it at one input. -/
def frontStakeWrong : ChangeSpec := { name := "frontStake", fn := fun _ => fun
  | [d1, d2, d3, d4] => { results := [.lit (.bool false)], args := [d1, d2, d3, d4] }
  | _ => none }
def FrontStakeWrongFalsely : Prop := frontStakeRow.holds Tryz.pinned (OpenSpec.ofChange frontStakeWrong)

/- THE SECOND FORM. 'bulk': how many values and letters a reading holds, each counted each time it is reached (what is shared counts as often as it is met; a slice's spare places count too). A statement '..UptoSaid' is the law's where the arguments, and the package variables that the reading takes, are together of bulk at most 1048576: NARROWER than '..Said'. Prove '..Said' where nothing that the law and all that it calls make is longer than what came in: it says more and counts as full. Else prove '..UptoSaid'. A law counts once. -/
mutual
def uptoBulk {H : Type} : DataW H → Nat
  | .lit (.string bytes) => bytes.length + 1
  | .lit _ => 1
  | .nil => 1
  | .ptr d => uptoBulk d + 1
  | .slice elems spare => uptoBulkAll elems + uptoBulkAll spare + 1
  | .agg parts => uptoBulkAll parts + 1
  | .iface _ d => uptoBulk d + 1
  | .map entries => uptoBulkEntries entries + 1
  | .held _ => 1
def uptoBulkAll {H : Type} : List (DataW H) → Nat
  | [] => 0
  | d :: r => uptoBulk d + uptoBulkAll r
def uptoBulkEntries {H : Type} : List (Lit × DataW H) → Nat
  | [] => 0
  | x :: r => uptoBulkEntry x + uptoBulkEntries r
def uptoBulkEntry {H : Type} : Lit × DataW H → Nat
  | (.string bytes, d) => bytes.length + uptoBulk d + 1
  | (_, d) => uptoBulk d + 1
 end
def uptoSmall : (H : Type) → List (DataW H) → Bool := fun _ ds => decide (uptoBulkAll ds ≤ 1048576)
def OpenSpec.upto (s : _root_.Go.ChangeSpec) : _root_.Go.OpenSpec := { _root_.Go.OpenSpec.ofChange s with cond := some uptoSmall }

/-- 'flurrylaw21.FrontGoes', WHERE WHAT IT READS IS OF BULK AT MOST 1048576: true; the input reads as it did. -/
def frontGoesUptoRow : OpenClaim := { program := "ytmgpfmgmpmkkaaagreat", sum := "487b0a207329ff9274dc843d0f761c6dfbb4215737ea58e465ff0ee734e2d941", func := "flurry/flurrylaw21.FrontGoes", spec := "frontGoes", inPlace := ["internal/bytealg.Compare"], unfollowed := true, recurses := true, plainKeys := false, apart := false, narrowed := true }
def FrontGoesUptoSaid : Prop := frontGoesUptoRow.holds Tryz.pinned (OpenSpec.upto frontGoesSpec)

/-- 'flurrylaw21.FrontIs', WHERE WHAT IT READS IS OF BULK AT MOST 1048576: true; the input reads as it did. -/
def frontIsUptoRow : OpenClaim := { program := "ytmgpfmgmpmkkaaagreat", sum := "487b0a207329ff9274dc843d0f761c6dfbb4215737ea58e465ff0ee734e2d941", func := "flurry/flurrylaw21.FrontIs", spec := "frontIs", inPlace := ["internal/bytealg.Compare"], unfollowed := true, recurses := true, plainKeys := false, apart := false, narrowed := true }
def FrontIsUptoSaid : Prop := frontIsUptoRow.holds Tryz.pinned (OpenSpec.upto frontIsSpec)

/-- 'flurrylaw21.FrontStake', WHERE WHAT IT READS IS OF BULK AT MOST 1048576: true; the input reads as it did. -/
def frontStakeUptoRow : OpenClaim := { program := "ytmgpfmgmpmkkaaagreat", sum := "487b0a207329ff9274dc843d0f761c6dfbb4215737ea58e465ff0ee734e2d941", func := "flurry/flurrylaw21.FrontStake", spec := "frontStake", inPlace := ["internal/bytealg.Compare"], unfollowed := true, recurses := true, plainKeys := false, apart := false, narrowed := true }
def FrontStakeUptoSaid : Prop := frontStakeUptoRow.holds Tryz.pinned (OpenSpec.upto frontStakeSpec)

end Rows
end Go.Proofs.YtmgpfmgmpmkkaaaGreat
