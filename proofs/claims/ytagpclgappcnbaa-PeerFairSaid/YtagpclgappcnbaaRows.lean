/-
  No cell of these rows narrows 'for every input' (looked for: loops, veiled, ifaces, maps, wideKeys, modest, calm, conditions, laid).
  DERIVED. THE GIVEN ROWS OF THIS SEAT. 4 by the template 'for every input the law returns true; each argument reads behind the call as it read before'; 0 by the template 'total and deterministic' (their statements: YtagpclgappcnbaaTotals.lean).
  GIVEN WITH THE SEED: the statements are not yours to turn. If you find one false, say at which input.
  Laid BY PROGRAM, IN A SANDBOX (cutbox-rows.mjs): the forced cells as the released guide's own fill.sh prints them over the translation 861cda9965d329e2… (all of the seat's roots in one cut). By AI agents, Wed Nov 11 2026. No macro, syntax, notation, axiom, sorry.
-/
import Derived.Test.YtagpclgappcnbaaChecked
import GoSem.Claim
import GoSem.ClaimJoined
import GoSem.ClaimMapViews
import Derived.JoinedTies
import Derived.KernelRfl
namespace Go.Proofs.Ytagpclgappcnbaa
/- THE CELL 'sum', in the pinned program and in every row, IS THE sha256 OF THE DUMP (.gsa) THAT YtagpclgappcnbaaProg.lean LOADS. Nothing in Lean hashes anything: it is a label: what it is worth is what the hold of that sum in a sandbox is worth. -/
noncomputable def Try.pinned : Pinned := { name := "ytagpclgappcnbaa", sum := "861cda9965d329e29eedd7723ae9c3ccad7fdbc7fabfa293604c7d74c149442e", checked := Try.checked }
namespace Rows
def none {H : Type} : Left H := { results := [], args := [] }

/-- 'flurrylaw20.PeerFair': WHATEVER THE INPUT: true; the input reads as it did. -/
def peerFairSpec : ChangeSpec := { name := "peerFair", fn := fun _ => fun
  | [d1, d2, d3] => { results := [.lit (.bool true)], args := [d1, d2, d3] }
  | _ => none }
def peerFairRow : OpenClaim := { program := "ytagpclgappcnbaa", sum := "861cda9965d329e29eedd7723ae9c3ccad7fdbc7fabfa293604c7d74c149442e", func := "flurry/flurrylaw20.PeerFair", spec := "peerFair", unfollowed := true, recurses := true, named := ["math/bits.divideError", "math/bits.overflowError"], apart := false }
def PeerFairSaid : Prop := peerFairRow.holds Try.pinned (OpenSpec.ofChange peerFairSpec)

/-- ITS FALSE NEIGHBOUR: 'it returns false'. Refute it at one input. -/
def peerFairWrong : ChangeSpec := { name := "peerFair", fn := fun _ => fun
  | [d1, d2, d3] => { results := [.lit (.bool false)], args := [d1, d2, d3] }
  | _ => none }
def PeerFairWrongFalsely : Prop := peerFairRow.holds Try.pinned (OpenSpec.ofChange peerFairWrong)

/-- 'flurrylaw20.PeerBounds': WHATEVER THE INPUT: true; the input reads as it did. -/
def peerBoundsSpec : ChangeSpec := { name := "peerBounds", fn := fun _ => fun
  | [d1, d2, d3, d4] => { results := [.lit (.bool true)], args := [d1, d2, d3, d4] }
  | _ => none }
def peerBoundsRow : OpenClaim := { program := "ytagpclgappcnbaa", sum := "861cda9965d329e29eedd7723ae9c3ccad7fdbc7fabfa293604c7d74c149442e", func := "flurry/flurrylaw20.PeerBounds", spec := "peerBounds", unfollowed := true, recurses := true, named := ["math/bits.divideError", "math/bits.overflowError"], apart := false }
def PeerBoundsSaid : Prop := peerBoundsRow.holds Try.pinned (OpenSpec.ofChange peerBoundsSpec)

/-- ITS FALSE NEIGHBOUR: 'it returns false'. Refute it at one input. -/
def peerBoundsWrong : ChangeSpec := { name := "peerBounds", fn := fun _ => fun
  | [d1, d2, d3, d4] => { results := [.lit (.bool false)], args := [d1, d2, d3, d4] }
  | _ => none }
def PeerBoundsWrongFalsely : Prop := peerBoundsRow.holds Try.pinned (OpenSpec.ofChange peerBoundsWrong)

/-- 'flurrylaw20.PeerEnds': WHATEVER THE INPUT: true; the input reads as it did. -/
def peerEndsSpec : ChangeSpec := { name := "peerEnds", fn := fun _ => fun
  | [d1, d2, d3] => { results := [.lit (.bool true)], args := [d1, d2, d3] }
  | _ => none }
def peerEndsRow : OpenClaim := { program := "ytagpclgappcnbaa", sum := "861cda9965d329e29eedd7723ae9c3ccad7fdbc7fabfa293604c7d74c149442e", func := "flurry/flurrylaw20.PeerEnds", spec := "peerEnds", unfollowed := true, recurses := true, named := ["math/bits.divideError", "math/bits.overflowError"], apart := false }
def PeerEndsSaid : Prop := peerEndsRow.holds Try.pinned (OpenSpec.ofChange peerEndsSpec)

/-- ITS FALSE NEIGHBOUR: 'it returns false'. Refute it at one input. -/
def peerEndsWrong : ChangeSpec := { name := "peerEnds", fn := fun _ => fun
  | [d1, d2, d3] => { results := [.lit (.bool false)], args := [d1, d2, d3] }
  | _ => none }
def PeerEndsWrongFalsely : Prop := peerEndsRow.holds Try.pinned (OpenSpec.ofChange peerEndsWrong)

/-- 'flurrylaw20.PeerNone': WHATEVER THE INPUT: true; the input reads as it did. -/
def peerNoneSpec : ChangeSpec := { name := "peerNone", fn := fun _ => fun
  | [d1, d2, d3, d4] => { results := [.lit (.bool true)], args := [d1, d2, d3, d4] }
  | _ => none }
def peerNoneRow : OpenClaim := { program := "ytagpclgappcnbaa", sum := "861cda9965d329e29eedd7723ae9c3ccad7fdbc7fabfa293604c7d74c149442e", func := "flurry/flurrylaw20.PeerNone", spec := "peerNone", inPlace := ["maps.clone"], unfollowed := true, recurses := true, named := ["math/bits.divideError", "math/bits.overflowError"], apart := false }
def PeerNoneSaid : Prop := peerNoneRow.holds Try.pinned (OpenSpec.ofChange peerNoneSpec)

/-- ITS FALSE NEIGHBOUR: 'it returns false'. Refute it at one input. -/
def peerNoneWrong : ChangeSpec := { name := "peerNone", fn := fun _ => fun
  | [d1, d2, d3, d4] => { results := [.lit (.bool false)], args := [d1, d2, d3, d4] }
  | _ => none }
def PeerNoneWrongFalsely : Prop := peerNoneRow.holds Try.pinned (OpenSpec.ofChange peerNoneWrong)

/- THE SECOND FORM. 'bulk': how many values and letters a reading holds, each counted each time it is reached (what is shared counts as often as it is met; a slice's spare places count too). A statement '..UptoSaid' is the law's where the arguments, and the package variables that the reading takes, are together of bulk at most 1048576: NARROWER than '..Said'. Prove '..Said' where nothing that the law and all that it calls make is longer than what came in: it says more and counts as full. Else prove '..UptoSaid'. A law counts once. -/
mutual
def uptoBulk {H : Type} : DataW H → Nat
  | .lit (.string bytes) => bytes.length + 1
  | .lit _ => 1
  | .nil => 1
  | .ptr d => uptoBulk d + 1
  | .slice elems spare => uptoBulkAll elems + uptoBulkAll spare + 1
  | .agg parts => uptoBulkAll parts + 1
  | .iface _ d => uptoBulk d + 1
  | .map entries => uptoBulkEntries entries + 1
  | .held _ => 1
def uptoBulkAll {H : Type} : List (DataW H) → Nat
  | [] => 0
  | d :: r => uptoBulk d + uptoBulkAll r
def uptoBulkEntries {H : Type} : List (Lit × DataW H) → Nat
  | [] => 0
  | x :: r => uptoBulkEntry x + uptoBulkEntries r
def uptoBulkEntry {H : Type} : Lit × DataW H → Nat
  | (.string bytes, d) => bytes.length + uptoBulk d + 1
  | (_, d) => uptoBulk d + 1
 end
def uptoSmall : (H : Type) → List (DataW H) → Bool := fun _ ds => decide (uptoBulkAll ds ≤ 1048576)
def OpenSpec.upto (s : _root_.Go.ChangeSpec) : _root_.Go.OpenSpec := { _root_.Go.OpenSpec.ofChange s with cond := some uptoSmall }

/-- 'flurrylaw20.PeerFair', WHERE WHAT IT READS IS OF BULK AT MOST 1048576: true; the input reads as it did. -/
def peerFairUptoRow : OpenClaim := { program := "ytagpclgappcnbaa", sum := "861cda9965d329e29eedd7723ae9c3ccad7fdbc7fabfa293604c7d74c149442e", func := "flurry/flurrylaw20.PeerFair", spec := "peerFair", unfollowed := true, recurses := true, named := ["math/bits.divideError", "math/bits.overflowError"], apart := false, narrowed := true }
def PeerFairUptoSaid : Prop := peerFairUptoRow.holds Try.pinned (OpenSpec.upto peerFairSpec)

/-- 'flurrylaw20.PeerBounds', WHERE WHAT IT READS IS OF BULK AT MOST 1048576: true; the input reads as it did. -/
def peerBoundsUptoRow : OpenClaim := { program := "ytagpclgappcnbaa", sum := "861cda9965d329e29eedd7723ae9c3ccad7fdbc7fabfa293604c7d74c149442e", func := "flurry/flurrylaw20.PeerBounds", spec := "peerBounds", unfollowed := true, recurses := true, named := ["math/bits.divideError", "math/bits.overflowError"], apart := false, narrowed := true }
def PeerBoundsUptoSaid : Prop := peerBoundsUptoRow.holds Try.pinned (OpenSpec.upto peerBoundsSpec)

/-- 'flurrylaw20.PeerEnds', WHERE WHAT IT READS IS OF BULK AT MOST 1048576: true; the input reads as it did. -/
def peerEndsUptoRow : OpenClaim := { program := "ytagpclgappcnbaa", sum := "861cda9965d329e29eedd7723ae9c3ccad7fdbc7fabfa293604c7d74c149442e", func := "flurry/flurrylaw20.PeerEnds", spec := "peerEnds", unfollowed := true, recurses := true, named := ["math/bits.divideError", "math/bits.overflowError"], apart := false, narrowed := true }
def PeerEndsUptoSaid : Prop := peerEndsUptoRow.holds Try.pinned (OpenSpec.upto peerEndsSpec)

/-- 'flurrylaw20.PeerNone', WHERE WHAT IT READS IS OF BULK AT MOST 1048576: true; the input reads as it did. -/
def peerNoneUptoRow : OpenClaim := { program := "ytagpclgappcnbaa", sum := "861cda9965d329e29eedd7723ae9c3ccad7fdbc7fabfa293604c7d74c149442e", func := "flurry/flurrylaw20.PeerNone", spec := "peerNone", inPlace := ["maps.clone"], unfollowed := true, recurses := true, named := ["math/bits.divideError", "math/bits.overflowError"], apart := false, narrowed := true }
def PeerNoneUptoSaid : Prop := peerNoneUptoRow.holds Try.pinned (OpenSpec.upto peerNoneSpec)

end Rows
end Go.Proofs.Ytagpclgappcnbaa
