/-
  No cell of these rows narrows 'for every input' (looked for: loops, veiled, ifaces, maps, wideKeys, modest, calm, conditions, laid).
  DERIVED. THE GIVEN ROWS OF THIS SEAT. 7 by the template 'for every input the law returns true; each argument reads behind the call as it read before'; 0 by the template 'total and deterministic' (their statements: YtmenfbfekfljbaaTotals.lean).
  GIVEN WITH THE SEED: the statements are not yours to turn. If you find one false, say at which input.
  Laid BY PROGRAM, IN A SANDBOX (cutbox-rows.mjs): the forced cells as the released guide's own fill.sh prints them over the translation f92b2659cd541a4c… (all of the seat's roots in one cut). By AI agents, Wed Nov 11 2026. No macro, syntax, notation, axiom, sorry.
-/
import Derived.Test.YtmenfbfekfljbaaChecked
import GoSem.Claim
import GoSem.ClaimJoined
import GoSem.ClaimMapViews
import Derived.JoinedTies
import Derived.KernelRfl
namespace Go.Proofs.Ytmenfbfekfljbaa
/- THE CELL 'sum', in the pinned program and in every row, IS THE sha256 OF THE DUMP (.gsa) THAT YtmenfbfekfljbaaProg.lean LOADS. Nothing in Lean hashes anything: it is a label: what it is worth is what the hold of that sum in a sandbox is worth. -/
noncomputable def Try.pinned : Pinned := { name := "ytmenfbfekfljbaa", sum := "f92b2659cd541a4c0551084fd236ff394b4778c421057a18926f76e0df78c7ea", checked := Try.checked }
namespace Rows
def none {H : Type} : Left H := { results := [], args := [] }

/-- 'flurrylaw26.JudgeLines': WHATEVER THE INPUT: true; the input reads as it did. -/
def judgeLinesSpec : ChangeSpec := { name := "judgeLines", fn := fun _ => fun
  | [d1, d2] => { results := [.lit (.bool true)], args := [d1, d2] }
  | _ => none }
def judgeLinesRow : OpenClaim := { program := "ytmenfbfekfljbaa", sum := "f92b2659cd541a4c0551084fd236ff394b4778c421057a18926f76e0df78c7ea", func := "flurry/flurrylaw26.JudgeLines", spec := "judgeLines", unfollowed := true, recurses := true, plainKeys := false, apart := false }
def JudgeLinesSaid : Prop := judgeLinesRow.holds Try.pinned (OpenSpec.ofChange judgeLinesSpec)

/-- ITS FALSE NEIGHBOUR: 'it returns false'. Refute it at one input. -/
def judgeLinesWrong : ChangeSpec := { name := "judgeLines", fn := fun _ => fun
  | [d1, d2] => { results := [.lit (.bool false)], args := [d1, d2] }
  | _ => none }
def JudgeLinesWrongFalsely : Prop := judgeLinesRow.holds Try.pinned (OpenSpec.ofChange judgeLinesWrong)

/-- 'flurrylaw26.JudgeOrder': WHATEVER THE INPUT: true; the input reads as it did. -/
def judgeOrderSpec : ChangeSpec := { name := "judgeOrder", fn := fun _ => fun
  | [d1, d2, d3, d4] => { results := [.lit (.bool true)], args := [d1, d2, d3, d4] }
  | _ => none }
def judgeOrderRow : OpenClaim := { program := "ytmenfbfekfljbaa", sum := "f92b2659cd541a4c0551084fd236ff394b4778c421057a18926f76e0df78c7ea", func := "flurry/flurrylaw26.JudgeOrder", spec := "judgeOrder", unfollowed := true, recurses := true, plainKeys := false, apart := false }
def JudgeOrderSaid : Prop := judgeOrderRow.holds Try.pinned (OpenSpec.ofChange judgeOrderSpec)

/-- ITS FALSE NEIGHBOUR: 'it returns false'. Refute it at one input. -/
def judgeOrderWrong : ChangeSpec := { name := "judgeOrder", fn := fun _ => fun
  | [d1, d2, d3, d4] => { results := [.lit (.bool false)], args := [d1, d2, d3, d4] }
  | _ => none }
def JudgeOrderWrongFalsely : Prop := judgeOrderRow.holds Try.pinned (OpenSpec.ofChange judgeOrderWrong)

/-- 'flurrylaw26.JudgeTree': WHATEVER THE INPUT: true; the input reads as it did. -/
def judgeTreeSpec : ChangeSpec := { name := "judgeTree", fn := fun _ => fun
  | [d1, d2, d3] => { results := [.lit (.bool true)], args := [d1, d2, d3] }
  | _ => none }
def judgeTreeRow : OpenClaim := { program := "ytmenfbfekfljbaa", sum := "f92b2659cd541a4c0551084fd236ff394b4778c421057a18926f76e0df78c7ea", func := "flurry/flurrylaw26.JudgeTree", spec := "judgeTree", unfollowed := true, recurses := true, plainKeys := false, apart := false }
def JudgeTreeSaid : Prop := judgeTreeRow.holds Try.pinned (OpenSpec.ofChange judgeTreeSpec)

/-- ITS FALSE NEIGHBOUR: 'it returns false'. Refute it at one input. -/
def judgeTreeWrong : ChangeSpec := { name := "judgeTree", fn := fun _ => fun
  | [d1, d2, d3] => { results := [.lit (.bool false)], args := [d1, d2, d3] }
  | _ => none }
def JudgeTreeWrongFalsely : Prop := judgeTreeRow.holds Try.pinned (OpenSpec.ofChange judgeTreeWrong)

/-- 'flurrylaw26.JudgeOne': WHATEVER THE INPUT: true; the input reads as it did. -/
def judgeOneSpec : ChangeSpec := { name := "judgeOne", fn := fun _ => fun
  | [d] => { results := [.lit (.bool true)], args := [d] }
  | _ => none }
def judgeOneRow : OpenClaim := { program := "ytmenfbfekfljbaa", sum := "f92b2659cd541a4c0551084fd236ff394b4778c421057a18926f76e0df78c7ea", func := "flurry/flurrylaw26.JudgeOne", spec := "judgeOne", unfollowed := true, recurses := true, plainKeys := false, apart := false }
def JudgeOneSaid : Prop := judgeOneRow.holds Try.pinned (OpenSpec.ofChange judgeOneSpec)

/-- ITS FALSE NEIGHBOUR: 'it returns false'. Refute it at one input. -/
def judgeOneWrong : ChangeSpec := { name := "judgeOne", fn := fun _ => fun
  | [d] => { results := [.lit (.bool false)], args := [d] }
  | _ => none }
def JudgeOneWrongFalsely : Prop := judgeOneRow.holds Try.pinned (OpenSpec.ofChange judgeOneWrong)

/-- 'flurrylaw26.JudgeLater': WHATEVER THE INPUT: true; the input reads as it did. -/
def judgeLaterSpec : ChangeSpec := { name := "judgeLater", fn := fun _ => fun
  | [d1, d2, d3, d4, d5] => { results := [.lit (.bool true)], args := [d1, d2, d3, d4, d5] }
  | _ => none }
def judgeLaterRow : OpenClaim := { program := "ytmenfbfekfljbaa", sum := "f92b2659cd541a4c0551084fd236ff394b4778c421057a18926f76e0df78c7ea", func := "flurry/flurrylaw26.JudgeLater", spec := "judgeLater", unfollowed := true, recurses := true, plainKeys := false, apart := false }
def JudgeLaterSaid : Prop := judgeLaterRow.holds Try.pinned (OpenSpec.ofChange judgeLaterSpec)

/-- ITS FALSE NEIGHBOUR: 'it returns false'. Refute it at one input. -/
def judgeLaterWrong : ChangeSpec := { name := "judgeLater", fn := fun _ => fun
  | [d1, d2, d3, d4, d5] => { results := [.lit (.bool false)], args := [d1, d2, d3, d4, d5] }
  | _ => none }
def JudgeLaterWrongFalsely : Prop := judgeLaterRow.holds Try.pinned (OpenSpec.ofChange judgeLaterWrong)

/-- 'flurrylaw26.JudgeVoters': WHATEVER THE INPUT: true; the input reads as it did. -/
def judgeVotersSpec : ChangeSpec := { name := "judgeVoters", fn := fun _ => fun
  | [d1, d2] => { results := [.lit (.bool true)], args := [d1, d2] }
  | _ => none }
def judgeVotersRow : OpenClaim := { program := "ytmenfbfekfljbaa", sum := "f92b2659cd541a4c0551084fd236ff394b4778c421057a18926f76e0df78c7ea", func := "flurry/flurrylaw26.JudgeVoters", spec := "judgeVoters", unfollowed := true, recurses := true, plainKeys := false, apart := false }
def JudgeVotersSaid : Prop := judgeVotersRow.holds Try.pinned (OpenSpec.ofChange judgeVotersSpec)

/-- ITS FALSE NEIGHBOUR: 'it returns false'. Refute it at one input. -/
def judgeVotersWrong : ChangeSpec := { name := "judgeVoters", fn := fun _ => fun
  | [d1, d2] => { results := [.lit (.bool false)], args := [d1, d2] }
  | _ => none }
def JudgeVotersWrongFalsely : Prop := judgeVotersRow.holds Try.pinned (OpenSpec.ofChange judgeVotersWrong)

/-- 'flurrylaw26.JudgeGrows': WHATEVER THE INPUT: true; the input reads as it did. -/
def judgeGrowsSpec : ChangeSpec := { name := "judgeGrows", fn := fun _ => fun
  | [d1, d2, d3, d4, d5, d6] => { results := [.lit (.bool true)], args := [d1, d2, d3, d4, d5, d6] }
  | _ => none }
def judgeGrowsRow : OpenClaim := { program := "ytmenfbfekfljbaa", sum := "f92b2659cd541a4c0551084fd236ff394b4778c421057a18926f76e0df78c7ea", func := "flurry/flurrylaw26.JudgeGrows", spec := "judgeGrows", unfollowed := true, recurses := true, plainKeys := false, apart := false }
def JudgeGrowsSaid : Prop := judgeGrowsRow.holds Try.pinned (OpenSpec.ofChange judgeGrowsSpec)

/-- ITS FALSE NEIGHBOUR: 'it returns false'. Refute it at one input. -/
def judgeGrowsWrong : ChangeSpec := { name := "judgeGrows", fn := fun _ => fun
  | [d1, d2, d3, d4, d5, d6] => { results := [.lit (.bool false)], args := [d1, d2, d3, d4, d5, d6] }
  | _ => none }
def JudgeGrowsWrongFalsely : Prop := judgeGrowsRow.holds Try.pinned (OpenSpec.ofChange judgeGrowsWrong)

/- THE SECOND FORM. 'bulk': how many values and letters a reading holds, each counted each time it is reached (what is shared counts as often as it is met; a slice's spare places count too). A statement '..UptoSaid' is the law's where the arguments, and the package variables that the reading takes, are together of bulk at most 1048576: NARROWER than '..Said'. Prove '..Said' where nothing that the law and all that it calls make is longer than what came in: it says more and counts as full. Else prove '..UptoSaid'. A law counts once. -/
mutual
def uptoBulk {H : Type} : DataW H → Nat
  | .lit (.string bytes) => bytes.length + 1
  | .lit _ => 1
  | .nil => 1
  | .ptr d => uptoBulk d + 1
  | .slice elems spare => uptoBulkAll elems + uptoBulkAll spare + 1
  | .agg parts => uptoBulkAll parts + 1
  | .iface _ d => uptoBulk d + 1
  | .map entries => uptoBulkEntries entries + 1
  | .held _ => 1
def uptoBulkAll {H : Type} : List (DataW H) → Nat
  | [] => 0
  | d :: r => uptoBulk d + uptoBulkAll r
def uptoBulkEntries {H : Type} : List (Lit × DataW H) → Nat
  | [] => 0
  | x :: r => uptoBulkEntry x + uptoBulkEntries r
def uptoBulkEntry {H : Type} : Lit × DataW H → Nat
  | (.string bytes, d) => bytes.length + uptoBulk d + 1
  | (_, d) => uptoBulk d + 1
 end
def uptoSmall : (H : Type) → List (DataW H) → Bool := fun _ ds => decide (uptoBulkAll ds ≤ 1048576)
def OpenSpec.upto (s : _root_.Go.ChangeSpec) : _root_.Go.OpenSpec := { _root_.Go.OpenSpec.ofChange s with cond := some uptoSmall }

/-- 'flurrylaw26.JudgeLines', WHERE WHAT IT READS IS OF BULK AT MOST 1048576: true; the input reads as it did. -/
def judgeLinesUptoRow : OpenClaim := { program := "ytmenfbfekfljbaa", sum := "f92b2659cd541a4c0551084fd236ff394b4778c421057a18926f76e0df78c7ea", func := "flurry/flurrylaw26.JudgeLines", spec := "judgeLines", unfollowed := true, recurses := true, plainKeys := false, apart := false, narrowed := true }
def JudgeLinesUptoSaid : Prop := judgeLinesUptoRow.holds Try.pinned (OpenSpec.upto judgeLinesSpec)

/-- 'flurrylaw26.JudgeOrder', WHERE WHAT IT READS IS OF BULK AT MOST 1048576: true; the input reads as it did. -/
def judgeOrderUptoRow : OpenClaim := { program := "ytmenfbfekfljbaa", sum := "f92b2659cd541a4c0551084fd236ff394b4778c421057a18926f76e0df78c7ea", func := "flurry/flurrylaw26.JudgeOrder", spec := "judgeOrder", unfollowed := true, recurses := true, plainKeys := false, apart := false, narrowed := true }
def JudgeOrderUptoSaid : Prop := judgeOrderUptoRow.holds Try.pinned (OpenSpec.upto judgeOrderSpec)

/-- 'flurrylaw26.JudgeTree', WHERE WHAT IT READS IS OF BULK AT MOST 1048576: true; the input reads as it did. -/
def judgeTreeUptoRow : OpenClaim := { program := "ytmenfbfekfljbaa", sum := "f92b2659cd541a4c0551084fd236ff394b4778c421057a18926f76e0df78c7ea", func := "flurry/flurrylaw26.JudgeTree", spec := "judgeTree", unfollowed := true, recurses := true, plainKeys := false, apart := false, narrowed := true }
def JudgeTreeUptoSaid : Prop := judgeTreeUptoRow.holds Try.pinned (OpenSpec.upto judgeTreeSpec)

/-- 'flurrylaw26.JudgeOne', WHERE WHAT IT READS IS OF BULK AT MOST 1048576: true; the input reads as it did. -/
def judgeOneUptoRow : OpenClaim := { program := "ytmenfbfekfljbaa", sum := "f92b2659cd541a4c0551084fd236ff394b4778c421057a18926f76e0df78c7ea", func := "flurry/flurrylaw26.JudgeOne", spec := "judgeOne", unfollowed := true, recurses := true, plainKeys := false, apart := false, narrowed := true }
def JudgeOneUptoSaid : Prop := judgeOneUptoRow.holds Try.pinned (OpenSpec.upto judgeOneSpec)

/-- 'flurrylaw26.JudgeLater', WHERE WHAT IT READS IS OF BULK AT MOST 1048576: true; the input reads as it did. -/
def judgeLaterUptoRow : OpenClaim := { program := "ytmenfbfekfljbaa", sum := "f92b2659cd541a4c0551084fd236ff394b4778c421057a18926f76e0df78c7ea", func := "flurry/flurrylaw26.JudgeLater", spec := "judgeLater", unfollowed := true, recurses := true, plainKeys := false, apart := false, narrowed := true }
def JudgeLaterUptoSaid : Prop := judgeLaterUptoRow.holds Try.pinned (OpenSpec.upto judgeLaterSpec)

/-- 'flurrylaw26.JudgeVoters', WHERE WHAT IT READS IS OF BULK AT MOST 1048576: true; the input reads as it did. -/
def judgeVotersUptoRow : OpenClaim := { program := "ytmenfbfekfljbaa", sum := "f92b2659cd541a4c0551084fd236ff394b4778c421057a18926f76e0df78c7ea", func := "flurry/flurrylaw26.JudgeVoters", spec := "judgeVoters", unfollowed := true, recurses := true, plainKeys := false, apart := false, narrowed := true }
def JudgeVotersUptoSaid : Prop := judgeVotersUptoRow.holds Try.pinned (OpenSpec.upto judgeVotersSpec)

/-- 'flurrylaw26.JudgeGrows', WHERE WHAT IT READS IS OF BULK AT MOST 1048576: true; the input reads as it did. -/
def judgeGrowsUptoRow : OpenClaim := { program := "ytmenfbfekfljbaa", sum := "f92b2659cd541a4c0551084fd236ff394b4778c421057a18926f76e0df78c7ea", func := "flurry/flurrylaw26.JudgeGrows", spec := "judgeGrows", unfollowed := true, recurses := true, plainKeys := false, apart := false, narrowed := true }
def JudgeGrowsUptoSaid : Prop := judgeGrowsUptoRow.holds Try.pinned (OpenSpec.upto judgeGrowsSpec)

end Rows
end Go.Proofs.Ytmenfbfekfljbaa
