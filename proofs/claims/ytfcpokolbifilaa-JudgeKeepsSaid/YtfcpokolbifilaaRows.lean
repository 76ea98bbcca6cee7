/-
  No cell of these rows narrows 'for every input' (looked for: loops, veiled, ifaces, maps, wideKeys, modest, calm, conditions, laid).
  DERIVED. THE GIVEN ROWS OF THIS SEAT. 4 by the template 'for every input the law returns true; each argument reads behind the call as it read before'; 0 by the template 'total and deterministic' (their statements: YtfcpokolbifilaaTotals.lean).
  GIVEN WITH THE SEED: the statements are not yours to turn. If you find one false, say at which input.
  Laid BY PROGRAM, IN A SANDBOX (cutbox-rows.mjs): the forced cells as the released guide's own fill.sh prints them over the translation 0d1dd8277b2080a6… (all of the seat's roots in one cut). By AI agents, Wed Nov 11 2026. No macro, syntax, notation, axiom, sorry.
-/
import Derived.Test.YtfcpokolbifilaaChecked
import GoSem.Claim
import GoSem.ClaimJoined
import GoSem.ClaimMapViews
import Derived.JoinedTies
import Derived.KernelRfl
namespace Go.Proofs.Ytfcpokolbifilaa
/- THE CELL 'sum', in the pinned program and in every row, IS THE sha256 OF THE DUMP (.gsa) THAT YtfcpokolbifilaaProg.lean LOADS. Nothing in Lean hashes anything: it is a label: what it is worth is what the hold of that sum in a sandbox is worth. -/
noncomputable def Try.pinned : Pinned := { name := "ytfcpokolbifilaa", sum := "0d1dd8277b2080a65df5397dd1cd914865db97ed1557c75c65007ffc5b8b1f92", checked := Try.checked }
namespace Rows
def none {H : Type} : Left H := { results := [], args := [] }

/-- 'wapentakelaw28.JudgeTells': WHATEVER THE INPUT: true; the input reads as it did. -/
def judgeTellsSpec : ChangeSpec := { name := "judgeTells", fn := fun _ => fun
  | [d] => { results := [.lit (.bool true)], args := [d] }
  | _ => none }
def judgeTellsRow : OpenClaim := { program := "ytfcpokolbifilaa", sum := "0d1dd8277b2080a65df5397dd1cd914865db97ed1557c75c65007ffc5b8b1f92", func := "wapentake/wapentakelaw28.JudgeTells", spec := "judgeTells", unfollowed := true, recurses := true, apart := false }
def JudgeTellsSaid : Prop := judgeTellsRow.holds Try.pinned (OpenSpec.ofChange judgeTellsSpec)

/-- ITS FALSE NEIGHBOUR: 'it returns false'. Refute it at one input. -/
def judgeTellsWrong : ChangeSpec := { name := "judgeTells", fn := fun _ => fun
  | [d] => { results := [.lit (.bool false)], args := [d] }
  | _ => none }
def JudgeTellsWrongFalsely : Prop := judgeTellsRow.holds Try.pinned (OpenSpec.ofChange judgeTellsWrong)

/-- 'wapentakelaw28.JudgeKnown': WHATEVER THE INPUT: true; the input reads as it did. -/
def judgeKnownSpec : ChangeSpec := { name := "judgeKnown", fn := fun _ => fun
  | [] => { results := [.lit (.bool true)], args := [] }
  | _ => none }
def judgeKnownRow : OpenClaim := { program := "ytfcpokolbifilaa", sum := "0d1dd8277b2080a65df5397dd1cd914865db97ed1557c75c65007ffc5b8b1f92", func := "wapentake/wapentakelaw28.JudgeKnown", spec := "judgeKnown", unfollowed := true, recurses := true, apart := false }
def JudgeKnownSaid : Prop := judgeKnownRow.holds Try.pinned (OpenSpec.ofChange judgeKnownSpec)

/-- ITS FALSE NEIGHBOUR: 'it returns false'. Refute it at one input. -/
def judgeKnownWrong : ChangeSpec := { name := "judgeKnown", fn := fun _ => fun
  | [] => { results := [.lit (.bool false)], args := [] }
  | _ => none }
def JudgeKnownWrongFalsely : Prop := judgeKnownRow.holds Try.pinned (OpenSpec.ofChange judgeKnownWrong)

/-- 'wapentakelaw28.JudgeKeeps': WHATEVER THE INPUT: true; the input reads as it did. -/
def judgeKeepsSpec : ChangeSpec := { name := "judgeKeeps", fn := fun _ => fun
  | [d] => { results := [.lit (.bool true)], args := [d] }
  | _ => none }
def judgeKeepsRow : OpenClaim := { program := "ytfcpokolbifilaa", sum := "0d1dd8277b2080a65df5397dd1cd914865db97ed1557c75c65007ffc5b8b1f92", func := "wapentake/wapentakelaw28.JudgeKeeps", spec := "judgeKeeps", unfollowed := true, recurses := true, apart := false }
def JudgeKeepsSaid : Prop := judgeKeepsRow.holds Try.pinned (OpenSpec.ofChange judgeKeepsSpec)

/-- ITS FALSE NEIGHBOUR: 'it returns false'. Refute it at one input. -/
def judgeKeepsWrong : ChangeSpec := { name := "judgeKeeps", fn := fun _ => fun
  | [d] => { results := [.lit (.bool false)], args := [d] }
  | _ => none }
def JudgeKeepsWrongFalsely : Prop := judgeKeepsRow.holds Try.pinned (OpenSpec.ofChange judgeKeepsWrong)

/-- 'wapentakelaw28.JudgeParts': WHATEVER THE INPUT: true; the input reads as it did. -/
def judgePartsSpec : ChangeSpec := { name := "judgeParts", fn := fun _ => fun
  | [d1, d2, d3] => { results := [.lit (.bool true)], args := [d1, d2, d3] }
  | _ => none }
def judgePartsRow : OpenClaim := { program := "ytfcpokolbifilaa", sum := "0d1dd8277b2080a65df5397dd1cd914865db97ed1557c75c65007ffc5b8b1f92", func := "wapentake/wapentakelaw28.JudgeParts", spec := "judgeParts", unfollowed := true, recurses := true, apart := false }
def JudgePartsSaid : Prop := judgePartsRow.holds Try.pinned (OpenSpec.ofChange judgePartsSpec)

/-- ITS FALSE NEIGHBOUR: 'it returns false'. Refute it at one input. -/
def judgePartsWrong : ChangeSpec := { name := "judgeParts", fn := fun _ => fun
  | [d1, d2, d3] => { results := [.lit (.bool false)], args := [d1, d2, d3] }
  | _ => none }
def JudgePartsWrongFalsely : Prop := judgePartsRow.holds Try.pinned (OpenSpec.ofChange judgePartsWrong)

/- THE SECOND FORM. 'bulk': how many values and letters a reading holds, each counted each time it is reached (what is shared counts as often as it is met; a slice's spare places count too). A statement '..UptoSaid' is the law's where the arguments, and the package variables that the reading takes, are together of bulk at most 1048576: NARROWER than '..Said'. Prove '..Said' where nothing that the law and all that it calls make is longer than what came in: it says more and counts as full. Else prove '..UptoSaid'. A law counts once. -/
mutual
def uptoBulk {H : Type} : DataW H → Nat
  | .lit (.string bytes) => bytes.length + 1
  | .lit _ => 1
  | .nil => 1
  | .ptr d => uptoBulk d + 1
  | .slice elems spare => uptoBulkAll elems + uptoBulkAll spare + 1
  | .agg parts => uptoBulkAll parts + 1
  | .iface _ d => uptoBulk d + 1
  | .map entries => uptoBulkEntries entries + 1
  | .held _ => 1
def uptoBulkAll {H : Type} : List (DataW H) → Nat
  | [] => 0
  | d :: r => uptoBulk d + uptoBulkAll r
def uptoBulkEntries {H : Type} : List (Lit × DataW H) → Nat
  | [] => 0
  | x :: r => uptoBulkEntry x + uptoBulkEntries r
def uptoBulkEntry {H : Type} : Lit × DataW H → Nat
  | (.string bytes, d) => bytes.length + uptoBulk d + 1
  | (_, d) => uptoBulk d + 1
 end
def uptoSmall : (H : Type) → List (DataW H) → Bool := fun _ ds => decide (uptoBulkAll ds ≤ 1048576)
def OpenSpec.upto (s : _root_.Go.ChangeSpec) : _root_.Go.OpenSpec := { _root_.Go.OpenSpec.ofChange s with cond := some uptoSmall }

/-- 'wapentakelaw28.JudgeTells', WHERE WHAT IT READS IS OF BULK AT MOST 1048576: true; the input reads as it did. -/
def judgeTellsUptoRow : OpenClaim := { program := "ytfcpokolbifilaa", sum := "0d1dd8277b2080a65df5397dd1cd914865db97ed1557c75c65007ffc5b8b1f92", func := "wapentake/wapentakelaw28.JudgeTells", spec := "judgeTells", unfollowed := true, recurses := true, apart := false, narrowed := true }
def JudgeTellsUptoSaid : Prop := judgeTellsUptoRow.holds Try.pinned (OpenSpec.upto judgeTellsSpec)

/-- 'wapentakelaw28.JudgeKnown', WHERE WHAT IT READS IS OF BULK AT MOST 1048576: true; the input reads as it did. -/
def judgeKnownUptoRow : OpenClaim := { program := "ytfcpokolbifilaa", sum := "0d1dd8277b2080a65df5397dd1cd914865db97ed1557c75c65007ffc5b8b1f92", func := "wapentake/wapentakelaw28.JudgeKnown", spec := "judgeKnown", unfollowed := true, recurses := true, apart := false, narrowed := true }
def JudgeKnownUptoSaid : Prop := judgeKnownUptoRow.holds Try.pinned (OpenSpec.upto judgeKnownSpec)

/-- 'wapentakelaw28.JudgeKeeps', WHERE WHAT IT READS IS OF BULK AT MOST 1048576: true; the input reads as it did. -/
def judgeKeepsUptoRow : OpenClaim := { program := "ytfcpokolbifilaa", sum := "0d1dd8277b2080a65df5397dd1cd914865db97ed1557c75c65007ffc5b8b1f92", func := "wapentake/wapentakelaw28.JudgeKeeps", spec := "judgeKeeps", unfollowed := true, recurses := true, apart := false, narrowed := true }
def JudgeKeepsUptoSaid : Prop := judgeKeepsUptoRow.holds Try.pinned (OpenSpec.upto judgeKeepsSpec)

/-- 'wapentakelaw28.JudgeParts', WHERE WHAT IT READS IS OF BULK AT MOST 1048576: true; the input reads as it did. -/
def judgePartsUptoRow : OpenClaim := { program := "ytfcpokolbifilaa", sum := "0d1dd8277b2080a65df5397dd1cd914865db97ed1557c75c65007ffc5b8b1f92", func := "wapentake/wapentakelaw28.JudgeParts", spec := "judgeParts", unfollowed := true, recurses := true, apart := false, narrowed := true }
def JudgePartsUptoSaid : Prop := judgePartsUptoRow.holds Try.pinned (OpenSpec.upto judgePartsSpec)

end Rows
end Go.Proofs.Ytfcpokolbifilaa
