/-
  No cell of these rows narrows 'for every input' (looked for: loops, veiled, ifaces, maps, wideKeys, modest, calm, conditions, laid).
  DERIVED. THE GIVEN ROWS OF THIS SEAT. 6 by the template 'for every input the law returns true; each argument reads behind the call as it read before'; 0 by the template 'total and deterministic' (their statements: YtfpeacjodgdndaaTotals.lean).
  GIVEN WITH THE SEED: the statements are not yours to turn. If you find one false, say at which input.
  Laid BY PROGRAM, IN A SANDBOX (cutbox-rows.mjs): the forced cells as the released guide's own fill.sh prints them over the translation 556e1fcb54da3db0… (all of the seat's roots in one cut). By AI agents, Wed Nov 11 2026. No macro, syntax, notation, axiom, sorry.
-/
import Derived.Test.YtfpeacjodgdndaaChecked
import GoSem.Claim
import GoSem.ClaimJoined
import GoSem.ClaimMapViews
import Derived.JoinedTies
import Derived.KernelRfl
namespace Go.Proofs.Ytfpeacjodgdndaa
/- THE CELL 'sum', in the pinned program and in every row, IS THE sha256 OF THE DUMP (.gsa) THAT YtfpeacjodgdndaaProg.lean LOADS. Nothing in Lean hashes anything: it is a label: what it is worth is what the hold of that sum in a sandbox is worth. -/
noncomputable def Try.pinned : Pinned := { name := "ytfpeacjodgdndaa", sum := "556e1fcb54da3db00308df9ea6b9b740afe86902780814d0fb3935e02dfbb7a4", checked := Try.checked }
namespace Rows
def none {H : Type} : Left H := { results := [], args := [] }

/-- 'wapentakelaw17.BucketPlays': WHATEVER THE INPUT: true; the input reads as it did. -/
def bucketPlaysSpec : ChangeSpec := { name := "bucketPlays", fn := fun _ => fun
  | [d1, d2, d3, d4] => { results := [.lit (.bool true)], args := [d1, d2, d3, d4] }
  | _ => none }
def bucketPlaysRow : OpenClaim := { program := "ytfpeacjodgdndaa", sum := "556e1fcb54da3db00308df9ea6b9b740afe86902780814d0fb3935e02dfbb7a4", func := "wapentake/wapentakelaw17.BucketPlays", spec := "bucketPlays", apart := false }
def BucketPlaysSaid : Prop := bucketPlaysRow.holds Try.pinned (OpenSpec.ofChange bucketPlaysSpec)

/-- ITS FALSE NEIGHBOUR: 'it returns false'. Refute it at one input. -/
def bucketPlaysWrong : ChangeSpec := { name := "bucketPlays", fn := fun _ => fun
  | [d1, d2, d3, d4] => { results := [.lit (.bool false)], args := [d1, d2, d3, d4] }
  | _ => none }
def BucketPlaysWrongFalsely : Prop := bucketPlaysRow.holds Try.pinned (OpenSpec.ofChange bucketPlaysWrong)

/-- 'wapentakelaw17.BucketWindow': WHATEVER THE INPUT: true; the input reads as it did. -/
def bucketWindowSpec : ChangeSpec := { name := "bucketWindow", fn := fun _ => fun
  | [d1, d2, d3] => { results := [.lit (.bool true)], args := [d1, d2, d3] }
  | _ => none }
def bucketWindowRow : OpenClaim := { program := "ytfpeacjodgdndaa", sum := "556e1fcb54da3db00308df9ea6b9b740afe86902780814d0fb3935e02dfbb7a4", func := "wapentake/wapentakelaw17.BucketWindow", spec := "bucketWindow", apart := false }
def BucketWindowSaid : Prop := bucketWindowRow.holds Try.pinned (OpenSpec.ofChange bucketWindowSpec)

/-- ITS FALSE NEIGHBOUR: 'it returns false'. Refute it at one input. -/
def bucketWindowWrong : ChangeSpec := { name := "bucketWindow", fn := fun _ => fun
  | [d1, d2, d3] => { results := [.lit (.bool false)], args := [d1, d2, d3] }
  | _ => none }
def BucketWindowWrongFalsely : Prop := bucketWindowRow.holds Try.pinned (OpenSpec.ofChange bucketWindowWrong)

/-- 'wapentakelaw17.BucketGives': WHATEVER THE INPUT: true; the input reads as it did. -/
def bucketGivesSpec : ChangeSpec := { name := "bucketGives", fn := fun _ => fun
  | [d1, d2, d3] => { results := [.lit (.bool true)], args := [d1, d2, d3] }
  | _ => none }
def bucketGivesRow : OpenClaim := { program := "ytfpeacjodgdndaa", sum := "556e1fcb54da3db00308df9ea6b9b740afe86902780814d0fb3935e02dfbb7a4", func := "wapentake/wapentakelaw17.BucketGives", spec := "bucketGives", apart := false }
def BucketGivesSaid : Prop := bucketGivesRow.holds Try.pinned (OpenSpec.ofChange bucketGivesSpec)

/-- ITS FALSE NEIGHBOUR: 'it returns false'. Refute it at one input. -/
def bucketGivesWrong : ChangeSpec := { name := "bucketGives", fn := fun _ => fun
  | [d1, d2, d3] => { results := [.lit (.bool false)], args := [d1, d2, d3] }
  | _ => none }
def BucketGivesWrongFalsely : Prop := bucketGivesRow.holds Try.pinned (OpenSpec.ofChange bucketGivesWrong)

/-- 'wapentakelaw17.BucketKnown': WHATEVER THE INPUT: true; the input reads as it did. -/
def bucketKnownSpec : ChangeSpec := { name := "bucketKnown", fn := fun _ => fun
  | [] => { results := [.lit (.bool true)], args := [] }
  | _ => none }
def bucketKnownRow : OpenClaim := { program := "ytfpeacjodgdndaa", sum := "556e1fcb54da3db00308df9ea6b9b740afe86902780814d0fb3935e02dfbb7a4", func := "wapentake/wapentakelaw17.BucketKnown", spec := "bucketKnown", apart := false }
def BucketKnownSaid : Prop := bucketKnownRow.holds Try.pinned (OpenSpec.ofChange bucketKnownSpec)

/-- ITS FALSE NEIGHBOUR: 'it returns false'. Refute it at one input. -/
def bucketKnownWrong : ChangeSpec := { name := "bucketKnown", fn := fun _ => fun
  | [] => { results := [.lit (.bool false)], args := [] }
  | _ => none }
def BucketKnownWrongFalsely : Prop := bucketKnownRow.holds Try.pinned (OpenSpec.ofChange bucketKnownWrong)

/-- 'wapentakelaw17.BucketReads': WHATEVER THE INPUT: true; the input reads as it did. -/
def bucketReadsSpec : ChangeSpec := { name := "bucketReads", fn := fun _ => fun
  | [d] => { results := [.lit (.bool true)], args := [d] }
  | _ => none }
def bucketReadsRow : OpenClaim := { program := "ytfpeacjodgdndaa", sum := "556e1fcb54da3db00308df9ea6b9b740afe86902780814d0fb3935e02dfbb7a4", func := "wapentake/wapentakelaw17.BucketReads", spec := "bucketReads", apart := false }
def BucketReadsSaid : Prop := bucketReadsRow.holds Try.pinned (OpenSpec.ofChange bucketReadsSpec)

/-- ITS FALSE NEIGHBOUR: 'it returns false'. Refute it at one input. -/
def bucketReadsWrong : ChangeSpec := { name := "bucketReads", fn := fun _ => fun
  | [d] => { results := [.lit (.bool false)], args := [d] }
  | _ => none }
def BucketReadsWrongFalsely : Prop := bucketReadsRow.holds Try.pinned (OpenSpec.ofChange bucketReadsWrong)

/-- 'wapentakelaw17.BucketBack': WHATEVER THE INPUT: true; the input reads as it did. -/
def bucketBackSpec : ChangeSpec := { name := "bucketBack", fn := fun _ => fun
  | [d1, d2] => { results := [.lit (.bool true)], args := [d1, d2] }
  | _ => none }
def bucketBackRow : OpenClaim := { program := "ytfpeacjodgdndaa", sum := "556e1fcb54da3db00308df9ea6b9b740afe86902780814d0fb3935e02dfbb7a4", func := "wapentake/wapentakelaw17.BucketBack", spec := "bucketBack", apart := false }
def BucketBackSaid : Prop := bucketBackRow.holds Try.pinned (OpenSpec.ofChange bucketBackSpec)

/-- ITS FALSE NEIGHBOUR: 'it returns false'. Refute it at one input. -/
def bucketBackWrong : ChangeSpec := { name := "bucketBack", fn := fun _ => fun
  | [d1, d2] => { results := [.lit (.bool false)], args := [d1, d2] }
  | _ => none }
def BucketBackWrongFalsely : Prop := bucketBackRow.holds Try.pinned (OpenSpec.ofChange bucketBackWrong)

/- THE SECOND FORM. 'bulk': how many values and letters a reading holds, each counted each time it is reached (what is shared counts as often as it is met; a slice's spare places count too). A statement '..UptoSaid' is the law's where the arguments, and the package variables that the reading takes, are together of bulk at most 1048576: NARROWER than '..Said'. Prove '..Said' where nothing that the law and all that it calls make is longer than what came in: it says more and counts as full. Else prove '..UptoSaid'. A law counts once. -/
mutual
def uptoBulk {H : Type} : DataW H → Nat
  | .lit (.string bytes) => bytes.length + 1
  | .lit _ => 1
  | .nil => 1
  | .ptr d => uptoBulk d + 1
  | .slice elems spare => uptoBulkAll elems + uptoBulkAll spare + 1
  | .agg parts => uptoBulkAll parts + 1
  | .iface _ d => uptoBulk d + 1
  | .map entries => uptoBulkEntries entries + 1
  | .held _ => 1
def uptoBulkAll {H : Type} : List (DataW H) → Nat
  | [] => 0
  | d :: r => uptoBulk d + uptoBulkAll r
def uptoBulkEntries {H : Type} : List (Lit × DataW H) → Nat
  | [] => 0
  | x :: r => uptoBulkEntry x + uptoBulkEntries r
def uptoBulkEntry {H : Type} : Lit × DataW H → Nat
  | (.string bytes, d) => bytes.length + uptoBulk d + 1
  | (_, d) => uptoBulk d + 1
 end
def uptoSmall : (H : Type) → List (DataW H) → Bool := fun _ ds => decide (uptoBulkAll ds ≤ 1048576)
def OpenSpec.upto (s : _root_.Go.ChangeSpec) : _root_.Go.OpenSpec := { _root_.Go.OpenSpec.ofChange s with cond := some uptoSmall }

/-- 'wapentakelaw17.BucketPlays', WHERE WHAT IT READS IS OF BULK AT MOST 1048576: true; the input reads as it did. -/
def bucketPlaysUptoRow : OpenClaim := { program := "ytfpeacjodgdndaa", sum := "556e1fcb54da3db00308df9ea6b9b740afe86902780814d0fb3935e02dfbb7a4", func := "wapentake/wapentakelaw17.BucketPlays", spec := "bucketPlays", apart := false, narrowed := true }
def BucketPlaysUptoSaid : Prop := bucketPlaysUptoRow.holds Try.pinned (OpenSpec.upto bucketPlaysSpec)

/-- 'wapentakelaw17.BucketWindow', WHERE WHAT IT READS IS OF BULK AT MOST 1048576: true; the input reads as it did. -/
def bucketWindowUptoRow : OpenClaim := { program := "ytfpeacjodgdndaa", sum := "556e1fcb54da3db00308df9ea6b9b740afe86902780814d0fb3935e02dfbb7a4", func := "wapentake/wapentakelaw17.BucketWindow", spec := "bucketWindow", apart := false, narrowed := true }
def BucketWindowUptoSaid : Prop := bucketWindowUptoRow.holds Try.pinned (OpenSpec.upto bucketWindowSpec)

/-- 'wapentakelaw17.BucketGives', WHERE WHAT IT READS IS OF BULK AT MOST 1048576: true; the input reads as it did. -/
def bucketGivesUptoRow : OpenClaim := { program := "ytfpeacjodgdndaa", sum := "556e1fcb54da3db00308df9ea6b9b740afe86902780814d0fb3935e02dfbb7a4", func := "wapentake/wapentakelaw17.BucketGives", spec := "bucketGives", apart := false, narrowed := true }
def BucketGivesUptoSaid : Prop := bucketGivesUptoRow.holds Try.pinned (OpenSpec.upto bucketGivesSpec)

/-- 'wapentakelaw17.BucketKnown', WHERE WHAT IT READS IS OF BULK AT MOST 1048576: true; the input reads as it did. -/
def bucketKnownUptoRow : OpenClaim := { program := "ytfpeacjodgdndaa", sum := "556e1fcb54da3db00308df9ea6b9b740afe86902780814d0fb3935e02dfbb7a4", func := "wapentake/wapentakelaw17.BucketKnown", spec := "bucketKnown", apart := false, narrowed := true }
def BucketKnownUptoSaid : Prop := bucketKnownUptoRow.holds Try.pinned (OpenSpec.upto bucketKnownSpec)

/-- 'wapentakelaw17.BucketReads', WHERE WHAT IT READS IS OF BULK AT MOST 1048576: true; the input reads as it did. -/
def bucketReadsUptoRow : OpenClaim := { program := "ytfpeacjodgdndaa", sum := "556e1fcb54da3db00308df9ea6b9b740afe86902780814d0fb3935e02dfbb7a4", func := "wapentake/wapentakelaw17.BucketReads", spec := "bucketReads", apart := false, narrowed := true }
def BucketReadsUptoSaid : Prop := bucketReadsUptoRow.holds Try.pinned (OpenSpec.upto bucketReadsSpec)

/-- 'wapentakelaw17.BucketBack', WHERE WHAT IT READS IS OF BULK AT MOST 1048576: true; the input reads as it did. -/
def bucketBackUptoRow : OpenClaim := { program := "ytfpeacjodgdndaa", sum := "556e1fcb54da3db00308df9ea6b9b740afe86902780814d0fb3935e02dfbb7a4", func := "wapentake/wapentakelaw17.BucketBack", spec := "bucketBack", apart := false, narrowed := true }
def BucketBackUptoSaid : Prop := bucketBackUptoRow.holds Try.pinned (OpenSpec.upto bucketBackSpec)

end Rows
end Go.Proofs.Ytfpeacjodgdndaa
