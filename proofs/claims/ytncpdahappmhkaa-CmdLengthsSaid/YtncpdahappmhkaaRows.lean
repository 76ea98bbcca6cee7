/-
  No cell of these rows narrows 'for every input' (looked for: loops, veiled, ifaces, maps, wideKeys, modest, calm, conditions, laid).
  DERIVED. THE GIVEN ROWS OF THIS SEAT. 7 by the template 'for every input the law returns true; each argument reads behind the call as it read before'; 0 by the template 'total and deterministic' (their statements: YtncpdahappmhkaaTotals.lean).
  GIVEN WITH THE SEED: the statements are not yours to turn. If you find one false, say at which input.
  Laid BY PROGRAM, IN A SANDBOX (cutbox-rows.mjs): the forced cells as the released guide's own fill.sh prints them over the translation f840b36631dd11d2… (all of the seat's roots in one cut). By AI agents, Wed Nov 11 2026. No macro, syntax, notation, axiom, sorry.
-/
import Derived.Test.YtncpdahappmhkaaChecked
import GoSem.Claim
import GoSem.ClaimJoined
import GoSem.ClaimMapViews
import Derived.JoinedTies
import Derived.KernelRfl
namespace Go.Proofs.Ytncpdahappmhkaa
/- THE CELL 'sum', in the pinned program and in every row, IS THE sha256 OF THE DUMP (.gsa) THAT YtncpdahappmhkaaProg.lean LOADS. Nothing in Lean hashes anything: it is a label: what it is worth is what the hold of that sum in a sandbox is worth. -/
noncomputable def Try.pinned : Pinned := { name := "ytncpdahappmhkaa", sum := "f840b36631dd11d2a97a41d6e4bc4c95147b892d8876b2eadb25516d1ad588e9", checked := Try.checked }
namespace Rows
def none {H : Type} : Left H := { results := [], args := [] }

/-- 'wapentakelaw03.CmdLengths': WHATEVER THE INPUT: true; the input reads as it did. -/
def cmdLengthsSpec : ChangeSpec := { name := "cmdLengths", fn := fun _ => fun
  | [d1, d2] => { results := [.lit (.bool true)], args := [d1, d2] }
  | _ => none }
def cmdLengthsRow : OpenClaim := { program := "ytncpdahappmhkaa", sum := "f840b36631dd11d2a97a41d6e4bc4c95147b892d8876b2eadb25516d1ad588e9", func := "wapentake/wapentakelaw03.CmdLengths", spec := "cmdLengths", unfollowed := true, recurses := true, apart := false }
def CmdLengthsSaid : Prop := cmdLengthsRow.holds Try.pinned (OpenSpec.ofChange cmdLengthsSpec)

/-- ITS FALSE NEIGHBOUR: 'it returns false'. Refute it at one input. -/
def cmdLengthsWrong : ChangeSpec := { name := "cmdLengths", fn := fun _ => fun
  | [d1, d2] => { results := [.lit (.bool false)], args := [d1, d2] }
  | _ => none }
def CmdLengthsWrongFalsely : Prop := cmdLengthsRow.holds Try.pinned (OpenSpec.ofChange cmdLengthsWrong)

/-- 'wapentakelaw03.CmdWrites': WHATEVER THE INPUT: true; the input reads as it did. -/
def cmdWritesSpec : ChangeSpec := { name := "cmdWrites", fn := fun _ => fun
  | [d] => { results := [.lit (.bool true)], args := [d] }
  | _ => none }
def cmdWritesRow : OpenClaim := { program := "ytncpdahappmhkaa", sum := "f840b36631dd11d2a97a41d6e4bc4c95147b892d8876b2eadb25516d1ad588e9", func := "wapentake/wapentakelaw03.CmdWrites", spec := "cmdWrites", unfollowed := true, recurses := true, apart := false }
def CmdWritesSaid : Prop := cmdWritesRow.holds Try.pinned (OpenSpec.ofChange cmdWritesSpec)

/-- ITS FALSE NEIGHBOUR: 'it returns false'. Refute it at one input. -/
def cmdWritesWrong : ChangeSpec := { name := "cmdWrites", fn := fun _ => fun
  | [d] => { results := [.lit (.bool false)], args := [d] }
  | _ => none }
def CmdWritesWrongFalsely : Prop := cmdWritesRow.holds Try.pinned (OpenSpec.ofChange cmdWritesWrong)

/-- 'wapentakelaw03.CmdOthers': WHATEVER THE INPUT: true; the input reads as it did. -/
def cmdOthersSpec : ChangeSpec := { name := "cmdOthers", fn := fun _ => fun
  | [d1, d2] => { results := [.lit (.bool true)], args := [d1, d2] }
  | _ => none }
def cmdOthersRow : OpenClaim := { program := "ytncpdahappmhkaa", sum := "f840b36631dd11d2a97a41d6e4bc4c95147b892d8876b2eadb25516d1ad588e9", func := "wapentake/wapentakelaw03.CmdOthers", spec := "cmdOthers", unfollowed := true, recurses := true, apart := false }
def CmdOthersSaid : Prop := cmdOthersRow.holds Try.pinned (OpenSpec.ofChange cmdOthersSpec)

/-- ITS FALSE NEIGHBOUR: 'it returns false'. Refute it at one input. -/
def cmdOthersWrong : ChangeSpec := { name := "cmdOthers", fn := fun _ => fun
  | [d1, d2] => { results := [.lit (.bool false)], args := [d1, d2] }
  | _ => none }
def CmdOthersWrongFalsely : Prop := cmdOthersRow.holds Try.pinned (OpenSpec.ofChange cmdOthersWrong)

/-- 'wapentakelaw03.CmdKnown': WHATEVER THE INPUT: true; the input reads as it did. -/
def cmdKnownSpec : ChangeSpec := { name := "cmdKnown", fn := fun _ => fun
  | [] => { results := [.lit (.bool true)], args := [] }
  | _ => none }
def cmdKnownRow : OpenClaim := { program := "ytncpdahappmhkaa", sum := "f840b36631dd11d2a97a41d6e4bc4c95147b892d8876b2eadb25516d1ad588e9", func := "wapentake/wapentakelaw03.CmdKnown", spec := "cmdKnown", unfollowed := true, recurses := true, apart := false }
def CmdKnownSaid : Prop := cmdKnownRow.holds Try.pinned (OpenSpec.ofChange cmdKnownSpec)

/-- ITS FALSE NEIGHBOUR: 'it returns false'. Refute it at one input. -/
def cmdKnownWrong : ChangeSpec := { name := "cmdKnown", fn := fun _ => fun
  | [] => { results := [.lit (.bool false)], args := [] }
  | _ => none }
def CmdKnownWrongFalsely : Prop := cmdKnownRow.holds Try.pinned (OpenSpec.ofChange cmdKnownWrong)

/-- 'wapentakelaw03.CmdReads': WHATEVER THE INPUT: true; the input reads as it did. -/
def cmdReadsSpec : ChangeSpec := { name := "cmdReads", fn := fun _ => fun
  | [d] => { results := [.lit (.bool true)], args := [d] }
  | _ => none }
def cmdReadsRow : OpenClaim := { program := "ytncpdahappmhkaa", sum := "f840b36631dd11d2a97a41d6e4bc4c95147b892d8876b2eadb25516d1ad588e9", func := "wapentake/wapentakelaw03.CmdReads", spec := "cmdReads", unfollowed := true, recurses := true, apart := false }
def CmdReadsSaid : Prop := cmdReadsRow.holds Try.pinned (OpenSpec.ofChange cmdReadsSpec)

/-- ITS FALSE NEIGHBOUR: 'it returns false'. Refute it at one input. -/
def cmdReadsWrong : ChangeSpec := { name := "cmdReads", fn := fun _ => fun
  | [d] => { results := [.lit (.bool false)], args := [d] }
  | _ => none }
def CmdReadsWrongFalsely : Prop := cmdReadsRow.holds Try.pinned (OpenSpec.ofChange cmdReadsWrong)

/-- 'wapentakelaw03.CmdBack': WHATEVER THE INPUT: true; the input reads as it did. -/
def cmdBackSpec : ChangeSpec := { name := "cmdBack", fn := fun _ => fun
  | [d1, d2, d3, d4, d5] => { results := [.lit (.bool true)], args := [d1, d2, d3, d4, d5] }
  | _ => none }
def cmdBackRow : OpenClaim := { program := "ytncpdahappmhkaa", sum := "f840b36631dd11d2a97a41d6e4bc4c95147b892d8876b2eadb25516d1ad588e9", func := "wapentake/wapentakelaw03.CmdBack", spec := "cmdBack", unfollowed := true, recurses := true, apart := false }
def CmdBackSaid : Prop := cmdBackRow.holds Try.pinned (OpenSpec.ofChange cmdBackSpec)

/-- ITS FALSE NEIGHBOUR: 'it returns false'. Refute it at one input. -/
def cmdBackWrong : ChangeSpec := { name := "cmdBack", fn := fun _ => fun
  | [d1, d2, d3, d4, d5] => { results := [.lit (.bool false)], args := [d1, d2, d3, d4, d5] }
  | _ => none }
def CmdBackWrongFalsely : Prop := cmdBackRow.holds Try.pinned (OpenSpec.ofChange cmdBackWrong)

/-- 'wapentakelaw03.CmdOnly': WHATEVER THE INPUT: true; the input reads as it did. -/
def cmdOnlySpec : ChangeSpec := { name := "cmdOnly", fn := fun _ => fun
  | [d] => { results := [.lit (.bool true)], args := [d] }
  | _ => none }
def cmdOnlyRow : OpenClaim := { program := "ytncpdahappmhkaa", sum := "f840b36631dd11d2a97a41d6e4bc4c95147b892d8876b2eadb25516d1ad588e9", func := "wapentake/wapentakelaw03.CmdOnly", spec := "cmdOnly", unfollowed := true, recurses := true, apart := false }
def CmdOnlySaid : Prop := cmdOnlyRow.holds Try.pinned (OpenSpec.ofChange cmdOnlySpec)

/-- ITS FALSE NEIGHBOUR: 'it returns false'. Refute it at one input. -/
def cmdOnlyWrong : ChangeSpec := { name := "cmdOnly", fn := fun _ => fun
  | [d] => { results := [.lit (.bool false)], args := [d] }
  | _ => none }
def CmdOnlyWrongFalsely : Prop := cmdOnlyRow.holds Try.pinned (OpenSpec.ofChange cmdOnlyWrong)

/- THE SECOND FORM. 'bulk': how many values and letters a reading holds, each counted each time it is reached (what is shared counts as often as it is met; a slice's spare places count too). A statement '..UptoSaid' is the law's where the arguments, and the package variables that the reading takes, are together of bulk at most 1048576: NARROWER than '..Said'. Prove '..Said' where nothing that the law and all that it calls make is longer than what came in: it says more and counts as full. Else prove '..UptoSaid'. A law counts once. -/
mutual
def uptoBulk {H : Type} : DataW H → Nat
  | .lit (.string bytes) => bytes.length + 1
  | .lit _ => 1
  | .nil => 1
  | .ptr d => uptoBulk d + 1
  | .slice elems spare => uptoBulkAll elems + uptoBulkAll spare + 1
  | .agg parts => uptoBulkAll parts + 1
  | .iface _ d => uptoBulk d + 1
  | .map entries => uptoBulkEntries entries + 1
  | .held _ => 1
def uptoBulkAll {H : Type} : List (DataW H) → Nat
  | [] => 0
  | d :: r => uptoBulk d + uptoBulkAll r
def uptoBulkEntries {H : Type} : List (Lit × DataW H) → Nat
  | [] => 0
  | x :: r => uptoBulkEntry x + uptoBulkEntries r
def uptoBulkEntry {H : Type} : Lit × DataW H → Nat
  | (.string bytes, d) => bytes.length + uptoBulk d + 1
  | (_, d) => uptoBulk d + 1
 end
def uptoSmall : (H : Type) → List (DataW H) → Bool := fun _ ds => decide (uptoBulkAll ds ≤ 1048576)
def OpenSpec.upto (s : _root_.Go.ChangeSpec) : _root_.Go.OpenSpec := { _root_.Go.OpenSpec.ofChange s with cond := some uptoSmall }

/-- 'wapentakelaw03.CmdLengths', WHERE WHAT IT READS IS OF BULK AT MOST 1048576: true; the input reads as it did. -/
def cmdLengthsUptoRow : OpenClaim := { program := "ytncpdahappmhkaa", sum := "f840b36631dd11d2a97a41d6e4bc4c95147b892d8876b2eadb25516d1ad588e9", func := "wapentake/wapentakelaw03.CmdLengths", spec := "cmdLengths", unfollowed := true, recurses := true, apart := false, narrowed := true }
def CmdLengthsUptoSaid : Prop := cmdLengthsUptoRow.holds Try.pinned (OpenSpec.upto cmdLengthsSpec)

/-- 'wapentakelaw03.CmdWrites', WHERE WHAT IT READS IS OF BULK AT MOST 1048576: true; the input reads as it did. -/
def cmdWritesUptoRow : OpenClaim := { program := "ytncpdahappmhkaa", sum := "f840b36631dd11d2a97a41d6e4bc4c95147b892d8876b2eadb25516d1ad588e9", func := "wapentake/wapentakelaw03.CmdWrites", spec := "cmdWrites", unfollowed := true, recurses := true, apart := false, narrowed := true }
def CmdWritesUptoSaid : Prop := cmdWritesUptoRow.holds Try.pinned (OpenSpec.upto cmdWritesSpec)

/-- 'wapentakelaw03.CmdOthers', WHERE WHAT IT READS IS OF BULK AT MOST 1048576: true; the input reads as it did. -/
def cmdOthersUptoRow : OpenClaim := { program := "ytncpdahappmhkaa", sum := "f840b36631dd11d2a97a41d6e4bc4c95147b892d8876b2eadb25516d1ad588e9", func := "wapentake/wapentakelaw03.CmdOthers", spec := "cmdOthers", unfollowed := true, recurses := true, apart := false, narrowed := true }
def CmdOthersUptoSaid : Prop := cmdOthersUptoRow.holds Try.pinned (OpenSpec.upto cmdOthersSpec)

/-- 'wapentakelaw03.CmdKnown', WHERE WHAT IT READS IS OF BULK AT MOST 1048576: true; the input reads as it did. -/
def cmdKnownUptoRow : OpenClaim := { program := "ytncpdahappmhkaa", sum := "f840b36631dd11d2a97a41d6e4bc4c95147b892d8876b2eadb25516d1ad588e9", func := "wapentake/wapentakelaw03.CmdKnown", spec := "cmdKnown", unfollowed := true, recurses := true, apart := false, narrowed := true }
def CmdKnownUptoSaid : Prop := cmdKnownUptoRow.holds Try.pinned (OpenSpec.upto cmdKnownSpec)

/-- 'wapentakelaw03.CmdReads', WHERE WHAT IT READS IS OF BULK AT MOST 1048576: true; the input reads as it did. -/
def cmdReadsUptoRow : OpenClaim := { program := "ytncpdahappmhkaa", sum := "f840b36631dd11d2a97a41d6e4bc4c95147b892d8876b2eadb25516d1ad588e9", func := "wapentake/wapentakelaw03.CmdReads", spec := "cmdReads", unfollowed := true, recurses := true, apart := false, narrowed := true }
def CmdReadsUptoSaid : Prop := cmdReadsUptoRow.holds Try.pinned (OpenSpec.upto cmdReadsSpec)

/-- 'wapentakelaw03.CmdBack', WHERE WHAT IT READS IS OF BULK AT MOST 1048576: true; the input reads as it did. -/
def cmdBackUptoRow : OpenClaim := { program := "ytncpdahappmhkaa", sum := "f840b36631dd11d2a97a41d6e4bc4c95147b892d8876b2eadb25516d1ad588e9", func := "wapentake/wapentakelaw03.CmdBack", spec := "cmdBack", unfollowed := true, recurses := true, apart := false, narrowed := true }
def CmdBackUptoSaid : Prop := cmdBackUptoRow.holds Try.pinned (OpenSpec.upto cmdBackSpec)

/-- 'wapentakelaw03.CmdOnly', WHERE WHAT IT READS IS OF BULK AT MOST 1048576: true; the input reads as it did. -/
def cmdOnlyUptoRow : OpenClaim := { program := "ytncpdahappmhkaa", sum := "f840b36631dd11d2a97a41d6e4bc4c95147b892d8876b2eadb25516d1ad588e9", func := "wapentake/wapentakelaw03.CmdOnly", spec := "cmdOnly", unfollowed := true, recurses := true, apart := false, narrowed := true }
def CmdOnlyUptoSaid : Prop := cmdOnlyUptoRow.holds Try.pinned (OpenSpec.upto cmdOnlySpec)

end Rows
end Go.Proofs.Ytncpdahappmhkaa
