/-
  No cell of these rows narrows 'for every input' (looked for: loops, veiled, ifaces, maps, wideKeys, modest, calm, conditions, laid).
  DERIVED. THE GIVEN ROWS OF THIS SEAT. 6 by the template 'for every input the law returns true; each argument reads behind the call as it read before'; 0 by the template 'total and deterministic' (their statements: YtebgfahbhieoiaaTotals.lean).
  GIVEN WITH THE SEED: the statements are not yours to turn. If you find one false, say at which input.
  Laid BY PROGRAM, IN A SANDBOX (cutbox-rows.mjs): the forced cells as the released guide's own fill.sh prints them over the translation d724aafef4563d55… (all of the seat's roots in one cut). By AI agents, Wed Nov 11 2026. No macro, syntax, notation, axiom, sorry.
-/
import Derived.Test.YtebgfahbhieoiaaChecked
import GoSem.Claim
import GoSem.ClaimJoined
import GoSem.ClaimMapViews
import Derived.JoinedTies
import Derived.KernelRfl
namespace Go.Proofs.Ytebgfahbhieoiaa
/- THE CELL 'sum', in the pinned program and in every row, IS THE sha256 OF THE DUMP (.gsa) THAT YtebgfahbhieoiaaProg.lean LOADS. Nothing in Lean hashes anything: it is a label: what it is worth is what the hold of that sum in a sandbox is worth. -/
noncomputable def Try.pinned : Pinned := { name := "ytebgfahbhieoiaa", sum := "d724aafef4563d55ef20d47f05e46bb3f5fb02e6b21adf63a2b2a58290e77c7d", checked := Try.checked }
namespace Rows
def none {H : Type} : Left H := { results := [], args := [] }

/-- 'wapentakelaw05.MsgKnown': WHATEVER THE INPUT: true; the input reads as it did. -/
def msgKnownSpec : ChangeSpec := { name := "msgKnown", fn := fun _ => fun
  | [] => { results := [.lit (.bool true)], args := [] }
  | _ => none }
def msgKnownRow : OpenClaim := { program := "ytebgfahbhieoiaa", sum := "d724aafef4563d55ef20d47f05e46bb3f5fb02e6b21adf63a2b2a58290e77c7d", func := "wapentake/wapentakelaw05.MsgKnown", spec := "msgKnown", unfollowed := true, recurses := true, apart := false }
def MsgKnownSaid : Prop := msgKnownRow.holds Try.pinned (OpenSpec.ofChange msgKnownSpec)

/-- ITS FALSE NEIGHBOUR: 'it returns false'. Refute it at one input. -/
def msgKnownWrong : ChangeSpec := { name := "msgKnown", fn := fun _ => fun
  | [] => { results := [.lit (.bool false)], args := [] }
  | _ => none }
def MsgKnownWrongFalsely : Prop := msgKnownRow.holds Try.pinned (OpenSpec.ofChange msgKnownWrong)

/-- 'wapentakelaw05.MsgWrites': WHATEVER THE INPUT: true; the input reads as it did. -/
def msgWritesSpec : ChangeSpec := { name := "msgWrites", fn := fun _ => fun
  | [d1, d2] => { results := [.lit (.bool true)], args := [d1, d2] }
  | _ => none }
def msgWritesRow : OpenClaim := { program := "ytebgfahbhieoiaa", sum := "d724aafef4563d55ef20d47f05e46bb3f5fb02e6b21adf63a2b2a58290e77c7d", func := "wapentake/wapentakelaw05.MsgWrites", spec := "msgWrites", unfollowed := true, recurses := true, apart := false }
def MsgWritesSaid : Prop := msgWritesRow.holds Try.pinned (OpenSpec.ofChange msgWritesSpec)

/-- ITS FALSE NEIGHBOUR: 'it returns false'. Refute it at one input. -/
def msgWritesWrong : ChangeSpec := { name := "msgWrites", fn := fun _ => fun
  | [d1, d2] => { results := [.lit (.bool false)], args := [d1, d2] }
  | _ => none }
def MsgWritesWrongFalsely : Prop := msgWritesRow.holds Try.pinned (OpenSpec.ofChange msgWritesWrong)

/-- 'wapentakelaw05.MsgReads': WHATEVER THE INPUT: true; the input reads as it did. -/
def msgReadsSpec : ChangeSpec := { name := "msgReads", fn := fun _ => fun
  | [d] => { results := [.lit (.bool true)], args := [d] }
  | _ => none }
def msgReadsRow : OpenClaim := { program := "ytebgfahbhieoiaa", sum := "d724aafef4563d55ef20d47f05e46bb3f5fb02e6b21adf63a2b2a58290e77c7d", func := "wapentake/wapentakelaw05.MsgReads", spec := "msgReads", unfollowed := true, recurses := true, apart := false }
def MsgReadsSaid : Prop := msgReadsRow.holds Try.pinned (OpenSpec.ofChange msgReadsSpec)

/-- ITS FALSE NEIGHBOUR: 'it returns false'. Refute it at one input. -/
def msgReadsWrong : ChangeSpec := { name := "msgReads", fn := fun _ => fun
  | [d] => { results := [.lit (.bool false)], args := [d] }
  | _ => none }
def MsgReadsWrongFalsely : Prop := msgReadsRow.holds Try.pinned (OpenSpec.ofChange msgReadsWrong)

/-- 'wapentakelaw05.MsgBack': WHATEVER THE INPUT: true; the input reads as it did. -/
def msgBackSpec : ChangeSpec := { name := "msgBack", fn := fun _ => fun
  | [d1, d2, d3, d4] => { results := [.lit (.bool true)], args := [d1, d2, d3, d4] }
  | _ => none }
def msgBackRow : OpenClaim := { program := "ytebgfahbhieoiaa", sum := "d724aafef4563d55ef20d47f05e46bb3f5fb02e6b21adf63a2b2a58290e77c7d", func := "wapentake/wapentakelaw05.MsgBack", spec := "msgBack", unfollowed := true, recurses := true, apart := false }
def MsgBackSaid : Prop := msgBackRow.holds Try.pinned (OpenSpec.ofChange msgBackSpec)

/-- ITS FALSE NEIGHBOUR: 'it returns false'. Refute it at one input. -/
def msgBackWrong : ChangeSpec := { name := "msgBack", fn := fun _ => fun
  | [d1, d2, d3, d4] => { results := [.lit (.bool false)], args := [d1, d2, d3, d4] }
  | _ => none }
def MsgBackWrongFalsely : Prop := msgBackRow.holds Try.pinned (OpenSpec.ofChange msgBackWrong)

/-- 'wapentakelaw05.MsgBodies': WHATEVER THE INPUT: true; the input reads as it did. -/
def msgBodiesSpec : ChangeSpec := { name := "msgBodies", fn := fun _ => fun
  | [d1, d2, d3] => { results := [.lit (.bool true)], args := [d1, d2, d3] }
  | _ => none }
def msgBodiesRow : OpenClaim := { program := "ytebgfahbhieoiaa", sum := "d724aafef4563d55ef20d47f05e46bb3f5fb02e6b21adf63a2b2a58290e77c7d", func := "wapentake/wapentakelaw05.MsgBodies", spec := "msgBodies", unfollowed := true, recurses := true, apart := false }
def MsgBodiesSaid : Prop := msgBodiesRow.holds Try.pinned (OpenSpec.ofChange msgBodiesSpec)

/-- ITS FALSE NEIGHBOUR: 'it returns false'. Refute it at one input. -/
def msgBodiesWrong : ChangeSpec := { name := "msgBodies", fn := fun _ => fun
  | [d1, d2, d3] => { results := [.lit (.bool false)], args := [d1, d2, d3] }
  | _ => none }
def MsgBodiesWrongFalsely : Prop := msgBodiesRow.holds Try.pinned (OpenSpec.ofChange msgBodiesWrong)

/-- 'wapentakelaw05.MsgCopy': WHATEVER THE INPUT: true; the input reads as it did. -/
def msgCopySpec : ChangeSpec := { name := "msgCopy", fn := fun _ => fun
  | [d] => { results := [.lit (.bool true)], args := [d] }
  | _ => none }
def msgCopyRow : OpenClaim := { program := "ytebgfahbhieoiaa", sum := "d724aafef4563d55ef20d47f05e46bb3f5fb02e6b21adf63a2b2a58290e77c7d", func := "wapentake/wapentakelaw05.MsgCopy", spec := "msgCopy", unfollowed := true, recurses := true, apart := false }
def MsgCopySaid : Prop := msgCopyRow.holds Try.pinned (OpenSpec.ofChange msgCopySpec)

/-- ITS FALSE NEIGHBOUR: 'it returns false'. Refute it at one input. -/
def msgCopyWrong : ChangeSpec := { name := "msgCopy", fn := fun _ => fun
  | [d] => { results := [.lit (.bool false)], args := [d] }
  | _ => none }
def MsgCopyWrongFalsely : Prop := msgCopyRow.holds Try.pinned (OpenSpec.ofChange msgCopyWrong)

/- THE SECOND FORM. 'bulk': how many values and letters a reading holds, each counted each time it is reached (what is shared counts as often as it is met; a slice's spare places count too). A statement '..UptoSaid' is the law's where the arguments, and the package variables that the reading takes, are together of bulk at most 1048576: NARROWER than '..Said'. Prove '..Said' where nothing that the law and all that it calls make is longer than what came in: it says more and counts as full. Else prove '..UptoSaid'. A law counts once. -/
mutual
def uptoBulk {H : Type} : DataW H → Nat
  | .lit (.string bytes) => bytes.length + 1
  | .lit _ => 1
  | .nil => 1
  | .ptr d => uptoBulk d + 1
  | .slice elems spare => uptoBulkAll elems + uptoBulkAll spare + 1
  | .agg parts => uptoBulkAll parts + 1
  | .iface _ d => uptoBulk d + 1
  | .map entries => uptoBulkEntries entries + 1
  | .held _ => 1
def uptoBulkAll {H : Type} : List (DataW H) → Nat
  | [] => 0
  | d :: r => uptoBulk d + uptoBulkAll r
def uptoBulkEntries {H : Type} : List (Lit × DataW H) → Nat
  | [] => 0
  | x :: r => uptoBulkEntry x + uptoBulkEntries r
def uptoBulkEntry {H : Type} : Lit × DataW H → Nat
  | (.string bytes, d) => bytes.length + uptoBulk d + 1
  | (_, d) => uptoBulk d + 1
 end
def uptoSmall : (H : Type) → List (DataW H) → Bool := fun _ ds => decide (uptoBulkAll ds ≤ 1048576)
def OpenSpec.upto (s : _root_.Go.ChangeSpec) : _root_.Go.OpenSpec := { _root_.Go.OpenSpec.ofChange s with cond := some uptoSmall }

/-- 'wapentakelaw05.MsgKnown', WHERE WHAT IT READS IS OF BULK AT MOST 1048576: true; the input reads as it did. -/
def msgKnownUptoRow : OpenClaim := { program := "ytebgfahbhieoiaa", sum := "d724aafef4563d55ef20d47f05e46bb3f5fb02e6b21adf63a2b2a58290e77c7d", func := "wapentake/wapentakelaw05.MsgKnown", spec := "msgKnown", unfollowed := true, recurses := true, apart := false, narrowed := true }
def MsgKnownUptoSaid : Prop := msgKnownUptoRow.holds Try.pinned (OpenSpec.upto msgKnownSpec)

/-- 'wapentakelaw05.MsgWrites', WHERE WHAT IT READS IS OF BULK AT MOST 1048576: true; the input reads as it did. -/
def msgWritesUptoRow : OpenClaim := { program := "ytebgfahbhieoiaa", sum := "d724aafef4563d55ef20d47f05e46bb3f5fb02e6b21adf63a2b2a58290e77c7d", func := "wapentake/wapentakelaw05.MsgWrites", spec := "msgWrites", unfollowed := true, recurses := true, apart := false, narrowed := true }
def MsgWritesUptoSaid : Prop := msgWritesUptoRow.holds Try.pinned (OpenSpec.upto msgWritesSpec)

/-- 'wapentakelaw05.MsgReads', WHERE WHAT IT READS IS OF BULK AT MOST 1048576: true; the input reads as it did. -/
def msgReadsUptoRow : OpenClaim := { program := "ytebgfahbhieoiaa", sum := "d724aafef4563d55ef20d47f05e46bb3f5fb02e6b21adf63a2b2a58290e77c7d", func := "wapentake/wapentakelaw05.MsgReads", spec := "msgReads", unfollowed := true, recurses := true, apart := false, narrowed := true }
def MsgReadsUptoSaid : Prop := msgReadsUptoRow.holds Try.pinned (OpenSpec.upto msgReadsSpec)

/-- 'wapentakelaw05.MsgBack', WHERE WHAT IT READS IS OF BULK AT MOST 1048576: true; the input reads as it did. -/
def msgBackUptoRow : OpenClaim := { program := "ytebgfahbhieoiaa", sum := "d724aafef4563d55ef20d47f05e46bb3f5fb02e6b21adf63a2b2a58290e77c7d", func := "wapentake/wapentakelaw05.MsgBack", spec := "msgBack", unfollowed := true, recurses := true, apart := false, narrowed := true }
def MsgBackUptoSaid : Prop := msgBackUptoRow.holds Try.pinned (OpenSpec.upto msgBackSpec)

/-- 'wapentakelaw05.MsgBodies', WHERE WHAT IT READS IS OF BULK AT MOST 1048576: true; the input reads as it did. -/
def msgBodiesUptoRow : OpenClaim := { program := "ytebgfahbhieoiaa", sum := "d724aafef4563d55ef20d47f05e46bb3f5fb02e6b21adf63a2b2a58290e77c7d", func := "wapentake/wapentakelaw05.MsgBodies", spec := "msgBodies", unfollowed := true, recurses := true, apart := false, narrowed := true }
def MsgBodiesUptoSaid : Prop := msgBodiesUptoRow.holds Try.pinned (OpenSpec.upto msgBodiesSpec)

/-- 'wapentakelaw05.MsgCopy', WHERE WHAT IT READS IS OF BULK AT MOST 1048576: true; the input reads as it did. -/
def msgCopyUptoRow : OpenClaim := { program := "ytebgfahbhieoiaa", sum := "d724aafef4563d55ef20d47f05e46bb3f5fb02e6b21adf63a2b2a58290e77c7d", func := "wapentake/wapentakelaw05.MsgCopy", spec := "msgCopy", unfollowed := true, recurses := true, apart := false, narrowed := true }
def MsgCopyUptoSaid : Prop := msgCopyUptoRow.holds Try.pinned (OpenSpec.upto msgCopySpec)

end Rows
end Go.Proofs.Ytebgfahbhieoiaa
