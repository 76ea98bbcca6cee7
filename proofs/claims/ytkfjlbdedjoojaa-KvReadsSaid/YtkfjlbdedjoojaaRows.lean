/-
  No cell of these rows narrows 'for every input' (looked for: loops, veiled, ifaces, maps, wideKeys, modest, calm, conditions, laid).
  DERIVED. THE GIVEN ROWS OF THIS SEAT. 6 by the template 'for every input the law returns true; each argument reads behind the call as it read before'; 0 by the template 'total and deterministic' (their statements: YtkfjlbdedjoojaaTotals.lean).
  GIVEN WITH THE SEED: the statements are not yours to turn. If you find one false, say at which input.
  Laid BY PROGRAM, IN A SANDBOX (cutbox-rows.mjs): the forced cells as the released guide's own fill.sh prints them over the translation 6b8979aa53b8c02f… (all of the seat's roots in one cut). By AI agents, Wed Nov 11 2026. No macro, syntax, notation, axiom, sorry.
-/
import Derived.Test.YtkfjlbdedjoojaaChecked
import GoSem.Claim
import GoSem.ClaimJoined
import GoSem.ClaimMapViews
import Derived.JoinedTies
import Derived.KernelRfl
namespace Go.Proofs.Ytkfjlbdedjoojaa
/- THE CELL 'sum', in the pinned program and in every row, IS THE sha256 OF THE DUMP (.gsa) THAT YtkfjlbdedjoojaaProg.lean LOADS. Nothing in Lean hashes anything: it is a label: what it is worth is what the hold of that sum in a sandbox is worth. -/
noncomputable def Try.pinned : Pinned := { name := "ytkfjlbdedjoojaa", sum := "6b8979aa53b8c02fe243818e1a6acb60e4bb3fea474645de7218c6c39cb08568", checked := Try.checked }
namespace Rows
def none {H : Type} : Left H := { results := [], args := [] }

/-- 'wapentakelaw16.KvQuota': WHATEVER THE INPUT: true; the input reads as it did. -/
def kvQuotaSpec : ChangeSpec := { name := "kvQuota", fn := fun _ => fun
  | [d1, d2, d3] => { results := [.lit (.bool true)], args := [d1, d2, d3] }
  | _ => none }
def kvQuotaRow : OpenClaim := { program := "ytkfjlbdedjoojaa", sum := "6b8979aa53b8c02fe243818e1a6acb60e4bb3fea474645de7218c6c39cb08568", func := "wapentake/wapentakelaw16.KvQuota", spec := "kvQuota", inPlace := ["slices.overlaps[wapentake/pages.Item]", "slices.overlaps[[]wapentake/pages.Item]"], unfollowed := true, recurses := true, apart := false }
def KvQuotaSaid : Prop := kvQuotaRow.holds Try.pinned (OpenSpec.ofChange kvQuotaSpec)

/-- ITS FALSE NEIGHBOUR: 'it returns false'. Refute it at one input. -/
def kvQuotaWrong : ChangeSpec := { name := "kvQuota", fn := fun _ => fun
  | [d1, d2, d3] => { results := [.lit (.bool false)], args := [d1, d2, d3] }
  | _ => none }
def KvQuotaWrongFalsely : Prop := kvQuotaRow.holds Try.pinned (OpenSpec.ofChange kvQuotaWrong)

/-- 'wapentakelaw16.KvPlays': WHATEVER THE INPUT: true; the input reads as it did. -/
def kvPlaysSpec : ChangeSpec := { name := "kvPlays", fn := fun _ => fun
  | [d1, d2, d3] => { results := [.lit (.bool true)], args := [d1, d2, d3] }
  | _ => none }
def kvPlaysRow : OpenClaim := { program := "ytkfjlbdedjoojaa", sum := "6b8979aa53b8c02fe243818e1a6acb60e4bb3fea474645de7218c6c39cb08568", func := "wapentake/wapentakelaw16.KvPlays", spec := "kvPlays", inPlace := ["slices.overlaps[wapentake/pages.Item]", "slices.overlaps[[]wapentake/pages.Item]"], unfollowed := true, recurses := true, apart := false }
def KvPlaysSaid : Prop := kvPlaysRow.holds Try.pinned (OpenSpec.ofChange kvPlaysSpec)

/-- ITS FALSE NEIGHBOUR: 'it returns false'. Refute it at one input. -/
def kvPlaysWrong : ChangeSpec := { name := "kvPlays", fn := fun _ => fun
  | [d1, d2, d3] => { results := [.lit (.bool false)], args := [d1, d2, d3] }
  | _ => none }
def KvPlaysWrongFalsely : Prop := kvPlaysRow.holds Try.pinned (OpenSpec.ofChange kvPlaysWrong)

/-- 'wapentakelaw16.KvReads': WHATEVER THE INPUT: true; the input reads as it did. -/
def kvReadsSpec : ChangeSpec := { name := "kvReads", fn := fun _ => fun
  | [d] => { results := [.lit (.bool true)], args := [d] }
  | _ => none }
def kvReadsRow : OpenClaim := { program := "ytkfjlbdedjoojaa", sum := "6b8979aa53b8c02fe243818e1a6acb60e4bb3fea474645de7218c6c39cb08568", func := "wapentake/wapentakelaw16.KvReads", spec := "kvReads", inPlace := ["slices.overlaps[wapentake/pages.Item]", "slices.overlaps[[]wapentake/pages.Item]"], unfollowed := true, recurses := true, apart := false }
def KvReadsSaid : Prop := kvReadsRow.holds Try.pinned (OpenSpec.ofChange kvReadsSpec)

/-- ITS FALSE NEIGHBOUR: 'it returns false'. Refute it at one input. -/
def kvReadsWrong : ChangeSpec := { name := "kvReads", fn := fun _ => fun
  | [d] => { results := [.lit (.bool false)], args := [d] }
  | _ => none }
def KvReadsWrongFalsely : Prop := kvReadsRow.holds Try.pinned (OpenSpec.ofChange kvReadsWrong)

/-- 'wapentakelaw16.KvTwin': WHATEVER THE INPUT: true; the input reads as it did. -/
def kvTwinSpec : ChangeSpec := { name := "kvTwin", fn := fun _ => fun
  | [d1, d2, d3, d4] => { results := [.lit (.bool true)], args := [d1, d2, d3, d4] }
  | _ => none }
def kvTwinRow : OpenClaim := { program := "ytkfjlbdedjoojaa", sum := "6b8979aa53b8c02fe243818e1a6acb60e4bb3fea474645de7218c6c39cb08568", func := "wapentake/wapentakelaw16.KvTwin", spec := "kvTwin", inPlace := ["slices.overlaps[wapentake/pages.Item]", "slices.overlaps[[]wapentake/pages.Item]"], unfollowed := true, recurses := true, apart := false }
def KvTwinSaid : Prop := kvTwinRow.holds Try.pinned (OpenSpec.ofChange kvTwinSpec)

/-- ITS FALSE NEIGHBOUR: 'it returns false'. Refute it at one input. -/
def kvTwinWrong : ChangeSpec := { name := "kvTwin", fn := fun _ => fun
  | [d1, d2, d3, d4] => { results := [.lit (.bool false)], args := [d1, d2, d3, d4] }
  | _ => none }
def KvTwinWrongFalsely : Prop := kvTwinRow.holds Try.pinned (OpenSpec.ofChange kvTwinWrong)

/-- 'wapentakelaw16.KvBatch': WHATEVER THE INPUT: true; the input reads as it did. -/
def kvBatchSpec : ChangeSpec := { name := "kvBatch", fn := fun _ => fun
  | [d1, d2, d3, d4] => { results := [.lit (.bool true)], args := [d1, d2, d3, d4] }
  | _ => none }
def kvBatchRow : OpenClaim := { program := "ytkfjlbdedjoojaa", sum := "6b8979aa53b8c02fe243818e1a6acb60e4bb3fea474645de7218c6c39cb08568", func := "wapentake/wapentakelaw16.KvBatch", spec := "kvBatch", inPlace := ["slices.overlaps[wapentake/pages.Item]", "slices.overlaps[[]wapentake/pages.Item]"], unfollowed := true, recurses := true, apart := false }
def KvBatchSaid : Prop := kvBatchRow.holds Try.pinned (OpenSpec.ofChange kvBatchSpec)

/-- ITS FALSE NEIGHBOUR: 'it returns false'. Refute it at one input. -/
def kvBatchWrong : ChangeSpec := { name := "kvBatch", fn := fun _ => fun
  | [d1, d2, d3, d4] => { results := [.lit (.bool false)], args := [d1, d2, d3, d4] }
  | _ => none }
def KvBatchWrongFalsely : Prop := kvBatchRow.holds Try.pinned (OpenSpec.ofChange kvBatchWrong)

/-- 'wapentakelaw16.KvKnown': WHATEVER THE INPUT: true; the input reads as it did. -/
def kvKnownSpec : ChangeSpec := { name := "kvKnown", fn := fun _ => fun
  | [] => { results := [.lit (.bool true)], args := [] }
  | _ => none }
def kvKnownRow : OpenClaim := { program := "ytkfjlbdedjoojaa", sum := "6b8979aa53b8c02fe243818e1a6acb60e4bb3fea474645de7218c6c39cb08568", func := "wapentake/wapentakelaw16.KvKnown", spec := "kvKnown", inPlace := ["slices.overlaps[wapentake/pages.Item]", "slices.overlaps[[]wapentake/pages.Item]"], unfollowed := true, recurses := true, apart := false }
def KvKnownSaid : Prop := kvKnownRow.holds Try.pinned (OpenSpec.ofChange kvKnownSpec)

/-- ITS FALSE NEIGHBOUR: 'it returns false'. Refute it at one input. -/
def kvKnownWrong : ChangeSpec := { name := "kvKnown", fn := fun _ => fun
  | [] => { results := [.lit (.bool false)], args := [] }
  | _ => none }
def KvKnownWrongFalsely : Prop := kvKnownRow.holds Try.pinned (OpenSpec.ofChange kvKnownWrong)

/- THE SECOND FORM. 'bulk': how many values and letters a reading holds, each counted each time it is reached (what is shared counts as often as it is met; a slice's spare places count too). A statement '..UptoSaid' is the law's where the arguments, and the package variables that the reading takes, are together of bulk at most 1048576: NARROWER than '..Said'. Prove '..Said' where nothing that the law and all that it calls make is longer than what came in: it says more and counts as full. Else prove '..UptoSaid'. A law counts once. -/
mutual
def uptoBulk {H : Type} : DataW H → Nat
  | .lit (.string bytes) => bytes.length + 1
  | .lit _ => 1
  | .nil => 1
  | .ptr d => uptoBulk d + 1
  | .slice elems spare => uptoBulkAll elems + uptoBulkAll spare + 1
  | .agg parts => uptoBulkAll parts + 1
  | .iface _ d => uptoBulk d + 1
  | .map entries => uptoBulkEntries entries + 1
  | .held _ => 1
def uptoBulkAll {H : Type} : List (DataW H) → Nat
  | [] => 0
  | d :: r => uptoBulk d + uptoBulkAll r
def uptoBulkEntries {H : Type} : List (Lit × DataW H) → Nat
  | [] => 0
  | x :: r => uptoBulkEntry x + uptoBulkEntries r
def uptoBulkEntry {H : Type} : Lit × DataW H → Nat
  | (.string bytes, d) => bytes.length + uptoBulk d + 1
  | (_, d) => uptoBulk d + 1
 end
def uptoSmall : (H : Type) → List (DataW H) → Bool := fun _ ds => decide (uptoBulkAll ds ≤ 1048576)
def OpenSpec.upto (s : _root_.Go.ChangeSpec) : _root_.Go.OpenSpec := { _root_.Go.OpenSpec.ofChange s with cond := some uptoSmall }

/-- 'wapentakelaw16.KvQuota', WHERE WHAT IT READS IS OF BULK AT MOST 1048576: true; the input reads as it did. -/
def kvQuotaUptoRow : OpenClaim := { program := "ytkfjlbdedjoojaa", sum := "6b8979aa53b8c02fe243818e1a6acb60e4bb3fea474645de7218c6c39cb08568", func := "wapentake/wapentakelaw16.KvQuota", spec := "kvQuota", inPlace := ["slices.overlaps[wapentake/pages.Item]", "slices.overlaps[[]wapentake/pages.Item]"], unfollowed := true, recurses := true, apart := false, narrowed := true }
def KvQuotaUptoSaid : Prop := kvQuotaUptoRow.holds Try.pinned (OpenSpec.upto kvQuotaSpec)

/-- 'wapentakelaw16.KvPlays', WHERE WHAT IT READS IS OF BULK AT MOST 1048576: true; the input reads as it did. -/
def kvPlaysUptoRow : OpenClaim := { program := "ytkfjlbdedjoojaa", sum := "6b8979aa53b8c02fe243818e1a6acb60e4bb3fea474645de7218c6c39cb08568", func := "wapentake/wapentakelaw16.KvPlays", spec := "kvPlays", inPlace := ["slices.overlaps[wapentake/pages.Item]", "slices.overlaps[[]wapentake/pages.Item]"], unfollowed := true, recurses := true, apart := false, narrowed := true }
def KvPlaysUptoSaid : Prop := kvPlaysUptoRow.holds Try.pinned (OpenSpec.upto kvPlaysSpec)

/-- 'wapentakelaw16.KvReads', WHERE WHAT IT READS IS OF BULK AT MOST 1048576: true; the input reads as it did. -/
def kvReadsUptoRow : OpenClaim := { program := "ytkfjlbdedjoojaa", sum := "6b8979aa53b8c02fe243818e1a6acb60e4bb3fea474645de7218c6c39cb08568", func := "wapentake/wapentakelaw16.KvReads", spec := "kvReads", inPlace := ["slices.overlaps[wapentake/pages.Item]", "slices.overlaps[[]wapentake/pages.Item]"], unfollowed := true, recurses := true, apart := false, narrowed := true }
def KvReadsUptoSaid : Prop := kvReadsUptoRow.holds Try.pinned (OpenSpec.upto kvReadsSpec)

/-- 'wapentakelaw16.KvTwin', WHERE WHAT IT READS IS OF BULK AT MOST 1048576: true; the input reads as it did. -/
def kvTwinUptoRow : OpenClaim := { program := "ytkfjlbdedjoojaa", sum := "6b8979aa53b8c02fe243818e1a6acb60e4bb3fea474645de7218c6c39cb08568", func := "wapentake/wapentakelaw16.KvTwin", spec := "kvTwin", inPlace := ["slices.overlaps[wapentake/pages.Item]", "slices.overlaps[[]wapentake/pages.Item]"], unfollowed := true, recurses := true, apart := false, narrowed := true }
def KvTwinUptoSaid : Prop := kvTwinUptoRow.holds Try.pinned (OpenSpec.upto kvTwinSpec)

/-- 'wapentakelaw16.KvBatch', WHERE WHAT IT READS IS OF BULK AT MOST 1048576: true; the input reads as it did. -/
def kvBatchUptoRow : OpenClaim := { program := "ytkfjlbdedjoojaa", sum := "6b8979aa53b8c02fe243818e1a6acb60e4bb3fea474645de7218c6c39cb08568", func := "wapentake/wapentakelaw16.KvBatch", spec := "kvBatch", inPlace := ["slices.overlaps[wapentake/pages.Item]", "slices.overlaps[[]wapentake/pages.Item]"], unfollowed := true, recurses := true, apart := false, narrowed := true }
def KvBatchUptoSaid : Prop := kvBatchUptoRow.holds Try.pinned (OpenSpec.upto kvBatchSpec)

/-- 'wapentakelaw16.KvKnown', WHERE WHAT IT READS IS OF BULK AT MOST 1048576: true; the input reads as it did. -/
def kvKnownUptoRow : OpenClaim := { program := "ytkfjlbdedjoojaa", sum := "6b8979aa53b8c02fe243818e1a6acb60e4bb3fea474645de7218c6c39cb08568", func := "wapentake/wapentakelaw16.KvKnown", spec := "kvKnown", inPlace := ["slices.overlaps[wapentake/pages.Item]", "slices.overlaps[[]wapentake/pages.Item]"], unfollowed := true, recurses := true, apart := false, narrowed := true }
def KvKnownUptoSaid : Prop := kvKnownUptoRow.holds Try.pinned (OpenSpec.upto kvKnownSpec)

end Rows
end Go.Proofs.Ytkfjlbdedjoojaa
