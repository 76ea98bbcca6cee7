/-
  No cell of these rows narrows 'for every input' (looked for: loops, veiled, ifaces, maps, wideKeys, modest, calm, conditions, laid).
  DERIVED. THE GIVEN ROWS OF THIS SEAT. 6 by the template 'for every input the law returns true; each argument reads behind the call as it read before'; 0 by the template 'total and deterministic' (their statements: YtomaijljeacpjaaTotals.lean).
  GIVEN WITH THE SEED: the statements are not yours to turn. If you find one false, say at which input.
  Laid BY PROGRAM, IN A SANDBOX (cutbox-rows.mjs): the forced cells as the released guide's own fill.sh prints them over the translation bece79f21901bae7… (all of the seat's roots in one cut). By AI agents, Wed Nov 11 2026. No macro, syntax, notation, axiom, sorry.
-/
import Derived.Test.YtomaijljeacpjaaChecked
import GoSem.Claim
import GoSem.ClaimJoined
import GoSem.ClaimMapViews
import Derived.JoinedTies
import Derived.KernelRfl
namespace Go.Proofs.Ytomaijljeacpjaa
/- THE CELL 'sum', in the pinned program and in every row, IS THE sha256 OF THE DUMP (.gsa) THAT YtomaijljeacpjaaProg.lean LOADS. Nothing in Lean hashes anything: it is a label: what it is worth is what the hold of that sum in a sandbox is worth. -/
noncomputable def Try.pinned : Pinned := { name := "ytomaijljeacpjaa", sum := "bece79f21901bae734cbd1eec632daf1f4612b8f62b90d870fb7c49013e12c39", checked := Try.checked }
namespace Rows
def none {H : Type} : Left H := { results := [], args := [] }

/-- 'wapentakelaw18.SessOnce': WHATEVER THE INPUT: true; the input reads as it did. -/
def sessOnceSpec : ChangeSpec := { name := "sessOnce", fn := fun _ => fun
  | [d] => { results := [.lit (.bool true)], args := [d] }
  | _ => none }
def sessOnceRow : OpenClaim := { program := "ytomaijljeacpjaa", sum := "bece79f21901bae734cbd1eec632daf1f4612b8f62b90d870fb7c49013e12c39", func := "wapentake/wapentakelaw18.SessOnce", spec := "sessOnce", unfollowed := true, recurses := true, apart := false }
def SessOnceSaid : Prop := sessOnceRow.holds Try.pinned (OpenSpec.ofChange sessOnceSpec)

/-- ITS FALSE NEIGHBOUR: 'it returns false'. Refute it at one input. -/
def sessOnceWrong : ChangeSpec := { name := "sessOnce", fn := fun _ => fun
  | [d] => { results := [.lit (.bool false)], args := [d] }
  | _ => none }
def SessOnceWrongFalsely : Prop := sessOnceRow.holds Try.pinned (OpenSpec.ofChange sessOnceWrong)

/-- 'wapentakelaw18.SessLeft': WHATEVER THE INPUT: true; the input reads as it did. -/
def sessLeftSpec : ChangeSpec := { name := "sessLeft", fn := fun _ => fun
  | [d1, d2] => { results := [.lit (.bool true)], args := [d1, d2] }
  | _ => none }
def sessLeftRow : OpenClaim := { program := "ytomaijljeacpjaa", sum := "bece79f21901bae734cbd1eec632daf1f4612b8f62b90d870fb7c49013e12c39", func := "wapentake/wapentakelaw18.SessLeft", spec := "sessLeft", unfollowed := true, recurses := true, apart := false }
def SessLeftSaid : Prop := sessLeftRow.holds Try.pinned (OpenSpec.ofChange sessLeftSpec)

/-- ITS FALSE NEIGHBOUR: 'it returns false'. Refute it at one input. -/
def sessLeftWrong : ChangeSpec := { name := "sessLeft", fn := fun _ => fun
  | [d1, d2] => { results := [.lit (.bool false)], args := [d1, d2] }
  | _ => none }
def SessLeftWrongFalsely : Prop := sessLeftRow.holds Try.pinned (OpenSpec.ofChange sessLeftWrong)

/-- 'wapentakelaw18.SessKnown': WHATEVER THE INPUT: true; the input reads as it did. -/
def sessKnownSpec : ChangeSpec := { name := "sessKnown", fn := fun _ => fun
  | [] => { results := [.lit (.bool true)], args := [] }
  | _ => none }
def sessKnownRow : OpenClaim := { program := "ytomaijljeacpjaa", sum := "bece79f21901bae734cbd1eec632daf1f4612b8f62b90d870fb7c49013e12c39", func := "wapentake/wapentakelaw18.SessKnown", spec := "sessKnown", unfollowed := true, recurses := true, apart := false }
def SessKnownSaid : Prop := sessKnownRow.holds Try.pinned (OpenSpec.ofChange sessKnownSpec)

/-- ITS FALSE NEIGHBOUR: 'it returns false'. Refute it at one input. -/
def sessKnownWrong : ChangeSpec := { name := "sessKnown", fn := fun _ => fun
  | [] => { results := [.lit (.bool false)], args := [] }
  | _ => none }
def SessKnownWrongFalsely : Prop := sessKnownRow.holds Try.pinned (OpenSpec.ofChange sessKnownWrong)

/-- 'wapentakelaw18.SessPlays': WHATEVER THE INPUT: true; the input reads as it did. -/
def sessPlaysSpec : ChangeSpec := { name := "sessPlays", fn := fun _ => fun
  | [d] => { results := [.lit (.bool true)], args := [d] }
  | _ => none }
def sessPlaysRow : OpenClaim := { program := "ytomaijljeacpjaa", sum := "bece79f21901bae734cbd1eec632daf1f4612b8f62b90d870fb7c49013e12c39", func := "wapentake/wapentakelaw18.SessPlays", spec := "sessPlays", unfollowed := true, recurses := true, apart := false }
def SessPlaysSaid : Prop := sessPlaysRow.holds Try.pinned (OpenSpec.ofChange sessPlaysSpec)

/-- ITS FALSE NEIGHBOUR: 'it returns false'. Refute it at one input. -/
def sessPlaysWrong : ChangeSpec := { name := "sessPlays", fn := fun _ => fun
  | [d] => { results := [.lit (.bool false)], args := [d] }
  | _ => none }
def SessPlaysWrongFalsely : Prop := sessPlaysRow.holds Try.pinned (OpenSpec.ofChange sessPlaysWrong)

/-- 'wapentakelaw18.SessReads': WHATEVER THE INPUT: true; the input reads as it did. -/
def sessReadsSpec : ChangeSpec := { name := "sessReads", fn := fun _ => fun
  | [d] => { results := [.lit (.bool true)], args := [d] }
  | _ => none }
def sessReadsRow : OpenClaim := { program := "ytomaijljeacpjaa", sum := "bece79f21901bae734cbd1eec632daf1f4612b8f62b90d870fb7c49013e12c39", func := "wapentake/wapentakelaw18.SessReads", spec := "sessReads", unfollowed := true, recurses := true, apart := false }
def SessReadsSaid : Prop := sessReadsRow.holds Try.pinned (OpenSpec.ofChange sessReadsSpec)

/-- ITS FALSE NEIGHBOUR: 'it returns false'. Refute it at one input. -/
def sessReadsWrong : ChangeSpec := { name := "sessReads", fn := fun _ => fun
  | [d] => { results := [.lit (.bool false)], args := [d] }
  | _ => none }
def SessReadsWrongFalsely : Prop := sessReadsRow.holds Try.pinned (OpenSpec.ofChange sessReadsWrong)

/-- 'wapentakelaw18.SessTwin': WHATEVER THE INPUT: true; the input reads as it did. -/
def sessTwinSpec : ChangeSpec := { name := "sessTwin", fn := fun _ => fun
  | [d1, d2] => { results := [.lit (.bool true)], args := [d1, d2] }
  | _ => none }
def sessTwinRow : OpenClaim := { program := "ytomaijljeacpjaa", sum := "bece79f21901bae734cbd1eec632daf1f4612b8f62b90d870fb7c49013e12c39", func := "wapentake/wapentakelaw18.SessTwin", spec := "sessTwin", unfollowed := true, recurses := true, apart := false }
def SessTwinSaid : Prop := sessTwinRow.holds Try.pinned (OpenSpec.ofChange sessTwinSpec)

/-- ITS FALSE NEIGHBOUR: 'it returns false'. Refute it at one input. -/
def sessTwinWrong : ChangeSpec := { name := "sessTwin", fn := fun _ => fun
  | [d1, d2] => { results := [.lit (.bool false)], args := [d1, d2] }
  | _ => none }
def SessTwinWrongFalsely : Prop := sessTwinRow.holds Try.pinned (OpenSpec.ofChange sessTwinWrong)

/- THE SECOND FORM. 'bulk': how many values and letters a reading holds, each counted each time it is reached (what is shared counts as often as it is met; a slice's spare places count too). A statement '..UptoSaid' is the law's where the arguments, and the package variables that the reading takes, are together of bulk at most 1048576: NARROWER than '..Said'. Prove '..Said' where nothing that the law and all that it calls make is longer than what came in: it says more and counts as full. Else prove '..UptoSaid'. A law counts once. -/
mutual
def uptoBulk {H : Type} : DataW H → Nat
  | .lit (.string bytes) => bytes.length + 1
  | .lit _ => 1
  | .nil => 1
  | .ptr d => uptoBulk d + 1
  | .slice elems spare => uptoBulkAll elems + uptoBulkAll spare + 1
  | .agg parts => uptoBulkAll parts + 1
  | .iface _ d => uptoBulk d + 1
  | .map entries => uptoBulkEntries entries + 1
  | .held _ => 1
def uptoBulkAll {H : Type} : List (DataW H) → Nat
  | [] => 0
  | d :: r => uptoBulk d + uptoBulkAll r
def uptoBulkEntries {H : Type} : List (Lit × DataW H) → Nat
  | [] => 0
  | x :: r => uptoBulkEntry x + uptoBulkEntries r
def uptoBulkEntry {H : Type} : Lit × DataW H → Nat
  | (.string bytes, d) => bytes.length + uptoBulk d + 1
  | (_, d) => uptoBulk d + 1
 end
def uptoSmall : (H : Type) → List (DataW H) → Bool := fun _ ds => decide (uptoBulkAll ds ≤ 1048576)
def OpenSpec.upto (s : _root_.Go.ChangeSpec) : _root_.Go.OpenSpec := { _root_.Go.OpenSpec.ofChange s with cond := some uptoSmall }

/-- 'wapentakelaw18.SessOnce', WHERE WHAT IT READS IS OF BULK AT MOST 1048576: true; the input reads as it did. -/
def sessOnceUptoRow : OpenClaim := { program := "ytomaijljeacpjaa", sum := "bece79f21901bae734cbd1eec632daf1f4612b8f62b90d870fb7c49013e12c39", func := "wapentake/wapentakelaw18.SessOnce", spec := "sessOnce", unfollowed := true, recurses := true, apart := false, narrowed := true }
def SessOnceUptoSaid : Prop := sessOnceUptoRow.holds Try.pinned (OpenSpec.upto sessOnceSpec)

/-- 'wapentakelaw18.SessLeft', WHERE WHAT IT READS IS OF BULK AT MOST 1048576: true; the input reads as it did. -/
def sessLeftUptoRow : OpenClaim := { program := "ytomaijljeacpjaa", sum := "bece79f21901bae734cbd1eec632daf1f4612b8f62b90d870fb7c49013e12c39", func := "wapentake/wapentakelaw18.SessLeft", spec := "sessLeft", unfollowed := true, recurses := true, apart := false, narrowed := true }
def SessLeftUptoSaid : Prop := sessLeftUptoRow.holds Try.pinned (OpenSpec.upto sessLeftSpec)

/-- 'wapentakelaw18.SessKnown', WHERE WHAT IT READS IS OF BULK AT MOST 1048576: true; the input reads as it did. -/
def sessKnownUptoRow : OpenClaim := { program := "ytomaijljeacpjaa", sum := "bece79f21901bae734cbd1eec632daf1f4612b8f62b90d870fb7c49013e12c39", func := "wapentake/wapentakelaw18.SessKnown", spec := "sessKnown", unfollowed := true, recurses := true, apart := false, narrowed := true }
def SessKnownUptoSaid : Prop := sessKnownUptoRow.holds Try.pinned (OpenSpec.upto sessKnownSpec)

/-- 'wapentakelaw18.SessPlays', WHERE WHAT IT READS IS OF BULK AT MOST 1048576: true; the input reads as it did. -/
def sessPlaysUptoRow : OpenClaim := { program := "ytomaijljeacpjaa", sum := "bece79f21901bae734cbd1eec632daf1f4612b8f62b90d870fb7c49013e12c39", func := "wapentake/wapentakelaw18.SessPlays", spec := "sessPlays", unfollowed := true, recurses := true, apart := false, narrowed := true }
def SessPlaysUptoSaid : Prop := sessPlaysUptoRow.holds Try.pinned (OpenSpec.upto sessPlaysSpec)

/-- 'wapentakelaw18.SessReads', WHERE WHAT IT READS IS OF BULK AT MOST 1048576: true; the input reads as it did. -/
def sessReadsUptoRow : OpenClaim := { program := "ytomaijljeacpjaa", sum := "bece79f21901bae734cbd1eec632daf1f4612b8f62b90d870fb7c49013e12c39", func := "wapentake/wapentakelaw18.SessReads", spec := "sessReads", unfollowed := true, recurses := true, apart := false, narrowed := true }
def SessReadsUptoSaid : Prop := sessReadsUptoRow.holds Try.pinned (OpenSpec.upto sessReadsSpec)

/-- 'wapentakelaw18.SessTwin', WHERE WHAT IT READS IS OF BULK AT MOST 1048576: true; the input reads as it did. -/
def sessTwinUptoRow : OpenClaim := { program := "ytomaijljeacpjaa", sum := "bece79f21901bae734cbd1eec632daf1f4612b8f62b90d870fb7c49013e12c39", func := "wapentake/wapentakelaw18.SessTwin", spec := "sessTwin", unfollowed := true, recurses := true, apart := false, narrowed := true }
def SessTwinUptoSaid : Prop := sessTwinUptoRow.holds Try.pinned (OpenSpec.upto sessTwinSpec)

end Rows
end Go.Proofs.Ytomaijljeacpjaa
