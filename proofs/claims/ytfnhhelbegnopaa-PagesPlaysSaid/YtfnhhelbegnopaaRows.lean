/-
  No cell of these rows narrows 'for every input' (looked for: loops, veiled, ifaces, maps, wideKeys, modest, calm, conditions, laid).
  DERIVED. THE GIVEN ROWS OF THIS SEAT. 5 by the template 'for every input the law returns true; each argument reads behind the call as it read before'; 0 by the template 'total and deterministic' (their statements: YtfnhhelbegnopaaTotals.lean).
  GIVEN WITH THE SEED: the statements are not yours to turn. If you find one false, say at which input.
  Laid BY PROGRAM, IN A SANDBOX (cutbox-rows.mjs): the forced cells as the released guide's own fill.sh prints them over the translation 5055f8953d48165c… (all of the seat's roots in one cut). By AI agents, Wed Nov 11 2026. No macro, syntax, notation, axiom, sorry.
-/
import Derived.Test.YtfnhhelbegnopaaChecked
import GoSem.Claim
import GoSem.ClaimJoined
import GoSem.ClaimMapViews
import Derived.JoinedTies
import Derived.KernelRfl
namespace Go.Proofs.Ytfnhhelbegnopaa
/- THE CELL 'sum', in the pinned program and in every row, IS THE sha256 OF THE DUMP (.gsa) THAT YtfnhhelbegnopaaProg.lean LOADS. Nothing in Lean hashes anything: it is a label: what it is worth is what the hold of that sum in a sandbox is worth. -/
noncomputable def Try.pinned : Pinned := { name := "ytfnhhelbegnopaa", sum := "5055f8953d48165c060c96bd2011c968133e4b2646490c25464aef78b7b1b184", checked := Try.checked }
namespace Rows
def none {H : Type} : Left H := { results := [], args := [] }

/-- 'wapentakelaw15.PagesKnown': WHATEVER THE INPUT: true; the input reads as it did. -/
def pagesKnownSpec : ChangeSpec := { name := "pagesKnown", fn := fun _ => fun
  | [] => { results := [.lit (.bool true)], args := [] }
  | _ => none }
def pagesKnownRow : OpenClaim := { program := "ytfnhhelbegnopaa", sum := "5055f8953d48165c060c96bd2011c968133e4b2646490c25464aef78b7b1b184", func := "wapentake/wapentakelaw15.PagesKnown", spec := "pagesKnown", inPlace := ["slices.overlaps[wapentake/pages.Item]", "slices.overlaps[[]wapentake/pages.Item]"], unfollowed := true, recurses := true, apart := false }
def PagesKnownSaid : Prop := pagesKnownRow.holds Try.pinned (OpenSpec.ofChange pagesKnownSpec)

/-- ITS FALSE NEIGHBOUR: 'it returns false'. Refute it at one input. -/
def pagesKnownWrong : ChangeSpec := { name := "pagesKnown", fn := fun _ => fun
  | [] => { results := [.lit (.bool false)], args := [] }
  | _ => none }
def PagesKnownWrongFalsely : Prop := pagesKnownRow.holds Try.pinned (OpenSpec.ofChange pagesKnownWrong)

/-- 'wapentakelaw15.PagesPlays': WHATEVER THE INPUT: true; the input reads as it did. -/
def pagesPlaysSpec : ChangeSpec := { name := "pagesPlays", fn := fun _ => fun
  | [d] => { results := [.lit (.bool true)], args := [d] }
  | _ => none }
def pagesPlaysRow : OpenClaim := { program := "ytfnhhelbegnopaa", sum := "5055f8953d48165c060c96bd2011c968133e4b2646490c25464aef78b7b1b184", func := "wapentake/wapentakelaw15.PagesPlays", spec := "pagesPlays", inPlace := ["slices.overlaps[wapentake/pages.Item]", "slices.overlaps[[]wapentake/pages.Item]"], unfollowed := true, recurses := true, apart := false }
def PagesPlaysSaid : Prop := pagesPlaysRow.holds Try.pinned (OpenSpec.ofChange pagesPlaysSpec)

/-- ITS FALSE NEIGHBOUR: 'it returns false'. Refute it at one input. -/
def pagesPlaysWrong : ChangeSpec := { name := "pagesPlays", fn := fun _ => fun
  | [d] => { results := [.lit (.bool false)], args := [d] }
  | _ => none }
def PagesPlaysWrongFalsely : Prop := pagesPlaysRow.holds Try.pinned (OpenSpec.ofChange pagesPlaysWrong)

/-- 'wapentakelaw15.PagesSame': WHATEVER THE INPUT: true; the input reads as it did. -/
def pagesSameSpec : ChangeSpec := { name := "pagesSame", fn := fun _ => fun
  | [d1, d2, d3, d4] => { results := [.lit (.bool true)], args := [d1, d2, d3, d4] }
  | _ => none }
def pagesSameRow : OpenClaim := { program := "ytfnhhelbegnopaa", sum := "5055f8953d48165c060c96bd2011c968133e4b2646490c25464aef78b7b1b184", func := "wapentake/wapentakelaw15.PagesSame", spec := "pagesSame", inPlace := ["slices.overlaps[wapentake/pages.Item]", "slices.overlaps[[]wapentake/pages.Item]"], unfollowed := true, recurses := true, apart := false }
def PagesSameSaid : Prop := pagesSameRow.holds Try.pinned (OpenSpec.ofChange pagesSameSpec)

/-- ITS FALSE NEIGHBOUR: 'it returns false'. Refute it at one input. -/
def pagesSameWrong : ChangeSpec := { name := "pagesSame", fn := fun _ => fun
  | [d1, d2, d3, d4] => { results := [.lit (.bool false)], args := [d1, d2, d3, d4] }
  | _ => none }
def PagesSameWrongFalsely : Prop := pagesSameRow.holds Try.pinned (OpenSpec.ofChange pagesSameWrong)

/-- 'wapentakelaw15.PagesLast': WHATEVER THE INPUT: true; the input reads as it did. -/
def pagesLastSpec : ChangeSpec := { name := "pagesLast", fn := fun _ => fun
  | [d] => { results := [.lit (.bool true)], args := [d] }
  | _ => none }
def pagesLastRow : OpenClaim := { program := "ytfnhhelbegnopaa", sum := "5055f8953d48165c060c96bd2011c968133e4b2646490c25464aef78b7b1b184", func := "wapentake/wapentakelaw15.PagesLast", spec := "pagesLast", inPlace := ["slices.overlaps[wapentake/pages.Item]", "slices.overlaps[[]wapentake/pages.Item]"], unfollowed := true, recurses := true, apart := false }
def PagesLastSaid : Prop := pagesLastRow.holds Try.pinned (OpenSpec.ofChange pagesLastSpec)

/-- ITS FALSE NEIGHBOUR: 'it returns false'. Refute it at one input. -/
def pagesLastWrong : ChangeSpec := { name := "pagesLast", fn := fun _ => fun
  | [d] => { results := [.lit (.bool false)], args := [d] }
  | _ => none }
def PagesLastWrongFalsely : Prop := pagesLastRow.holds Try.pinned (OpenSpec.ofChange pagesLastWrong)

/-- 'wapentakelaw15.PagesRange': WHATEVER THE INPUT: true; the input reads as it did. -/
def pagesRangeSpec : ChangeSpec := { name := "pagesRange", fn := fun _ => fun
  | [d1, d2, d3, d4] => { results := [.lit (.bool true)], args := [d1, d2, d3, d4] }
  | _ => none }
def pagesRangeRow : OpenClaim := { program := "ytfnhhelbegnopaa", sum := "5055f8953d48165c060c96bd2011c968133e4b2646490c25464aef78b7b1b184", func := "wapentake/wapentakelaw15.PagesRange", spec := "pagesRange", inPlace := ["slices.overlaps[wapentake/pages.Item]", "slices.overlaps[[]wapentake/pages.Item]"], unfollowed := true, recurses := true, apart := false }
def PagesRangeSaid : Prop := pagesRangeRow.holds Try.pinned (OpenSpec.ofChange pagesRangeSpec)

/-- ITS FALSE NEIGHBOUR: 'it returns false'. Refute it at one input. -/
def pagesRangeWrong : ChangeSpec := { name := "pagesRange", fn := fun _ => fun
  | [d1, d2, d3, d4] => { results := [.lit (.bool false)], args := [d1, d2, d3, d4] }
  | _ => none }
def PagesRangeWrongFalsely : Prop := pagesRangeRow.holds Try.pinned (OpenSpec.ofChange pagesRangeWrong)

/- THE SECOND FORM. 'bulk': how many values and letters a reading holds, each counted each time it is reached (what is shared counts as often as it is met; a slice's spare places count too). A statement '..UptoSaid' is the law's where the arguments, and the package variables that the reading takes, are together of bulk at most 1048576: NARROWER than '..Said'. Prove '..Said' where nothing that the law and all that it calls make is longer than what came in: it says more and counts as full. Else prove '..UptoSaid'. A law counts once. -/
mutual
def uptoBulk {H : Type} : DataW H → Nat
  | .lit (.string bytes) => bytes.length + 1
  | .lit _ => 1
  | .nil => 1
  | .ptr d => uptoBulk d + 1
  | .slice elems spare => uptoBulkAll elems + uptoBulkAll spare + 1
  | .agg parts => uptoBulkAll parts + 1
  | .iface _ d => uptoBulk d + 1
  | .map entries => uptoBulkEntries entries + 1
  | .held _ => 1
def uptoBulkAll {H : Type} : List (DataW H) → Nat
  | [] => 0
  | d :: r => uptoBulk d + uptoBulkAll r
def uptoBulkEntries {H : Type} : List (Lit × DataW H) → Nat
  | [] => 0
  | x :: r => uptoBulkEntry x + uptoBulkEntries r
def uptoBulkEntry {H : Type} : Lit × DataW H → Nat
  | (.string bytes, d) => bytes.length + uptoBulk d + 1
  | (_, d) => uptoBulk d + 1
 end
def uptoSmall : (H : Type) → List (DataW H) → Bool := fun _ ds => decide (uptoBulkAll ds ≤ 1048576)
def OpenSpec.upto (s : _root_.Go.ChangeSpec) : _root_.Go.OpenSpec := { _root_.Go.OpenSpec.ofChange s with cond := some uptoSmall }

/-- 'wapentakelaw15.PagesKnown', WHERE WHAT IT READS IS OF BULK AT MOST 1048576: true; the input reads as it did. -/
def pagesKnownUptoRow : OpenClaim := { program := "ytfnhhelbegnopaa", sum := "5055f8953d48165c060c96bd2011c968133e4b2646490c25464aef78b7b1b184", func := "wapentake/wapentakelaw15.PagesKnown", spec := "pagesKnown", inPlace := ["slices.overlaps[wapentake/pages.Item]", "slices.overlaps[[]wapentake/pages.Item]"], unfollowed := true, recurses := true, apart := false, narrowed := true }
def PagesKnownUptoSaid : Prop := pagesKnownUptoRow.holds Try.pinned (OpenSpec.upto pagesKnownSpec)

/-- 'wapentakelaw15.PagesPlays', WHERE WHAT IT READS IS OF BULK AT MOST 1048576: true; the input reads as it did. -/
def pagesPlaysUptoRow : OpenClaim := { program := "ytfnhhelbegnopaa", sum := "5055f8953d48165c060c96bd2011c968133e4b2646490c25464aef78b7b1b184", func := "wapentake/wapentakelaw15.PagesPlays", spec := "pagesPlays", inPlace := ["slices.overlaps[wapentake/pages.Item]", "slices.overlaps[[]wapentake/pages.Item]"], unfollowed := true, recurses := true, apart := false, narrowed := true }
def PagesPlaysUptoSaid : Prop := pagesPlaysUptoRow.holds Try.pinned (OpenSpec.upto pagesPlaysSpec)

/-- 'wapentakelaw15.PagesSame', WHERE WHAT IT READS IS OF BULK AT MOST 1048576: true; the input reads as it did. -/
def pagesSameUptoRow : OpenClaim := { program := "ytfnhhelbegnopaa", sum := "5055f8953d48165c060c96bd2011c968133e4b2646490c25464aef78b7b1b184", func := "wapentake/wapentakelaw15.PagesSame", spec := "pagesSame", inPlace := ["slices.overlaps[wapentake/pages.Item]", "slices.overlaps[[]wapentake/pages.Item]"], unfollowed := true, recurses := true, apart := false, narrowed := true }
def PagesSameUptoSaid : Prop := pagesSameUptoRow.holds Try.pinned (OpenSpec.upto pagesSameSpec)

/-- 'wapentakelaw15.PagesLast', WHERE WHAT IT READS IS OF BULK AT MOST 1048576: true; the input reads as it did. -/
def pagesLastUptoRow : OpenClaim := { program := "ytfnhhelbegnopaa", sum := "5055f8953d48165c060c96bd2011c968133e4b2646490c25464aef78b7b1b184", func := "wapentake/wapentakelaw15.PagesLast", spec := "pagesLast", inPlace := ["slices.overlaps[wapentake/pages.Item]", "slices.overlaps[[]wapentake/pages.Item]"], unfollowed := true, recurses := true, apart := false, narrowed := true }
def PagesLastUptoSaid : Prop := pagesLastUptoRow.holds Try.pinned (OpenSpec.upto pagesLastSpec)

/-- 'wapentakelaw15.PagesRange', WHERE WHAT IT READS IS OF BULK AT MOST 1048576: true; the input reads as it did. -/
def pagesRangeUptoRow : OpenClaim := { program := "ytfnhhelbegnopaa", sum := "5055f8953d48165c060c96bd2011c968133e4b2646490c25464aef78b7b1b184", func := "wapentake/wapentakelaw15.PagesRange", spec := "pagesRange", inPlace := ["slices.overlaps[wapentake/pages.Item]", "slices.overlaps[[]wapentake/pages.Item]"], unfollowed := true, recurses := true, apart := false, narrowed := true }
def PagesRangeUptoSaid : Prop := pagesRangeUptoRow.holds Try.pinned (OpenSpec.upto pagesRangeSpec)

end Rows
end Go.Proofs.Ytfnhhelbegnopaa
