/-
  No cell of these rows narrows 'for every input' (looked for: loops, veiled, ifaces, maps, wideKeys, modest, calm, conditions, laid).
  DERIVED. THE GIVEN ROWS OF THIS SEAT. 5 by the template 'for every input the law returns true; each argument reads behind the call as it read before'; 0 by the template 'total and deterministic' (their statements: YtmjdcbhjpbjihaaTotals.lean).
  GIVEN WITH THE SEED: the statements are not yours to turn. If you find one false, say at which input.
  Laid BY PROGRAM, IN A SANDBOX (cutbox-rows.mjs): the forced cells as the released guide's own fill.sh prints them over the translation 0c05961f208a16da… (all of the seat's roots in one cut). By AI agents, Wed Nov 11 2026. No macro, syntax, notation, axiom, sorry.
-/
import Derived.Test.YtmjdcbhjpbjihaaChecked
import GoSem.Claim
import GoSem.ClaimJoined
import GoSem.ClaimMapViews
import Derived.JoinedTies
import Derived.KernelRfl
namespace Go.Proofs.Ytmjdcbhjpbjihaa
/- THE CELL 'sum', in the pinned program and in every row, IS THE sha256 OF THE DUMP (.gsa) THAT YtmjdcbhjpbjihaaProg.lean LOADS. Nothing in Lean hashes anything: it is a label: what it is worth is what the hold of that sum in a sandbox is worth. -/
noncomputable def Try.pinned : Pinned := { name := "ytmjdcbhjpbjihaa", sum := "0c05961f208a16dad89101d2d54770b1d62e1735e01205e519346608304a93e6", checked := Try.checked }
namespace Rows
def none {H : Type} : Left H := { results := [], args := [] }

/-- 'sodalitylaw05.DrawBelow': WHATEVER THE INPUT: true; the input reads as it did. -/
def drawBelowSpec : ChangeSpec := { name := "drawBelow", fn := fun _ => fun
  | [d1, d2] => { results := [.lit (.bool true)], args := [d1, d2] }
  | _ => none }
def drawBelowRow : OpenClaim := { program := "ytmjdcbhjpbjihaa", sum := "0c05961f208a16dad89101d2d54770b1d62e1735e01205e519346608304a93e6", func := "sodality/sodalitylaw05.DrawBelow", spec := "drawBelow", apart := false }
def DrawBelowSaid : Prop := drawBelowRow.holds Try.pinned (OpenSpec.ofChange drawBelowSpec)

/-- ITS FALSE NEIGHBOUR: 'it returns false'. Refute it at one input. -/
def drawBelowWrong : ChangeSpec := { name := "drawBelow", fn := fun _ => fun
  | [d1, d2] => { results := [.lit (.bool false)], args := [d1, d2] }
  | _ => none }
def DrawBelowWrongFalsely : Prop := drawBelowRow.holds Try.pinned (OpenSpec.ofChange drawBelowWrong)

/-- 'sodalitylaw05.DrawOrders': WHATEVER THE INPUT: true; the input reads as it did. -/
def drawOrdersSpec : ChangeSpec := { name := "drawOrders", fn := fun _ => fun
  | [d1, d2] => { results := [.lit (.bool true)], args := [d1, d2] }
  | _ => none }
def drawOrdersRow : OpenClaim := { program := "ytmjdcbhjpbjihaa", sum := "0c05961f208a16dad89101d2d54770b1d62e1735e01205e519346608304a93e6", func := "sodality/sodalitylaw05.DrawOrders", spec := "drawOrders", unfollowed := true, recurses := true, apart := false }
def DrawOrdersSaid : Prop := drawOrdersRow.holds Try.pinned (OpenSpec.ofChange drawOrdersSpec)

/-- ITS FALSE NEIGHBOUR: 'it returns false'. Refute it at one input. -/
def drawOrdersWrong : ChangeSpec := { name := "drawOrders", fn := fun _ => fun
  | [d1, d2] => { results := [.lit (.bool false)], args := [d1, d2] }
  | _ => none }
def DrawOrdersWrongFalsely : Prop := drawOrdersRow.holds Try.pinned (OpenSpec.ofChange drawOrdersWrong)

/-- 'sodalitylaw05.DrawSame': WHATEVER THE INPUT: true; the input reads as it did. -/
def drawSameSpec : ChangeSpec := { name := "drawSame", fn := fun _ => fun
  | [d1, d2] => { results := [.lit (.bool true)], args := [d1, d2] }
  | _ => none }
def drawSameRow : OpenClaim := { program := "ytmjdcbhjpbjihaa", sum := "0c05961f208a16dad89101d2d54770b1d62e1735e01205e519346608304a93e6", func := "sodality/sodalitylaw05.DrawSame", spec := "drawSame", unfollowed := true, recurses := true, apart := false }
def DrawSameSaid : Prop := drawSameRow.holds Try.pinned (OpenSpec.ofChange drawSameSpec)

/-- ITS FALSE NEIGHBOUR: 'it returns false'. Refute it at one input. -/
def drawSameWrong : ChangeSpec := { name := "drawSame", fn := fun _ => fun
  | [d1, d2] => { results := [.lit (.bool false)], args := [d1, d2] }
  | _ => none }
def DrawSameWrongFalsely : Prop := drawSameRow.holds Try.pinned (OpenSpec.ofChange drawSameWrong)

/-- 'sodalitylaw05.DrawPlays': WHATEVER THE INPUT: true; the input reads as it did. -/
def drawPlaysSpec : ChangeSpec := { name := "drawPlays", fn := fun _ => fun
  | [d1, d2] => { results := [.lit (.bool true)], args := [d1, d2] }
  | _ => none }
def drawPlaysRow : OpenClaim := { program := "ytmjdcbhjpbjihaa", sum := "0c05961f208a16dad89101d2d54770b1d62e1735e01205e519346608304a93e6", func := "sodality/sodalitylaw05.DrawPlays", spec := "drawPlays", unfollowed := true, recurses := true, apart := false }
def DrawPlaysSaid : Prop := drawPlaysRow.holds Try.pinned (OpenSpec.ofChange drawPlaysSpec)

/-- ITS FALSE NEIGHBOUR: 'it returns false'. Refute it at one input. -/
def drawPlaysWrong : ChangeSpec := { name := "drawPlays", fn := fun _ => fun
  | [d1, d2] => { results := [.lit (.bool false)], args := [d1, d2] }
  | _ => none }
def DrawPlaysWrongFalsely : Prop := drawPlaysRow.holds Try.pinned (OpenSpec.ofChange drawPlaysWrong)

/-- 'sodalitylaw05.DrawNone': WHATEVER THE INPUT: true; the input reads as it did. -/
def drawNoneSpec : ChangeSpec := { name := "drawNone", fn := fun _ => fun
  | [d] => { results := [.lit (.bool true)], args := [d] }
  | _ => none }
def drawNoneRow : OpenClaim := { program := "ytmjdcbhjpbjihaa", sum := "0c05961f208a16dad89101d2d54770b1d62e1735e01205e519346608304a93e6", func := "sodality/sodalitylaw05.DrawNone", spec := "drawNone", unfollowed := true, recurses := true, apart := false }
def DrawNoneSaid : Prop := drawNoneRow.holds Try.pinned (OpenSpec.ofChange drawNoneSpec)

/-- ITS FALSE NEIGHBOUR: 'it returns false'. Refute it at one input. -/
def drawNoneWrong : ChangeSpec := { name := "drawNone", fn := fun _ => fun
  | [d] => { results := [.lit (.bool false)], args := [d] }
  | _ => none }
def DrawNoneWrongFalsely : Prop := drawNoneRow.holds Try.pinned (OpenSpec.ofChange drawNoneWrong)

/- THE SECOND FORM. 'bulk': how many values and letters a reading holds, each counted each time it is reached (what is shared counts as often as it is met; a slice's spare places count too). A statement '..UptoSaid' is the law's where the arguments, and the package variables that the reading takes, are together of bulk at most 1048576: NARROWER than '..Said'. Prove '..Said' where nothing that the law and all that it calls make is longer than what came in: it says more and counts as full. Else prove '..UptoSaid'. A law counts once. -/
mutual
def uptoBulk {H : Type} : DataW H → Nat
  | .lit (.string bytes) => bytes.length + 1
  | .lit _ => 1
  | .nil => 1
  | .ptr d => uptoBulk d + 1
  | .slice elems spare => uptoBulkAll elems + uptoBulkAll spare + 1
  | .agg parts => uptoBulkAll parts + 1
  | .iface _ d => uptoBulk d + 1
  | .map entries => uptoBulkEntries entries + 1
  | .held _ => 1
def uptoBulkAll {H : Type} : List (DataW H) → Nat
  | [] => 0
  | d :: r => uptoBulk d + uptoBulkAll r
def uptoBulkEntries {H : Type} : List (Lit × DataW H) → Nat
  | [] => 0
  | x :: r => uptoBulkEntry x + uptoBulkEntries r
def uptoBulkEntry {H : Type} : Lit × DataW H → Nat
  | (.string bytes, d) => bytes.length + uptoBulk d + 1
  | (_, d) => uptoBulk d + 1
 end
def uptoSmall : (H : Type) → List (DataW H) → Bool := fun _ ds => decide (uptoBulkAll ds ≤ 1048576)
def OpenSpec.upto (s : _root_.Go.ChangeSpec) : _root_.Go.OpenSpec := { _root_.Go.OpenSpec.ofChange s with cond := some uptoSmall }

/-- 'sodalitylaw05.DrawBelow', WHERE WHAT IT READS IS OF BULK AT MOST 1048576: true; the input reads as it did. -/
def drawBelowUptoRow : OpenClaim := { program := "ytmjdcbhjpbjihaa", sum := "0c05961f208a16dad89101d2d54770b1d62e1735e01205e519346608304a93e6", func := "sodality/sodalitylaw05.DrawBelow", spec := "drawBelow", apart := false, narrowed := true }
def DrawBelowUptoSaid : Prop := drawBelowUptoRow.holds Try.pinned (OpenSpec.upto drawBelowSpec)

/-- 'sodalitylaw05.DrawOrders', WHERE WHAT IT READS IS OF BULK AT MOST 1048576: true; the input reads as it did. -/
def drawOrdersUptoRow : OpenClaim := { program := "ytmjdcbhjpbjihaa", sum := "0c05961f208a16dad89101d2d54770b1d62e1735e01205e519346608304a93e6", func := "sodality/sodalitylaw05.DrawOrders", spec := "drawOrders", unfollowed := true, recurses := true, apart := false, narrowed := true }
def DrawOrdersUptoSaid : Prop := drawOrdersUptoRow.holds Try.pinned (OpenSpec.upto drawOrdersSpec)

/-- 'sodalitylaw05.DrawSame', WHERE WHAT IT READS IS OF BULK AT MOST 1048576: true; the input reads as it did. -/
def drawSameUptoRow : OpenClaim := { program := "ytmjdcbhjpbjihaa", sum := "0c05961f208a16dad89101d2d54770b1d62e1735e01205e519346608304a93e6", func := "sodality/sodalitylaw05.DrawSame", spec := "drawSame", unfollowed := true, recurses := true, apart := false, narrowed := true }
def DrawSameUptoSaid : Prop := drawSameUptoRow.holds Try.pinned (OpenSpec.upto drawSameSpec)

/-- 'sodalitylaw05.DrawPlays', WHERE WHAT IT READS IS OF BULK AT MOST 1048576: true; the input reads as it did. -/
def drawPlaysUptoRow : OpenClaim := { program := "ytmjdcbhjpbjihaa", sum := "0c05961f208a16dad89101d2d54770b1d62e1735e01205e519346608304a93e6", func := "sodality/sodalitylaw05.DrawPlays", spec := "drawPlays", unfollowed := true, recurses := true, apart := false, narrowed := true }
def DrawPlaysUptoSaid : Prop := drawPlaysUptoRow.holds Try.pinned (OpenSpec.upto drawPlaysSpec)

/-- 'sodalitylaw05.DrawNone', WHERE WHAT IT READS IS OF BULK AT MOST 1048576: true; the input reads as it did. -/
def drawNoneUptoRow : OpenClaim := { program := "ytmjdcbhjpbjihaa", sum := "0c05961f208a16dad89101d2d54770b1d62e1735e01205e519346608304a93e6", func := "sodality/sodalitylaw05.DrawNone", spec := "drawNone", unfollowed := true, recurses := true, apart := false, narrowed := true }
def DrawNoneUptoSaid : Prop := drawNoneUptoRow.holds Try.pinned (OpenSpec.upto drawNoneSpec)

end Rows
end Go.Proofs.Ytmjdcbhjpbjihaa
