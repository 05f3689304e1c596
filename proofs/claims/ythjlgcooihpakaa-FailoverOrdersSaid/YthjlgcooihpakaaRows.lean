/-
  No cell of these rows narrows 'for every input' (looked for: loops, veiled, ifaces, maps, wideKeys, modest, calm, conditions, laid).
  DERIVED. THE GIVEN ROWS OF THIS SEAT. 3 by the template 'for every input the law returns true; each argument reads behind the call as it read before'; 0 by the template 'total and deterministic' (their statements: YthjlgcooihpakaaTotals.lean).
  GIVEN WITH THE SEED: the statements are not yours to turn. If you find one false, say at which input.
  Laid BY PROGRAM, IN A SANDBOX (cutbox-rows.mjs): the forced cells as the released guide's own fill.sh prints them over the translation 0095cddc64650834… (all of the seat's roots in one cut). By AI agents, Wed Nov 11 2026. No macro, syntax, notation, axiom, sorry.
-/
import Derived.Test.YthjlgcooihpakaaChecked
import GoSem.Claim
import GoSem.ClaimJoined
import GoSem.ClaimMapViews
import Derived.JoinedTies
import Derived.KernelRfl
namespace Go.Proofs.Ythjlgcooihpakaa
/- THE CELL 'sum', in the pinned program and in every row, IS THE sha256 OF THE DUMP (.gsa) THAT YthjlgcooihpakaaProg.lean LOADS. Nothing in Lean hashes anything: it is a label: what it is worth is what the hold of that sum in a sandbox is worth. -/
noncomputable def Try.pinned : Pinned := { name := "ythjlgcooihpakaa", sum := "0095cddc64650834896d68f852735d8a9ca0def9d562bcea664f21c3a7296d93", checked := Try.checked }
namespace Rows
def none {H : Type} : Left H := { results := [], args := [] }

/-- 'sodalitylaw31.FailoverBehind': WHATEVER THE INPUT: true; the input reads as it did. -/
def failoverBehindSpec : ChangeSpec := { name := "failoverBehind", fn := fun _ => fun
  | [d1, d2, d3] => { results := [.lit (.bool true)], args := [d1, d2, d3] }
  | _ => none }
def failoverBehindRow : OpenClaim := { program := "ythjlgcooihpakaa", sum := "0095cddc64650834896d68f852735d8a9ca0def9d562bcea664f21c3a7296d93", func := "sodality/sodalitylaw31.FailoverBehind", spec := "failoverBehind", unfollowed := true, recurses := true, apart := false }
def FailoverBehindSaid : Prop := failoverBehindRow.holds Try.pinned (OpenSpec.ofChange failoverBehindSpec)

/-- ITS FALSE NEIGHBOUR: 'it returns false'. Refute it at one input. -/
def failoverBehindWrong : ChangeSpec := { name := "failoverBehind", fn := fun _ => fun
  | [d1, d2, d3] => { results := [.lit (.bool false)], args := [d1, d2, d3] }
  | _ => none }
def FailoverBehindWrongFalsely : Prop := failoverBehindRow.holds Try.pinned (OpenSpec.ofChange failoverBehindWrong)

/-- 'sodalitylaw31.FailoverResolves': WHATEVER THE INPUT: true; the input reads as it did. -/
def failoverResolvesSpec : ChangeSpec := { name := "failoverResolves", fn := fun _ => fun
  | [d1, d2] => { results := [.lit (.bool true)], args := [d1, d2] }
  | _ => none }
def failoverResolvesRow : OpenClaim := { program := "ythjlgcooihpakaa", sum := "0095cddc64650834896d68f852735d8a9ca0def9d562bcea664f21c3a7296d93", func := "sodality/sodalitylaw31.FailoverResolves", spec := "failoverResolves", unfollowed := true, recurses := true, apart := false }
def FailoverResolvesSaid : Prop := failoverResolvesRow.holds Try.pinned (OpenSpec.ofChange failoverResolvesSpec)

/-- ITS FALSE NEIGHBOUR: 'it returns false'. Refute it at one input. -/
def failoverResolvesWrong : ChangeSpec := { name := "failoverResolves", fn := fun _ => fun
  | [d1, d2] => { results := [.lit (.bool false)], args := [d1, d2] }
  | _ => none }
def FailoverResolvesWrongFalsely : Prop := failoverResolvesRow.holds Try.pinned (OpenSpec.ofChange failoverResolvesWrong)

/-- 'sodalitylaw31.FailoverOrders': WHATEVER THE INPUT: true; the input reads as it did. -/
def failoverOrdersSpec : ChangeSpec := { name := "failoverOrders", fn := fun _ => fun
  | [d1, d2] => { results := [.lit (.bool true)], args := [d1, d2] }
  | _ => none }
def failoverOrdersRow : OpenClaim := { program := "ythjlgcooihpakaa", sum := "0095cddc64650834896d68f852735d8a9ca0def9d562bcea664f21c3a7296d93", func := "sodality/sodalitylaw31.FailoverOrders", spec := "failoverOrders", unfollowed := true, recurses := true, apart := false }
def FailoverOrdersSaid : Prop := failoverOrdersRow.holds Try.pinned (OpenSpec.ofChange failoverOrdersSpec)

/-- ITS FALSE NEIGHBOUR: 'it returns false'. Refute it at one input. -/
def failoverOrdersWrong : ChangeSpec := { name := "failoverOrders", fn := fun _ => fun
  | [d1, d2] => { results := [.lit (.bool false)], args := [d1, d2] }
  | _ => none }
def FailoverOrdersWrongFalsely : Prop := failoverOrdersRow.holds Try.pinned (OpenSpec.ofChange failoverOrdersWrong)

/- THE SECOND FORM. 'bulk': how many values and letters a reading holds, each counted each time it is reached (what is shared counts as often as it is met; a slice's spare places count too). A statement '..UptoSaid' is the law's where the arguments, and the package variables that the reading takes, are together of bulk at most 1048576: NARROWER than '..Said'. Prove '..Said' where nothing that the law and all that it calls make is longer than what came in: it says more and counts as full. Else prove '..UptoSaid'. A law counts once. -/
mutual
def uptoBulk {H : Type} : DataW H → Nat
  | .lit (.string bytes) => bytes.length + 1
  | .lit _ => 1
  | .nil => 1
  | .ptr d => uptoBulk d + 1
  | .slice elems spare => uptoBulkAll elems + uptoBulkAll spare + 1
  | .agg parts => uptoBulkAll parts + 1
  | .iface _ d => uptoBulk d + 1
  | .map entries => uptoBulkEntries entries + 1
  | .held _ => 1
def uptoBulkAll {H : Type} : List (DataW H) → Nat
  | [] => 0
  | d :: r => uptoBulk d + uptoBulkAll r
def uptoBulkEntries {H : Type} : List (Lit × DataW H) → Nat
  | [] => 0
  | x :: r => uptoBulkEntry x + uptoBulkEntries r
def uptoBulkEntry {H : Type} : Lit × DataW H → Nat
  | (.string bytes, d) => bytes.length + uptoBulk d + 1
  | (_, d) => uptoBulk d + 1
 end
def uptoSmall : (H : Type) → List (DataW H) → Bool := fun _ ds => decide (uptoBulkAll ds ≤ 1048576)
def OpenSpec.upto (s : _root_.Go.ChangeSpec) : _root_.Go.OpenSpec := { _root_.Go.OpenSpec.ofChange s with cond := some uptoSmall }

/-- 'sodalitylaw31.FailoverBehind', WHERE WHAT IT READS IS OF BULK AT MOST 1048576: true; the input reads as it did. -/
def failoverBehindUptoRow : OpenClaim := { program := "ythjlgcooihpakaa", sum := "0095cddc64650834896d68f852735d8a9ca0def9d562bcea664f21c3a7296d93", func := "sodality/sodalitylaw31.FailoverBehind", spec := "failoverBehind", unfollowed := true, recurses := true, apart := false, narrowed := true }
def FailoverBehindUptoSaid : Prop := failoverBehindUptoRow.holds Try.pinned (OpenSpec.upto failoverBehindSpec)

/-- 'sodalitylaw31.FailoverResolves', WHERE WHAT IT READS IS OF BULK AT MOST 1048576: true; the input reads as it did. -/
def failoverResolvesUptoRow : OpenClaim := { program := "ythjlgcooihpakaa", sum := "0095cddc64650834896d68f852735d8a9ca0def9d562bcea664f21c3a7296d93", func := "sodality/sodalitylaw31.FailoverResolves", spec := "failoverResolves", unfollowed := true, recurses := true, apart := false, narrowed := true }
def FailoverResolvesUptoSaid : Prop := failoverResolvesUptoRow.holds Try.pinned (OpenSpec.upto failoverResolvesSpec)

/-- 'sodalitylaw31.FailoverOrders', WHERE WHAT IT READS IS OF BULK AT MOST 1048576: true; the input reads as it did. -/
def failoverOrdersUptoRow : OpenClaim := { program := "ythjlgcooihpakaa", sum := "0095cddc64650834896d68f852735d8a9ca0def9d562bcea664f21c3a7296d93", func := "sodality/sodalitylaw31.FailoverOrders", spec := "failoverOrders", unfollowed := true, recurses := true, apart := false, narrowed := true }
def FailoverOrdersUptoSaid : Prop := failoverOrdersUptoRow.holds Try.pinned (OpenSpec.upto failoverOrdersSpec)

end Rows
end Go.Proofs.Ythjlgcooihpakaa
