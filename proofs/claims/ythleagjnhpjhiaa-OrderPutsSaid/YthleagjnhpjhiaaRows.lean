/-
  NARROWER THAN 'FOR EVERY INPUT', by the rows' own cells (each row's printed sentence says how): OrderRights: loops · OrderPuts: loops · OrderBack: loops.
  DERIVED. THE GIVEN ROWS OF THIS SEAT. 5 by the template 'for every input the law returns true; each argument reads behind the call as it read before'; 0 by the template 'total and deterministic' (their statements: YthleagjnhpjhiaaTotals.lean).
  GIVEN WITH THE SEED: the statements are not yours to turn. If you find one false, say at which input.
  Laid BY PROGRAM, IN A SANDBOX (cutbox-rows.mjs): the forced cells as the released guide's own fill.sh prints them over the translation a50928fb4f3e862a… (all of the seat's roots in one cut). By AI agents, Wed Nov 11 2026. No macro, syntax, notation, axiom, sorry.
-/
import Derived.Test.YthleagjnhpjhiaaChecked
import GoSem.Claim
import GoSem.ClaimJoined
import GoSem.ClaimMapViews
import Derived.JoinedTies
import Derived.KernelRfl
namespace Go.Proofs.Ythleagjnhpjhiaa
/- THE CELL 'sum', in the pinned program and in every row, IS THE sha256 OF THE DUMP (.gsa) THAT YthleagjnhpjhiaaProg.lean LOADS. Nothing in Lean hashes anything: it is a label: what it is worth is what the hold of that sum in a sandbox is worth. -/
noncomputable def Try.pinned : Pinned := { name := "ythleagjnhpjhiaa", sum := "a50928fb4f3e862a10d313dc213e55c0d7d053cdea415c65e8662a2b868224d2", checked := Try.checked }
namespace Rows
def none {H : Type} : Left H := { results := [], args := [] }

/-- 'sodalitylaw20.OrderRights': WHATEVER THE INPUT: true; the input reads as it did. -/
def orderRightsSpec : ChangeSpec := { name := "orderRights", fn := fun _ => fun
  | [d] => { results := [.lit (.bool true)], args := [d] }
  | _ => none }
def orderRightsRow : OpenClaim := { program := "ythleagjnhpjhiaa", sum := "a50928fb4f3e862a10d313dc213e55c0d7d053cdea415c65e8662a2b868224d2", func := "sodality/sodalitylaw20.OrderRights", spec := "orderRights", unfollowed := true, recurses := true, loops := true, apart := false }
def OrderRightsSaid : Prop := orderRightsRow.holds Try.pinned (OpenSpec.ofChange orderRightsSpec)

/-- ITS FALSE NEIGHBOUR: 'it returns false'. Refute it at one input. -/
def orderRightsWrong : ChangeSpec := { name := "orderRights", fn := fun _ => fun
  | [d] => { results := [.lit (.bool false)], args := [d] }
  | _ => none }
def OrderRightsWrongFalsely : Prop := orderRightsRow.holds Try.pinned (OpenSpec.ofChange orderRightsWrong)

/-- 'sodalitylaw20.OrderPuts': WHATEVER THE INPUT: true; the input reads as it did. -/
def orderPutsSpec : ChangeSpec := { name := "orderPuts", fn := fun _ => fun
  | [d] => { results := [.lit (.bool true)], args := [d] }
  | _ => none }
def orderPutsRow : OpenClaim := { program := "ythleagjnhpjhiaa", sum := "a50928fb4f3e862a10d313dc213e55c0d7d053cdea415c65e8662a2b868224d2", func := "sodality/sodalitylaw20.OrderPuts", spec := "orderPuts", unfollowed := true, recurses := true, loops := true, apart := false }
def OrderPutsSaid : Prop := orderPutsRow.holds Try.pinned (OpenSpec.ofChange orderPutsSpec)

/-- ITS FALSE NEIGHBOUR: 'it returns false'. Refute it at one input. -/
def orderPutsWrong : ChangeSpec := { name := "orderPuts", fn := fun _ => fun
  | [d] => { results := [.lit (.bool false)], args := [d] }
  | _ => none }
def OrderPutsWrongFalsely : Prop := orderPutsRow.holds Try.pinned (OpenSpec.ofChange orderPutsWrong)

/-- 'sodalitylaw20.OrderGets': WHATEVER THE INPUT: true; the input reads as it did. -/
def orderGetsSpec : ChangeSpec := { name := "orderGets", fn := fun _ => fun
  | [d] => { results := [.lit (.bool true)], args := [d] }
  | _ => none }
def orderGetsRow : OpenClaim := { program := "ythleagjnhpjhiaa", sum := "a50928fb4f3e862a10d313dc213e55c0d7d053cdea415c65e8662a2b868224d2", func := "sodality/sodalitylaw20.OrderGets", spec := "orderGets", unfollowed := true, recurses := true, apart := false }
def OrderGetsSaid : Prop := orderGetsRow.holds Try.pinned (OpenSpec.ofChange orderGetsSpec)

/-- ITS FALSE NEIGHBOUR: 'it returns false'. Refute it at one input. -/
def orderGetsWrong : ChangeSpec := { name := "orderGets", fn := fun _ => fun
  | [d] => { results := [.lit (.bool false)], args := [d] }
  | _ => none }
def OrderGetsWrongFalsely : Prop := orderGetsRow.holds Try.pinned (OpenSpec.ofChange orderGetsWrong)

/-- 'sodalitylaw20.OrderBack': WHATEVER THE INPUT: true; the input reads as it did. -/
def orderBackSpec : ChangeSpec := { name := "orderBack", fn := fun _ => fun
  | [d] => { results := [.lit (.bool true)], args := [d] }
  | _ => none }
def orderBackRow : OpenClaim := { program := "ythleagjnhpjhiaa", sum := "a50928fb4f3e862a10d313dc213e55c0d7d053cdea415c65e8662a2b868224d2", func := "sodality/sodalitylaw20.OrderBack", spec := "orderBack", unfollowed := true, recurses := true, loops := true, apart := false }
def OrderBackSaid : Prop := orderBackRow.holds Try.pinned (OpenSpec.ofChange orderBackSpec)

/-- ITS FALSE NEIGHBOUR: 'it returns false'. Refute it at one input. -/
def orderBackWrong : ChangeSpec := { name := "orderBack", fn := fun _ => fun
  | [d] => { results := [.lit (.bool false)], args := [d] }
  | _ => none }
def OrderBackWrongFalsely : Prop := orderBackRow.holds Try.pinned (OpenSpec.ofChange orderBackWrong)

/-- 'sodalitylaw20.OrderOnce': WHATEVER THE INPUT: true; the input reads as it did. -/
def orderOnceSpec : ChangeSpec := { name := "orderOnce", fn := fun _ => fun
  | [d] => { results := [.lit (.bool true)], args := [d] }
  | _ => none }
def orderOnceRow : OpenClaim := { program := "ythleagjnhpjhiaa", sum := "a50928fb4f3e862a10d313dc213e55c0d7d053cdea415c65e8662a2b868224d2", func := "sodality/sodalitylaw20.OrderOnce", spec := "orderOnce", unfollowed := true, recurses := true, apart := false }
def OrderOnceSaid : Prop := orderOnceRow.holds Try.pinned (OpenSpec.ofChange orderOnceSpec)

/-- ITS FALSE NEIGHBOUR: 'it returns false'. Refute it at one input. -/
def orderOnceWrong : ChangeSpec := { name := "orderOnce", fn := fun _ => fun
  | [d] => { results := [.lit (.bool false)], args := [d] }
  | _ => none }
def OrderOnceWrongFalsely : Prop := orderOnceRow.holds Try.pinned (OpenSpec.ofChange orderOnceWrong)

/- THE SECOND FORM. 'bulk': how many values and letters a reading holds, each counted each time it is reached (what is shared counts as often as it is met; a slice's spare places count too). A statement '..UptoSaid' is the law's where the arguments, and the package variables that the reading takes, are together of bulk at most 1048576: NARROWER than '..Said'. Prove '..Said' where nothing that the law and all that it calls make is longer than what came in: it says more and counts as full. Else prove '..UptoSaid'. A law counts once. -/
mutual
def uptoBulk {H : Type} : DataW H → Nat
  | .lit (.string bytes) => bytes.length + 1
  | .lit _ => 1
  | .nil => 1
  | .ptr d => uptoBulk d + 1
  | .slice elems spare => uptoBulkAll elems + uptoBulkAll spare + 1
  | .agg parts => uptoBulkAll parts + 1
  | .iface _ d => uptoBulk d + 1
  | .map entries => uptoBulkEntries entries + 1
  | .held _ => 1
def uptoBulkAll {H : Type} : List (DataW H) → Nat
  | [] => 0
  | d :: r => uptoBulk d + uptoBulkAll r
def uptoBulkEntries {H : Type} : List (Lit × DataW H) → Nat
  | [] => 0
  | x :: r => uptoBulkEntry x + uptoBulkEntries r
def uptoBulkEntry {H : Type} : Lit × DataW H → Nat
  | (.string bytes, d) => bytes.length + uptoBulk d + 1
  | (_, d) => uptoBulk d + 1
 end
def uptoSmall : (H : Type) → List (DataW H) → Bool := fun _ ds => decide (uptoBulkAll ds ≤ 1048576)
def OpenSpec.upto (s : _root_.Go.ChangeSpec) : _root_.Go.OpenSpec := { _root_.Go.OpenSpec.ofChange s with cond := some uptoSmall }

/-- 'sodalitylaw20.OrderRights', WHERE WHAT IT READS IS OF BULK AT MOST 1048576: true; the input reads as it did. -/
def orderRightsUptoRow : OpenClaim := { program := "ythleagjnhpjhiaa", sum := "a50928fb4f3e862a10d313dc213e55c0d7d053cdea415c65e8662a2b868224d2", func := "sodality/sodalitylaw20.OrderRights", spec := "orderRights", unfollowed := true, recurses := true, loops := true, apart := false, narrowed := true }
def OrderRightsUptoSaid : Prop := orderRightsUptoRow.holds Try.pinned (OpenSpec.upto orderRightsSpec)

/-- 'sodalitylaw20.OrderPuts', WHERE WHAT IT READS IS OF BULK AT MOST 1048576: true; the input reads as it did. -/
def orderPutsUptoRow : OpenClaim := { program := "ythleagjnhpjhiaa", sum := "a50928fb4f3e862a10d313dc213e55c0d7d053cdea415c65e8662a2b868224d2", func := "sodality/sodalitylaw20.OrderPuts", spec := "orderPuts", unfollowed := true, recurses := true, loops := true, apart := false, narrowed := true }
def OrderPutsUptoSaid : Prop := orderPutsUptoRow.holds Try.pinned (OpenSpec.upto orderPutsSpec)

/-- 'sodalitylaw20.OrderGets', WHERE WHAT IT READS IS OF BULK AT MOST 1048576: true; the input reads as it did. -/
def orderGetsUptoRow : OpenClaim := { program := "ythleagjnhpjhiaa", sum := "a50928fb4f3e862a10d313dc213e55c0d7d053cdea415c65e8662a2b868224d2", func := "sodality/sodalitylaw20.OrderGets", spec := "orderGets", unfollowed := true, recurses := true, apart := false, narrowed := true }
def OrderGetsUptoSaid : Prop := orderGetsUptoRow.holds Try.pinned (OpenSpec.upto orderGetsSpec)

/-- 'sodalitylaw20.OrderBack', WHERE WHAT IT READS IS OF BULK AT MOST 1048576: true; the input reads as it did. -/
def orderBackUptoRow : OpenClaim := { program := "ythleagjnhpjhiaa", sum := "a50928fb4f3e862a10d313dc213e55c0d7d053cdea415c65e8662a2b868224d2", func := "sodality/sodalitylaw20.OrderBack", spec := "orderBack", unfollowed := true, recurses := true, loops := true, apart := false, narrowed := true }
def OrderBackUptoSaid : Prop := orderBackUptoRow.holds Try.pinned (OpenSpec.upto orderBackSpec)

/-- 'sodalitylaw20.OrderOnce', WHERE WHAT IT READS IS OF BULK AT MOST 1048576: true; the input reads as it did. -/
def orderOnceUptoRow : OpenClaim := { program := "ythleagjnhpjhiaa", sum := "a50928fb4f3e862a10d313dc213e55c0d7d053cdea415c65e8662a2b868224d2", func := "sodality/sodalitylaw20.OrderOnce", spec := "orderOnce", unfollowed := true, recurses := true, apart := false, narrowed := true }
def OrderOnceUptoSaid : Prop := orderOnceUptoRow.holds Try.pinned (OpenSpec.upto orderOnceSpec)

end Rows
end Go.Proofs.Ythleagjnhpjhiaa
