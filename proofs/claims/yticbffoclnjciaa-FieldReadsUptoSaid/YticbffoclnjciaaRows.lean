/-
  No cell of these rows narrows 'for every input' (looked for: loops, veiled, ifaces, maps, wideKeys, modest, calm, conditions, laid).
  DERIVED. THE GIVEN ROWS OF THIS SEAT. 5 by the template 'for every input the law returns true; each argument reads behind the call as it read before'; 0 by the template 'total and deterministic' (their statements: YticbffoclnjciaaTotals.lean).
  GIVEN WITH THE SEED: the statements are not yours to turn. If you find one false, say at which input.
  Laid BY PROGRAM, IN A SANDBOX (cutbox-rows.mjs): the forced cells as the released guide's own fill.sh prints them over the translation bfa285574db8fbdd… (all of the seat's roots in one cut). By AI agents, Wed Nov 11 2026. No macro, syntax, notation, axiom, sorry.
-/
import Derived.Test.YticbffoclnjciaaChecked
import GoSem.Claim
import GoSem.ClaimJoined
import GoSem.ClaimMapViews
import Derived.JoinedTies
import Derived.KernelRfl
namespace Go.Proofs.Yticbffoclnjciaa
/- THE CELL 'sum', in the pinned program and in every row, IS THE sha256 OF THE DUMP (.gsa) THAT YticbffoclnjciaaProg.lean LOADS. Nothing in Lean hashes anything: it is a label: what it is worth is what the hold of that sum in a sandbox is worth. -/
noncomputable def Try.pinned : Pinned := { name := "yticbffoclnjciaa", sum := "bfa285574db8fbdd3752194d088bb8001939755e0514074502b6c5c184f49960", checked := Try.checked }
namespace Rows
def none {H : Type} : Left H := { results := [], args := [] }

/-- 'sodalitylaw04.FieldLays': WHATEVER THE INPUT: true; the input reads as it did. -/
def fieldLaysSpec : ChangeSpec := { name := "fieldLays", fn := fun _ => fun
  | [d1, d2, d3] => { results := [.lit (.bool true)], args := [d1, d2, d3] }
  | _ => none }
def fieldLaysRow : OpenClaim := { program := "yticbffoclnjciaa", sum := "bfa285574db8fbdd3752194d088bb8001939755e0514074502b6c5c184f49960", func := "sodality/sodalitylaw04.FieldLays", spec := "fieldLays", unfollowed := true, recurses := true, apart := false }
def FieldLaysSaid : Prop := fieldLaysRow.holds Try.pinned (OpenSpec.ofChange fieldLaysSpec)

/-- ITS FALSE NEIGHBOUR: 'it returns false'. Refute it at one input. -/
def fieldLaysWrong : ChangeSpec := { name := "fieldLays", fn := fun _ => fun
  | [d1, d2, d3] => { results := [.lit (.bool false)], args := [d1, d2, d3] }
  | _ => none }
def FieldLaysWrongFalsely : Prop := fieldLaysRow.holds Try.pinned (OpenSpec.ofChange fieldLaysWrong)

/-- 'sodalitylaw04.FieldNone': WHATEVER THE INPUT: true; the input reads as it did. -/
def fieldNoneSpec : ChangeSpec := { name := "fieldNone", fn := fun _ => fun
  | [d] => { results := [.lit (.bool true)], args := [d] }
  | _ => none }
def fieldNoneRow : OpenClaim := { program := "yticbffoclnjciaa", sum := "bfa285574db8fbdd3752194d088bb8001939755e0514074502b6c5c184f49960", func := "sodality/sodalitylaw04.FieldNone", spec := "fieldNone", unfollowed := true, recurses := true, apart := false }
def FieldNoneSaid : Prop := fieldNoneRow.holds Try.pinned (OpenSpec.ofChange fieldNoneSpec)

/-- ITS FALSE NEIGHBOUR: 'it returns false'. Refute it at one input. -/
def fieldNoneWrong : ChangeSpec := { name := "fieldNone", fn := fun _ => fun
  | [d] => { results := [.lit (.bool false)], args := [d] }
  | _ => none }
def FieldNoneWrongFalsely : Prop := fieldNoneRow.holds Try.pinned (OpenSpec.ofChange fieldNoneWrong)

/-- 'sodalitylaw04.FieldReads': WHATEVER THE INPUT: true; the input reads as it did. -/
def fieldReadsSpec : ChangeSpec := { name := "fieldReads", fn := fun _ => fun
  | [d1, d2] => { results := [.lit (.bool true)], args := [d1, d2] }
  | _ => none }
def fieldReadsRow : OpenClaim := { program := "yticbffoclnjciaa", sum := "bfa285574db8fbdd3752194d088bb8001939755e0514074502b6c5c184f49960", func := "sodality/sodalitylaw04.FieldReads", spec := "fieldReads", unfollowed := true, recurses := true, apart := false }
def FieldReadsSaid : Prop := fieldReadsRow.holds Try.pinned (OpenSpec.ofChange fieldReadsSpec)

/-- ITS FALSE NEIGHBOUR: 'it returns false'. Refute it at one input. -/
def fieldReadsWrong : ChangeSpec := { name := "fieldReads", fn := fun _ => fun
  | [d1, d2] => { results := [.lit (.bool false)], args := [d1, d2] }
  | _ => none }
def FieldReadsWrongFalsely : Prop := fieldReadsRow.holds Try.pinned (OpenSpec.ofChange fieldReadsWrong)

/-- 'sodalitylaw04.FieldBack': WHATEVER THE INPUT: true; the input reads as it did. -/
def fieldBackSpec : ChangeSpec := { name := "fieldBack", fn := fun _ => fun
  | [d1, d2, d3] => { results := [.lit (.bool true)], args := [d1, d2, d3] }
  | _ => none }
def fieldBackRow : OpenClaim := { program := "yticbffoclnjciaa", sum := "bfa285574db8fbdd3752194d088bb8001939755e0514074502b6c5c184f49960", func := "sodality/sodalitylaw04.FieldBack", spec := "fieldBack", unfollowed := true, recurses := true, apart := false }
def FieldBackSaid : Prop := fieldBackRow.holds Try.pinned (OpenSpec.ofChange fieldBackSpec)

/-- ITS FALSE NEIGHBOUR: 'it returns false'. Refute it at one input. -/
def fieldBackWrong : ChangeSpec := { name := "fieldBack", fn := fun _ => fun
  | [d1, d2, d3] => { results := [.lit (.bool false)], args := [d1, d2, d3] }
  | _ => none }
def FieldBackWrongFalsely : Prop := fieldBackRow.holds Try.pinned (OpenSpec.ofChange fieldBackWrong)

/-- 'sodalitylaw04.FieldOnce': WHATEVER THE INPUT: true; the input reads as it did. -/
def fieldOnceSpec : ChangeSpec := { name := "fieldOnce", fn := fun _ => fun
  | [d] => { results := [.lit (.bool true)], args := [d] }
  | _ => none }
def fieldOnceRow : OpenClaim := { program := "yticbffoclnjciaa", sum := "bfa285574db8fbdd3752194d088bb8001939755e0514074502b6c5c184f49960", func := "sodality/sodalitylaw04.FieldOnce", spec := "fieldOnce", unfollowed := true, recurses := true, apart := false }
def FieldOnceSaid : Prop := fieldOnceRow.holds Try.pinned (OpenSpec.ofChange fieldOnceSpec)

/-- ITS FALSE NEIGHBOUR: 'it returns false'. Refute it at one input. -/
def fieldOnceWrong : ChangeSpec := { name := "fieldOnce", fn := fun _ => fun
  | [d] => { results := [.lit (.bool false)], args := [d] }
  | _ => none }
def FieldOnceWrongFalsely : Prop := fieldOnceRow.holds Try.pinned (OpenSpec.ofChange fieldOnceWrong)

/- THE SECOND FORM. 'bulk': how many values and letters a reading holds, each counted each time it is reached (what is shared counts as often as it is met; a slice's spare places count too). A statement '..UptoSaid' is the law's where the arguments, and the package variables that the reading takes, are together of bulk at most 1048576: NARROWER than '..Said'. Prove '..Said' where nothing that the law and all that it calls make is longer than what came in: it says more and counts as full. Else prove '..UptoSaid'. A law counts once. -/
mutual
def uptoBulk {H : Type} : DataW H → Nat
  | .lit (.string bytes) => bytes.length + 1
  | .lit _ => 1
  | .nil => 1
  | .ptr d => uptoBulk d + 1
  | .slice elems spare => uptoBulkAll elems + uptoBulkAll spare + 1
  | .agg parts => uptoBulkAll parts + 1
  | .iface _ d => uptoBulk d + 1
  | .map entries => uptoBulkEntries entries + 1
  | .held _ => 1
def uptoBulkAll {H : Type} : List (DataW H) → Nat
  | [] => 0
  | d :: r => uptoBulk d + uptoBulkAll r
def uptoBulkEntries {H : Type} : List (Lit × DataW H) → Nat
  | [] => 0
  | x :: r => uptoBulkEntry x + uptoBulkEntries r
def uptoBulkEntry {H : Type} : Lit × DataW H → Nat
  | (.string bytes, d) => bytes.length + uptoBulk d + 1
  | (_, d) => uptoBulk d + 1
 end
def uptoSmall : (H : Type) → List (DataW H) → Bool := fun _ ds => decide (uptoBulkAll ds ≤ 1048576)
def OpenSpec.upto (s : _root_.Go.ChangeSpec) : _root_.Go.OpenSpec := { _root_.Go.OpenSpec.ofChange s with cond := some uptoSmall }

/-- 'sodalitylaw04.FieldLays', WHERE WHAT IT READS IS OF BULK AT MOST 1048576: true; the input reads as it did. -/
def fieldLaysUptoRow : OpenClaim := { program := "yticbffoclnjciaa", sum := "bfa285574db8fbdd3752194d088bb8001939755e0514074502b6c5c184f49960", func := "sodality/sodalitylaw04.FieldLays", spec := "fieldLays", unfollowed := true, recurses := true, apart := false, narrowed := true }
def FieldLaysUptoSaid : Prop := fieldLaysUptoRow.holds Try.pinned (OpenSpec.upto fieldLaysSpec)

/-- 'sodalitylaw04.FieldNone', WHERE WHAT IT READS IS OF BULK AT MOST 1048576: true; the input reads as it did. -/
def fieldNoneUptoRow : OpenClaim := { program := "yticbffoclnjciaa", sum := "bfa285574db8fbdd3752194d088bb8001939755e0514074502b6c5c184f49960", func := "sodality/sodalitylaw04.FieldNone", spec := "fieldNone", unfollowed := true, recurses := true, apart := false, narrowed := true }
def FieldNoneUptoSaid : Prop := fieldNoneUptoRow.holds Try.pinned (OpenSpec.upto fieldNoneSpec)

/-- 'sodalitylaw04.FieldReads', WHERE WHAT IT READS IS OF BULK AT MOST 1048576: true; the input reads as it did. -/
def fieldReadsUptoRow : OpenClaim := { program := "yticbffoclnjciaa", sum := "bfa285574db8fbdd3752194d088bb8001939755e0514074502b6c5c184f49960", func := "sodality/sodalitylaw04.FieldReads", spec := "fieldReads", unfollowed := true, recurses := true, apart := false, narrowed := true }
def FieldReadsUptoSaid : Prop := fieldReadsUptoRow.holds Try.pinned (OpenSpec.upto fieldReadsSpec)

/-- 'sodalitylaw04.FieldBack', WHERE WHAT IT READS IS OF BULK AT MOST 1048576: true; the input reads as it did. -/
def fieldBackUptoRow : OpenClaim := { program := "yticbffoclnjciaa", sum := "bfa285574db8fbdd3752194d088bb8001939755e0514074502b6c5c184f49960", func := "sodality/sodalitylaw04.FieldBack", spec := "fieldBack", unfollowed := true, recurses := true, apart := false, narrowed := true }
def FieldBackUptoSaid : Prop := fieldBackUptoRow.holds Try.pinned (OpenSpec.upto fieldBackSpec)

/-- 'sodalitylaw04.FieldOnce', WHERE WHAT IT READS IS OF BULK AT MOST 1048576: true; the input reads as it did. -/
def fieldOnceUptoRow : OpenClaim := { program := "yticbffoclnjciaa", sum := "bfa285574db8fbdd3752194d088bb8001939755e0514074502b6c5c184f49960", func := "sodality/sodalitylaw04.FieldOnce", spec := "fieldOnce", unfollowed := true, recurses := true, apart := false, narrowed := true }
def FieldOnceUptoSaid : Prop := fieldOnceUptoRow.holds Try.pinned (OpenSpec.upto fieldOnceSpec)

end Rows
end Go.Proofs.Yticbffoclnjciaa
