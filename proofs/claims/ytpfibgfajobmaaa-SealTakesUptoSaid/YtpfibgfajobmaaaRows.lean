/-
  No cell of these rows narrows 'for every input' (looked for: loops, veiled, ifaces, maps, wideKeys, modest, calm, conditions, laid).
  DERIVED. THE GIVEN ROWS OF THIS SEAT. 3 by the template 'for every input the law returns true; each argument reads behind the call as it read before'; 0 by the template 'total and deterministic' (their statements: YtpfibgfajobmaaaTotals.lean).
  GIVEN WITH THE SEED: the statements are not yours to turn. If you find one false, say at which input.
  Laid BY PROGRAM, IN A SANDBOX (cutbox-rows.mjs): the forced cells as the released guide's own fill.sh prints them over the translation 76ea83f94e6c5c23… (all of the seat's roots in one cut). By AI agents, Wed Nov 11 2026. No macro, syntax, notation, axiom, sorry.
-/
import Derived.Test.YtpfibgfajobmaaaChecked
import GoSem.Claim
import GoSem.ClaimJoined
import GoSem.ClaimMapViews
import Derived.JoinedTies
import Derived.KernelRfl
namespace Go.Proofs.Ytpfibgfajobmaaa
/- THE CELL 'sum', in the pinned program and in every row, IS THE sha256 OF THE DUMP (.gsa) THAT YtpfibgfajobmaaaProg.lean LOADS. Nothing in Lean hashes anything: it is a label: what it is worth is what the hold of that sum in a sandbox is worth. -/
noncomputable def Try.pinned : Pinned := { name := "ytpfibgfajobmaaa", sum := "76ea83f94e6c5c2383462609af9f61deae9be9a4f0dc02f68f3bd0390f2f4b02", checked := Try.checked }
namespace Rows
def none {H : Type} : Left H := { results := [], args := [] }

/-- 'sodalitylaw33.SealRounds': WHATEVER THE INPUT: true; the input reads as it did. -/
def sealRoundsSpec : ChangeSpec := { name := "sealRounds", fn := fun _ => fun
  | [d1, d2] => { results := [.lit (.bool true)], args := [d1, d2] }
  | _ => none }
def sealRoundsRow : OpenClaim := { program := "ytpfibgfajobmaaa", sum := "76ea83f94e6c5c2383462609af9f61deae9be9a4f0dc02f68f3bd0390f2f4b02", func := "sodality/sodalitylaw33.SealRounds", spec := "sealRounds", apart := false }
def SealRoundsSaid : Prop := sealRoundsRow.holds Try.pinned (OpenSpec.ofChange sealRoundsSpec)

/-- ITS FALSE NEIGHBOUR: 'it returns false'. Refute it at one input. -/
def sealRoundsWrong : ChangeSpec := { name := "sealRounds", fn := fun _ => fun
  | [d1, d2] => { results := [.lit (.bool false)], args := [d1, d2] }
  | _ => none }
def SealRoundsWrongFalsely : Prop := sealRoundsRow.holds Try.pinned (OpenSpec.ofChange sealRoundsWrong)

/-- 'sodalitylaw33.SealSums': WHATEVER THE INPUT: true; the input reads as it did. -/
def sealSumsSpec : ChangeSpec := { name := "sealSums", fn := fun _ => fun
  | [d1, d2] => { results := [.lit (.bool true)], args := [d1, d2] }
  | _ => none }
def sealSumsRow : OpenClaim := { program := "ytpfibgfajobmaaa", sum := "76ea83f94e6c5c2383462609af9f61deae9be9a4f0dc02f68f3bd0390f2f4b02", func := "sodality/sodalitylaw33.SealSums", spec := "sealSums", apart := false }
def SealSumsSaid : Prop := sealSumsRow.holds Try.pinned (OpenSpec.ofChange sealSumsSpec)

/-- ITS FALSE NEIGHBOUR: 'it returns false'. Refute it at one input. -/
def sealSumsWrong : ChangeSpec := { name := "sealSums", fn := fun _ => fun
  | [d1, d2] => { results := [.lit (.bool false)], args := [d1, d2] }
  | _ => none }
def SealSumsWrongFalsely : Prop := sealSumsRow.holds Try.pinned (OpenSpec.ofChange sealSumsWrong)

/-- 'sodalitylaw33.SealTakes': WHATEVER THE INPUT: true; the input reads as it did. -/
def sealTakesSpec : ChangeSpec := { name := "sealTakes", fn := fun _ => fun
  | [d1, d2] => { results := [.lit (.bool true)], args := [d1, d2] }
  | _ => none }
def sealTakesRow : OpenClaim := { program := "ytpfibgfajobmaaa", sum := "76ea83f94e6c5c2383462609af9f61deae9be9a4f0dc02f68f3bd0390f2f4b02", func := "sodality/sodalitylaw33.SealTakes", spec := "sealTakes", apart := false }
def SealTakesSaid : Prop := sealTakesRow.holds Try.pinned (OpenSpec.ofChange sealTakesSpec)

/-- ITS FALSE NEIGHBOUR: 'it returns false'. Refute it at one input. -/
def sealTakesWrong : ChangeSpec := { name := "sealTakes", fn := fun _ => fun
  | [d1, d2] => { results := [.lit (.bool false)], args := [d1, d2] }
  | _ => none }
def SealTakesWrongFalsely : Prop := sealTakesRow.holds Try.pinned (OpenSpec.ofChange sealTakesWrong)

/- THE SECOND FORM. 'bulk': how many values and letters a reading holds, each counted each time it is reached (what is shared counts as often as it is met; a slice's spare places count too). A statement '..UptoSaid' is the law's where the arguments, and the package variables that the reading takes, are together of bulk at most 1048576: NARROWER than '..Said'. Prove '..Said' where nothing that the law and all that it calls make is longer than what came in: it says more and counts as full. Else prove '..UptoSaid'. A law counts once. -/
mutual
def uptoBulk {H : Type} : DataW H → Nat
  | .lit (.string bytes) => bytes.length + 1
  | .lit _ => 1
  | .nil => 1
  | .ptr d => uptoBulk d + 1
  | .slice elems spare => uptoBulkAll elems + uptoBulkAll spare + 1
  | .agg parts => uptoBulkAll parts + 1
  | .iface _ d => uptoBulk d + 1
  | .map entries => uptoBulkEntries entries + 1
  | .held _ => 1
def uptoBulkAll {H : Type} : List (DataW H) → Nat
  | [] => 0
  | d :: r => uptoBulk d + uptoBulkAll r
def uptoBulkEntries {H : Type} : List (Lit × DataW H) → Nat
  | [] => 0
  | x :: r => uptoBulkEntry x + uptoBulkEntries r
def uptoBulkEntry {H : Type} : Lit × DataW H → Nat
  | (.string bytes, d) => bytes.length + uptoBulk d + 1
  | (_, d) => uptoBulk d + 1
 end
def uptoSmall : (H : Type) → List (DataW H) → Bool := fun _ ds => decide (uptoBulkAll ds ≤ 1048576)
def OpenSpec.upto (s : _root_.Go.ChangeSpec) : _root_.Go.OpenSpec := { _root_.Go.OpenSpec.ofChange s with cond := some uptoSmall }

/-- 'sodalitylaw33.SealRounds', WHERE WHAT IT READS IS OF BULK AT MOST 1048576: true; the input reads as it did. -/
def sealRoundsUptoRow : OpenClaim := { program := "ytpfibgfajobmaaa", sum := "76ea83f94e6c5c2383462609af9f61deae9be9a4f0dc02f68f3bd0390f2f4b02", func := "sodality/sodalitylaw33.SealRounds", spec := "sealRounds", apart := false, narrowed := true }
def SealRoundsUptoSaid : Prop := sealRoundsUptoRow.holds Try.pinned (OpenSpec.upto sealRoundsSpec)

/-- 'sodalitylaw33.SealSums', WHERE WHAT IT READS IS OF BULK AT MOST 1048576: true; the input reads as it did. -/
def sealSumsUptoRow : OpenClaim := { program := "ytpfibgfajobmaaa", sum := "76ea83f94e6c5c2383462609af9f61deae9be9a4f0dc02f68f3bd0390f2f4b02", func := "sodality/sodalitylaw33.SealSums", spec := "sealSums", apart := false, narrowed := true }
def SealSumsUptoSaid : Prop := sealSumsUptoRow.holds Try.pinned (OpenSpec.upto sealSumsSpec)

/-- 'sodalitylaw33.SealTakes', WHERE WHAT IT READS IS OF BULK AT MOST 1048576: true; the input reads as it did. -/
def sealTakesUptoRow : OpenClaim := { program := "ytpfibgfajobmaaa", sum := "76ea83f94e6c5c2383462609af9f61deae9be9a4f0dc02f68f3bd0390f2f4b02", func := "sodality/sodalitylaw33.SealTakes", spec := "sealTakes", apart := false, narrowed := true }
def SealTakesUptoSaid : Prop := sealTakesUptoRow.holds Try.pinned (OpenSpec.upto sealTakesSpec)

end Rows
end Go.Proofs.Ytpfibgfajobmaaa
