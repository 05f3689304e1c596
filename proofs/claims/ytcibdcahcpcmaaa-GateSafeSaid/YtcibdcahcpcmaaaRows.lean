/-
  No cell of these rows narrows 'for every input' (looked for: loops, veiled, ifaces, maps, wideKeys, modest, calm, conditions, laid).
  DERIVED. THE GIVEN ROWS OF THIS SEAT. 3 by the template 'for every input the law returns true; each argument reads behind the call as it read before'; 0 by the template 'total and deterministic' (their statements: YtcibdcahcpcmaaaTotals.lean).
  GIVEN WITH THE SEED: the statements are not yours to turn. If you find one false, say at which input.
  Laid BY PROGRAM, IN A SANDBOX (cutbox-rows.mjs): the forced cells as the released guide's own fill.sh prints them over the translation 15b0db6170956157… (all of the seat's roots in one cut). By AI agents, Wed Nov 11 2026. No macro, syntax, notation, axiom, sorry.
-/
import Derived.Test.YtcibdcahcpcmaaaChecked
import GoSem.Claim
import GoSem.ClaimJoined
import GoSem.ClaimMapViews
import Derived.JoinedTies
import Derived.KernelRfl
namespace Go.Proofs.Ytcibdcahcpcmaaa
/- THE CELL 'sum', in the pinned program and in every row, IS THE sha256 OF THE DUMP (.gsa) THAT YtcibdcahcpcmaaaProg.lean LOADS. Nothing in Lean hashes anything: it is a label: what it is worth is what the hold of that sum in a sandbox is worth. -/
noncomputable def Try.pinned : Pinned := { name := "ytcibdcahcpcmaaa", sum := "15b0db6170956157292e4f2fe14ff771f84f53a1ee0214dd3806fd9a505fabbc", checked := Try.checked }
namespace Rows
def none {H : Type} : Left H := { results := [], args := [] }

/-- 'sodalitylaw36.GateDecides': WHATEVER THE INPUT: true; the input reads as it did. -/
def gateDecidesSpec : ChangeSpec := { name := "gateDecides", fn := fun _ => fun
  | [d] => { results := [.lit (.bool true)], args := [d] }
  | _ => none }
def gateDecidesRow : OpenClaim := { program := "ytcibdcahcpcmaaa", sum := "15b0db6170956157292e4f2fe14ff771f84f53a1ee0214dd3806fd9a505fabbc", func := "sodality/sodalitylaw36.GateDecides", spec := "gateDecides", inPlace := ["internal/bytealg.IndexByteString", "internal/bytealg.IndexString"], unfollowed := true, recurses := true, named := ["internal/bytealg.MaxLen"], plainKeys := false, apart := false }
def GateDecidesSaid : Prop := gateDecidesRow.holds Try.pinned (OpenSpec.ofChange gateDecidesSpec)

/-- ITS FALSE NEIGHBOUR: 'it returns false'. Refute it at one input. -/
def gateDecidesWrong : ChangeSpec := { name := "gateDecides", fn := fun _ => fun
  | [d] => { results := [.lit (.bool false)], args := [d] }
  | _ => none }
def GateDecidesWrongFalsely : Prop := gateDecidesRow.holds Try.pinned (OpenSpec.ofChange gateDecidesWrong)

/-- 'sodalitylaw36.GateSafe': WHATEVER THE INPUT: true; the input reads as it did. -/
def gateSafeSpec : ChangeSpec := { name := "gateSafe", fn := fun _ => fun
  | [d] => { results := [.lit (.bool true)], args := [d] }
  | _ => none }
def gateSafeRow : OpenClaim := { program := "ytcibdcahcpcmaaa", sum := "15b0db6170956157292e4f2fe14ff771f84f53a1ee0214dd3806fd9a505fabbc", func := "sodality/sodalitylaw36.GateSafe", spec := "gateSafe", inPlace := ["internal/bytealg.IndexByteString", "internal/bytealg.IndexString"], unfollowed := true, recurses := true, named := ["internal/bytealg.MaxLen"], plainKeys := false, apart := false }
def GateSafeSaid : Prop := gateSafeRow.holds Try.pinned (OpenSpec.ofChange gateSafeSpec)

/-- ITS FALSE NEIGHBOUR: 'it returns false'. Refute it at one input. -/
def gateSafeWrong : ChangeSpec := { name := "gateSafe", fn := fun _ => fun
  | [d] => { results := [.lit (.bool false)], args := [d] }
  | _ => none }
def GateSafeWrongFalsely : Prop := gateSafeRow.holds Try.pinned (OpenSpec.ofChange gateSafeWrong)

/-- 'sodalitylaw36.GateForged': WHATEVER THE INPUT: true; the input reads as it did. -/
def gateForgedSpec : ChangeSpec := { name := "gateForged", fn := fun _ => fun
  | [d] => { results := [.lit (.bool true)], args := [d] }
  | _ => none }
def gateForgedRow : OpenClaim := { program := "ytcibdcahcpcmaaa", sum := "15b0db6170956157292e4f2fe14ff771f84f53a1ee0214dd3806fd9a505fabbc", func := "sodality/sodalitylaw36.GateForged", spec := "gateForged", inPlace := ["internal/bytealg.IndexByteString", "internal/bytealg.IndexString"], unfollowed := true, recurses := true, named := ["internal/bytealg.MaxLen"], plainKeys := false, apart := false }
def GateForgedSaid : Prop := gateForgedRow.holds Try.pinned (OpenSpec.ofChange gateForgedSpec)

/-- ITS FALSE NEIGHBOUR: 'it returns false'. Refute it at one input. -/
def gateForgedWrong : ChangeSpec := { name := "gateForged", fn := fun _ => fun
  | [d] => { results := [.lit (.bool false)], args := [d] }
  | _ => none }
def GateForgedWrongFalsely : Prop := gateForgedRow.holds Try.pinned (OpenSpec.ofChange gateForgedWrong)

/- THE SECOND FORM. 'bulk': how many values and letters a reading holds, each counted each time it is reached (what is shared counts as often as it is met; a slice's spare places count too). A statement '..UptoSaid' is the law's where the arguments, and the package variables that the reading takes, are together of bulk at most 1048576: NARROWER than '..Said'. Prove '..Said' where nothing that the law and all that it calls make is longer than what came in: it says more and counts as full. Else prove '..UptoSaid'. A law counts once. -/
mutual
def uptoBulk {H : Type} : DataW H → Nat
  | .lit (.string bytes) => bytes.length + 1
  | .lit _ => 1
  | .nil => 1
  | .ptr d => uptoBulk d + 1
  | .slice elems spare => uptoBulkAll elems + uptoBulkAll spare + 1
  | .agg parts => uptoBulkAll parts + 1
  | .iface _ d => uptoBulk d + 1
  | .map entries => uptoBulkEntries entries + 1
  | .held _ => 1
def uptoBulkAll {H : Type} : List (DataW H) → Nat
  | [] => 0
  | d :: r => uptoBulk d + uptoBulkAll r
def uptoBulkEntries {H : Type} : List (Lit × DataW H) → Nat
  | [] => 0
  | x :: r => uptoBulkEntry x + uptoBulkEntries r
def uptoBulkEntry {H : Type} : Lit × DataW H → Nat
  | (.string bytes, d) => bytes.length + uptoBulk d + 1
  | (_, d) => uptoBulk d + 1
 end
def uptoSmall : (H : Type) → List (DataW H) → Bool := fun _ ds => decide (uptoBulkAll ds ≤ 1048576)
def OpenSpec.upto (s : _root_.Go.ChangeSpec) : _root_.Go.OpenSpec := { _root_.Go.OpenSpec.ofChange s with cond := some uptoSmall }

/-- 'sodalitylaw36.GateDecides', WHERE WHAT IT READS IS OF BULK AT MOST 1048576: true; the input reads as it did. -/
def gateDecidesUptoRow : OpenClaim := { program := "ytcibdcahcpcmaaa", sum := "15b0db6170956157292e4f2fe14ff771f84f53a1ee0214dd3806fd9a505fabbc", func := "sodality/sodalitylaw36.GateDecides", spec := "gateDecides", inPlace := ["internal/bytealg.IndexByteString", "internal/bytealg.IndexString"], unfollowed := true, recurses := true, named := ["internal/bytealg.MaxLen"], plainKeys := false, apart := false, narrowed := true }
def GateDecidesUptoSaid : Prop := gateDecidesUptoRow.holds Try.pinned (OpenSpec.upto gateDecidesSpec)

/-- 'sodalitylaw36.GateSafe', WHERE WHAT IT READS IS OF BULK AT MOST 1048576: true; the input reads as it did. -/
def gateSafeUptoRow : OpenClaim := { program := "ytcibdcahcpcmaaa", sum := "15b0db6170956157292e4f2fe14ff771f84f53a1ee0214dd3806fd9a505fabbc", func := "sodality/sodalitylaw36.GateSafe", spec := "gateSafe", inPlace := ["internal/bytealg.IndexByteString", "internal/bytealg.IndexString"], unfollowed := true, recurses := true, named := ["internal/bytealg.MaxLen"], plainKeys := false, apart := false, narrowed := true }
def GateSafeUptoSaid : Prop := gateSafeUptoRow.holds Try.pinned (OpenSpec.upto gateSafeSpec)

/-- 'sodalitylaw36.GateForged', WHERE WHAT IT READS IS OF BULK AT MOST 1048576: true; the input reads as it did. -/
def gateForgedUptoRow : OpenClaim := { program := "ytcibdcahcpcmaaa", sum := "15b0db6170956157292e4f2fe14ff771f84f53a1ee0214dd3806fd9a505fabbc", func := "sodality/sodalitylaw36.GateForged", spec := "gateForged", inPlace := ["internal/bytealg.IndexByteString", "internal/bytealg.IndexString"], unfollowed := true, recurses := true, named := ["internal/bytealg.MaxLen"], plainKeys := false, apart := false, narrowed := true }
def GateForgedUptoSaid : Prop := gateForgedUptoRow.holds Try.pinned (OpenSpec.upto gateForgedSpec)

end Rows
end Go.Proofs.Ytcibdcahcpcmaaa
