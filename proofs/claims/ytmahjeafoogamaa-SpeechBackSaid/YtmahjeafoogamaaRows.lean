/-
  No cell of these rows narrows 'for every input' (looked for: loops, veiled, ifaces, maps, wideKeys, modest, calm, conditions, laid).
  DERIVED. THE GIVEN ROWS OF THIS SEAT. 6 by the template 'for every input the law returns true; each argument reads behind the call as it read before'; 0 by the template 'total and deterministic' (their statements: YtmahjeafoogamaaTotals.lean).
  GIVEN WITH THE SEED: the statements are not yours to turn. If you find one false, say at which input.
  Laid BY PROGRAM, IN A SANDBOX (cutbox-rows.mjs): the forced cells as the released guide's own fill.sh prints them over the translation c39c8572ccf710b8… (all of the seat's roots in one cut). By AI agents, Wed Nov 11 2026. No macro, syntax, notation, axiom, sorry.
-/
import Derived.Test.YtmahjeafoogamaaChecked
import GoSem.Claim
import GoSem.ClaimJoined
import GoSem.ClaimMapViews
import Derived.JoinedTies
import Derived.KernelRfl
namespace Go.Proofs.Ytmahjeafoogamaa
/- THE CELL 'sum', in the pinned program and in every row, IS THE sha256 OF THE DUMP (.gsa) THAT YtmahjeafoogamaaProg.lean LOADS. Nothing in Lean hashes anything: it is a label: what it is worth is what the hold of that sum in a sandbox is worth. -/
noncomputable def Try.pinned : Pinned := { name := "ytmahjeafoogamaa", sum := "c39c8572ccf710b853a4e133cd617319451d756a21e8e138e3796e2da4bed97a", checked := Try.checked }
namespace Rows
def none {H : Type} : Left H := { results := [], args := [] }

/-- 'sodalitylaw13.SpeechPuts': WHATEVER THE INPUT: true; the input reads as it did. -/
def speechPutsSpec : ChangeSpec := { name := "speechPuts", fn := fun _ => fun
  | [d] => { results := [.lit (.bool true)], args := [d] }
  | _ => none }
def speechPutsRow : OpenClaim := { program := "ytmahjeafoogamaa", sum := "c39c8572ccf710b853a4e133cd617319451d756a21e8e138e3796e2da4bed97a", func := "sodality/sodalitylaw13.SpeechPuts", spec := "speechPuts", apart := false }
def SpeechPutsSaid : Prop := speechPutsRow.holds Try.pinned (OpenSpec.ofChange speechPutsSpec)

/-- ITS FALSE NEIGHBOUR: 'it returns false'. Refute it at one input. -/
def speechPutsWrong : ChangeSpec := { name := "speechPuts", fn := fun _ => fun
  | [d] => { results := [.lit (.bool false)], args := [d] }
  | _ => none }
def SpeechPutsWrongFalsely : Prop := speechPutsRow.holds Try.pinned (OpenSpec.ofChange speechPutsWrong)

/-- 'sodalitylaw13.SpeechGets': WHATEVER THE INPUT: true; the input reads as it did. -/
def speechGetsSpec : ChangeSpec := { name := "speechGets", fn := fun _ => fun
  | [d] => { results := [.lit (.bool true)], args := [d] }
  | _ => none }
def speechGetsRow : OpenClaim := { program := "ytmahjeafoogamaa", sum := "c39c8572ccf710b853a4e133cd617319451d756a21e8e138e3796e2da4bed97a", func := "sodality/sodalitylaw13.SpeechGets", spec := "speechGets", unfollowed := true, recurses := true, apart := false }
def SpeechGetsSaid : Prop := speechGetsRow.holds Try.pinned (OpenSpec.ofChange speechGetsSpec)

/-- ITS FALSE NEIGHBOUR: 'it returns false'. Refute it at one input. -/
def speechGetsWrong : ChangeSpec := { name := "speechGets", fn := fun _ => fun
  | [d] => { results := [.lit (.bool false)], args := [d] }
  | _ => none }
def SpeechGetsWrongFalsely : Prop := speechGetsRow.holds Try.pinned (OpenSpec.ofChange speechGetsWrong)

/-- 'sodalitylaw13.SpeechFrames': WHATEVER THE INPUT: true; the input reads as it did. -/
def speechFramesSpec : ChangeSpec := { name := "speechFrames", fn := fun _ => fun
  | [d] => { results := [.lit (.bool true)], args := [d] }
  | _ => none }
def speechFramesRow : OpenClaim := { program := "ytmahjeafoogamaa", sum := "c39c8572ccf710b853a4e133cd617319451d756a21e8e138e3796e2da4bed97a", func := "sodality/sodalitylaw13.SpeechFrames", spec := "speechFrames", unfollowed := true, recurses := true, apart := false }
def SpeechFramesSaid : Prop := speechFramesRow.holds Try.pinned (OpenSpec.ofChange speechFramesSpec)

/-- ITS FALSE NEIGHBOUR: 'it returns false'. Refute it at one input. -/
def speechFramesWrong : ChangeSpec := { name := "speechFrames", fn := fun _ => fun
  | [d] => { results := [.lit (.bool false)], args := [d] }
  | _ => none }
def SpeechFramesWrongFalsely : Prop := speechFramesRow.holds Try.pinned (OpenSpec.ofChange speechFramesWrong)

/-- 'sodalitylaw13.SpeechPackets': WHATEVER THE INPUT: true; the input reads as it did. -/
def speechPacketsSpec : ChangeSpec := { name := "speechPackets", fn := fun _ => fun
  | [d1, d2] => { results := [.lit (.bool true)], args := [d1, d2] }
  | _ => none }
def speechPacketsRow : OpenClaim := { program := "ytmahjeafoogamaa", sum := "c39c8572ccf710b853a4e133cd617319451d756a21e8e138e3796e2da4bed97a", func := "sodality/sodalitylaw13.SpeechPackets", spec := "speechPackets", unfollowed := true, recurses := true, apart := false }
def SpeechPacketsSaid : Prop := speechPacketsRow.holds Try.pinned (OpenSpec.ofChange speechPacketsSpec)

/-- ITS FALSE NEIGHBOUR: 'it returns false'. Refute it at one input. -/
def speechPacketsWrong : ChangeSpec := { name := "speechPackets", fn := fun _ => fun
  | [d1, d2] => { results := [.lit (.bool false)], args := [d1, d2] }
  | _ => none }
def SpeechPacketsWrongFalsely : Prop := speechPacketsRow.holds Try.pinned (OpenSpec.ofChange speechPacketsWrong)

/-- 'sodalitylaw13.SpeechBack': WHATEVER THE INPUT: true; the input reads as it did. -/
def speechBackSpec : ChangeSpec := { name := "speechBack", fn := fun _ => fun
  | [d] => { results := [.lit (.bool true)], args := [d] }
  | _ => none }
def speechBackRow : OpenClaim := { program := "ytmahjeafoogamaa", sum := "c39c8572ccf710b853a4e133cd617319451d756a21e8e138e3796e2da4bed97a", func := "sodality/sodalitylaw13.SpeechBack", spec := "speechBack", unfollowed := true, recurses := true, apart := false }
def SpeechBackSaid : Prop := speechBackRow.holds Try.pinned (OpenSpec.ofChange speechBackSpec)

/-- ITS FALSE NEIGHBOUR: 'it returns false'. Refute it at one input. -/
def speechBackWrong : ChangeSpec := { name := "speechBack", fn := fun _ => fun
  | [d] => { results := [.lit (.bool false)], args := [d] }
  | _ => none }
def SpeechBackWrongFalsely : Prop := speechBackRow.holds Try.pinned (OpenSpec.ofChange speechBackWrong)

/-- 'sodalitylaw13.SpeechOnce': WHATEVER THE INPUT: true; the input reads as it did. -/
def speechOnceSpec : ChangeSpec := { name := "speechOnce", fn := fun _ => fun
  | [d] => { results := [.lit (.bool true)], args := [d] }
  | _ => none }
def speechOnceRow : OpenClaim := { program := "ytmahjeafoogamaa", sum := "c39c8572ccf710b853a4e133cd617319451d756a21e8e138e3796e2da4bed97a", func := "sodality/sodalitylaw13.SpeechOnce", spec := "speechOnce", unfollowed := true, recurses := true, apart := false }
def SpeechOnceSaid : Prop := speechOnceRow.holds Try.pinned (OpenSpec.ofChange speechOnceSpec)

/-- ITS FALSE NEIGHBOUR: 'it returns false'. Refute it at one input. -/
def speechOnceWrong : ChangeSpec := { name := "speechOnce", fn := fun _ => fun
  | [d] => { results := [.lit (.bool false)], args := [d] }
  | _ => none }
def SpeechOnceWrongFalsely : Prop := speechOnceRow.holds Try.pinned (OpenSpec.ofChange speechOnceWrong)

/- THE SECOND FORM. 'bulk': how many values and letters a reading holds, each counted each time it is reached (what is shared counts as often as it is met; a slice's spare places count too). A statement '..UptoSaid' is the law's where the arguments, and the package variables that the reading takes, are together of bulk at most 1048576: NARROWER than '..Said'. Prove '..Said' where nothing that the law and all that it calls make is longer than what came in: it says more and counts as full. Else prove '..UptoSaid'. A law counts once. -/
mutual
def uptoBulk {H : Type} : DataW H → Nat
  | .lit (.string bytes) => bytes.length + 1
  | .lit _ => 1
  | .nil => 1
  | .ptr d => uptoBulk d + 1
  | .slice elems spare => uptoBulkAll elems + uptoBulkAll spare + 1
  | .agg parts => uptoBulkAll parts + 1
  | .iface _ d => uptoBulk d + 1
  | .map entries => uptoBulkEntries entries + 1
  | .held _ => 1
def uptoBulkAll {H : Type} : List (DataW H) → Nat
  | [] => 0
  | d :: r => uptoBulk d + uptoBulkAll r
def uptoBulkEntries {H : Type} : List (Lit × DataW H) → Nat
  | [] => 0
  | x :: r => uptoBulkEntry x + uptoBulkEntries r
def uptoBulkEntry {H : Type} : Lit × DataW H → Nat
  | (.string bytes, d) => bytes.length + uptoBulk d + 1
  | (_, d) => uptoBulk d + 1
 end
def uptoSmall : (H : Type) → List (DataW H) → Bool := fun _ ds => decide (uptoBulkAll ds ≤ 1048576)
def OpenSpec.upto (s : _root_.Go.ChangeSpec) : _root_.Go.OpenSpec := { _root_.Go.OpenSpec.ofChange s with cond := some uptoSmall }

/-- 'sodalitylaw13.SpeechPuts', WHERE WHAT IT READS IS OF BULK AT MOST 1048576: true; the input reads as it did. -/
def speechPutsUptoRow : OpenClaim := { program := "ytmahjeafoogamaa", sum := "c39c8572ccf710b853a4e133cd617319451d756a21e8e138e3796e2da4bed97a", func := "sodality/sodalitylaw13.SpeechPuts", spec := "speechPuts", apart := false, narrowed := true }
def SpeechPutsUptoSaid : Prop := speechPutsUptoRow.holds Try.pinned (OpenSpec.upto speechPutsSpec)

/-- 'sodalitylaw13.SpeechGets', WHERE WHAT IT READS IS OF BULK AT MOST 1048576: true; the input reads as it did. -/
def speechGetsUptoRow : OpenClaim := { program := "ytmahjeafoogamaa", sum := "c39c8572ccf710b853a4e133cd617319451d756a21e8e138e3796e2da4bed97a", func := "sodality/sodalitylaw13.SpeechGets", spec := "speechGets", unfollowed := true, recurses := true, apart := false, narrowed := true }
def SpeechGetsUptoSaid : Prop := speechGetsUptoRow.holds Try.pinned (OpenSpec.upto speechGetsSpec)

/-- 'sodalitylaw13.SpeechFrames', WHERE WHAT IT READS IS OF BULK AT MOST 1048576: true; the input reads as it did. -/
def speechFramesUptoRow : OpenClaim := { program := "ytmahjeafoogamaa", sum := "c39c8572ccf710b853a4e133cd617319451d756a21e8e138e3796e2da4bed97a", func := "sodality/sodalitylaw13.SpeechFrames", spec := "speechFrames", unfollowed := true, recurses := true, apart := false, narrowed := true }
def SpeechFramesUptoSaid : Prop := speechFramesUptoRow.holds Try.pinned (OpenSpec.upto speechFramesSpec)

/-- 'sodalitylaw13.SpeechPackets', WHERE WHAT IT READS IS OF BULK AT MOST 1048576: true; the input reads as it did. -/
def speechPacketsUptoRow : OpenClaim := { program := "ytmahjeafoogamaa", sum := "c39c8572ccf710b853a4e133cd617319451d756a21e8e138e3796e2da4bed97a", func := "sodality/sodalitylaw13.SpeechPackets", spec := "speechPackets", unfollowed := true, recurses := true, apart := false, narrowed := true }
def SpeechPacketsUptoSaid : Prop := speechPacketsUptoRow.holds Try.pinned (OpenSpec.upto speechPacketsSpec)

/-- 'sodalitylaw13.SpeechBack', WHERE WHAT IT READS IS OF BULK AT MOST 1048576: true; the input reads as it did. -/
def speechBackUptoRow : OpenClaim := { program := "ytmahjeafoogamaa", sum := "c39c8572ccf710b853a4e133cd617319451d756a21e8e138e3796e2da4bed97a", func := "sodality/sodalitylaw13.SpeechBack", spec := "speechBack", unfollowed := true, recurses := true, apart := false, narrowed := true }
def SpeechBackUptoSaid : Prop := speechBackUptoRow.holds Try.pinned (OpenSpec.upto speechBackSpec)

/-- 'sodalitylaw13.SpeechOnce', WHERE WHAT IT READS IS OF BULK AT MOST 1048576: true; the input reads as it did. -/
def speechOnceUptoRow : OpenClaim := { program := "ytmahjeafoogamaa", sum := "c39c8572ccf710b853a4e133cd617319451d756a21e8e138e3796e2da4bed97a", func := "sodality/sodalitylaw13.SpeechOnce", spec := "speechOnce", unfollowed := true, recurses := true, apart := false, narrowed := true }
def SpeechOnceUptoSaid : Prop := speechOnceUptoRow.holds Try.pinned (OpenSpec.upto speechOnceSpec)

end Rows
end Go.Proofs.Ytmahjeafoogamaa
