/-
  No cell of these rows narrows 'for every input' (looked for: loops, veiled, ifaces, maps, wideKeys, modest, calm, conditions, laid).
  DERIVED. THE GIVEN ROWS OF THIS SEAT. 5 by the template 'for every input the law returns true; each argument reads behind the call as it read before'; 0 by the template 'total and deterministic' (their statements: YtoiikjojknnobaaTotals.lean).
  GIVEN WITH THE SEED: the statements are not yours to turn. If you find one false, say at which input.
  Laid BY PROGRAM, IN A SANDBOX (cutbox-rows.mjs): the forced cells as the released guide's own fill.sh prints them over the translation 84863a68e077636e… (all of the seat's roots in one cut). By AI agents, Wed Nov 11 2026. No macro, syntax, notation, axiom, sorry.
-/
import Derived.Test.YtoiikjojknnobaaChecked
import GoSem.Claim
import GoSem.ClaimJoined
import GoSem.ClaimMapViews
import Derived.JoinedTies
import Derived.KernelRfl
namespace Go.Proofs.Ytoiikjojknnobaa
/- THE CELL 'sum', in the pinned program and in every row, IS THE sha256 OF THE DUMP (.gsa) THAT YtoiikjojknnobaaProg.lean LOADS. Nothing in Lean hashes anything: it is a label: what it is worth is what the hold of that sum in a sandbox is worth. -/
noncomputable def Try.pinned : Pinned := { name := "ytoiikjojknnobaa", sum := "84863a68e077636ea7058fa97efd9f7cab4156c0ac1e2f37e9a3e82991be1212", checked := Try.checked }
namespace Rows
def none {H : Type} : Left H := { results := [], args := [] }

/-- 'sodalitylaw12.ProbeRound': WHATEVER THE INPUT: true; the input reads as it did. -/
def probeRoundSpec : ChangeSpec := { name := "probeRound", fn := fun _ => fun
  | [d1, d2, d3] => { results := [.lit (.bool true)], args := [d1, d2, d3] }
  | _ => none }
def probeRoundRow : OpenClaim := { program := "ytoiikjojknnobaa", sum := "84863a68e077636ea7058fa97efd9f7cab4156c0ac1e2f37e9a3e82991be1212", func := "sodality/sodalitylaw12.ProbeRound", spec := "probeRound", unfollowed := true, recurses := true, apart := false }
def ProbeRoundSaid : Prop := probeRoundRow.holds Try.pinned (OpenSpec.ofChange probeRoundSpec)

/-- ITS FALSE NEIGHBOUR: 'it returns false'. Refute it at one input. -/
def probeRoundWrong : ChangeSpec := { name := "probeRound", fn := fun _ => fun
  | [d1, d2, d3] => { results := [.lit (.bool false)], args := [d1, d2, d3] }
  | _ => none }
def ProbeRoundWrongFalsely : Prop := probeRoundRow.holds Try.pinned (OpenSpec.ofChange probeRoundWrong)

/-- 'sodalitylaw12.ProbeLive': WHATEVER THE INPUT: true; the input reads as it did. -/
def probeLiveSpec : ChangeSpec := { name := "probeLive", fn := fun _ => fun
  | [d1, d2, d3] => { results := [.lit (.bool true)], args := [d1, d2, d3] }
  | _ => none }
def probeLiveRow : OpenClaim := { program := "ytoiikjojknnobaa", sum := "84863a68e077636ea7058fa97efd9f7cab4156c0ac1e2f37e9a3e82991be1212", func := "sodality/sodalitylaw12.ProbeLive", spec := "probeLive", unfollowed := true, recurses := true, apart := false }
def ProbeLiveSaid : Prop := probeLiveRow.holds Try.pinned (OpenSpec.ofChange probeLiveSpec)

/-- ITS FALSE NEIGHBOUR: 'it returns false'. Refute it at one input. -/
def probeLiveWrong : ChangeSpec := { name := "probeLive", fn := fun _ => fun
  | [d1, d2, d3] => { results := [.lit (.bool false)], args := [d1, d2, d3] }
  | _ => none }
def ProbeLiveWrongFalsely : Prop := probeLiveRow.holds Try.pinned (OpenSpec.ofChange probeLiveWrong)

/-- 'sodalitylaw12.ProbeOthers': WHATEVER THE INPUT: true; the input reads as it did. -/
def probeOthersSpec : ChangeSpec := { name := "probeOthers", fn := fun _ => fun
  | [d1, d2, d3] => { results := [.lit (.bool true)], args := [d1, d2, d3] }
  | _ => none }
def probeOthersRow : OpenClaim := { program := "ytoiikjojknnobaa", sum := "84863a68e077636ea7058fa97efd9f7cab4156c0ac1e2f37e9a3e82991be1212", func := "sodality/sodalitylaw12.ProbeOthers", spec := "probeOthers", unfollowed := true, recurses := true, apart := false }
def ProbeOthersSaid : Prop := probeOthersRow.holds Try.pinned (OpenSpec.ofChange probeOthersSpec)

/-- ITS FALSE NEIGHBOUR: 'it returns false'. Refute it at one input. -/
def probeOthersWrong : ChangeSpec := { name := "probeOthers", fn := fun _ => fun
  | [d1, d2, d3] => { results := [.lit (.bool false)], args := [d1, d2, d3] }
  | _ => none }
def ProbeOthersWrongFalsely : Prop := probeOthersRow.holds Try.pinned (OpenSpec.ofChange probeOthersWrong)

/-- 'sodalitylaw12.ProbePlays': WHATEVER THE INPUT: true; the input reads as it did. -/
def probePlaysSpec : ChangeSpec := { name := "probePlays", fn := fun _ => fun
  | [d1, d2] => { results := [.lit (.bool true)], args := [d1, d2] }
  | _ => none }
def probePlaysRow : OpenClaim := { program := "ytoiikjojknnobaa", sum := "84863a68e077636ea7058fa97efd9f7cab4156c0ac1e2f37e9a3e82991be1212", func := "sodality/sodalitylaw12.ProbePlays", spec := "probePlays", unfollowed := true, recurses := true, apart := false }
def ProbePlaysSaid : Prop := probePlaysRow.holds Try.pinned (OpenSpec.ofChange probePlaysSpec)

/-- ITS FALSE NEIGHBOUR: 'it returns false'. Refute it at one input. -/
def probePlaysWrong : ChangeSpec := { name := "probePlays", fn := fun _ => fun
  | [d1, d2] => { results := [.lit (.bool false)], args := [d1, d2] }
  | _ => none }
def ProbePlaysWrongFalsely : Prop := probePlaysRow.holds Try.pinned (OpenSpec.ofChange probePlaysWrong)

/-- 'sodalitylaw12.ProbeNone': WHATEVER THE INPUT: true; the input reads as it did. -/
def probeNoneSpec : ChangeSpec := { name := "probeNone", fn := fun _ => fun
  | [d] => { results := [.lit (.bool true)], args := [d] }
  | _ => none }
def probeNoneRow : OpenClaim := { program := "ytoiikjojknnobaa", sum := "84863a68e077636ea7058fa97efd9f7cab4156c0ac1e2f37e9a3e82991be1212", func := "sodality/sodalitylaw12.ProbeNone", spec := "probeNone", unfollowed := true, recurses := true, apart := false }
def ProbeNoneSaid : Prop := probeNoneRow.holds Try.pinned (OpenSpec.ofChange probeNoneSpec)

/-- ITS FALSE NEIGHBOUR: 'it returns false'. Refute it at one input. -/
def probeNoneWrong : ChangeSpec := { name := "probeNone", fn := fun _ => fun
  | [d] => { results := [.lit (.bool false)], args := [d] }
  | _ => none }
def ProbeNoneWrongFalsely : Prop := probeNoneRow.holds Try.pinned (OpenSpec.ofChange probeNoneWrong)

/- THE SECOND FORM. 'bulk': how many values and letters a reading holds, each counted each time it is reached (what is shared counts as often as it is met; a slice's spare places count too). A statement '..UptoSaid' is the law's where the arguments, and the package variables that the reading takes, are together of bulk at most 1048576: NARROWER than '..Said'. Prove '..Said' where nothing that the law and all that it calls make is longer than what came in: it says more and counts as full. Else prove '..UptoSaid'. A law counts once. -/
mutual
def uptoBulk {H : Type} : DataW H → Nat
  | .lit (.string bytes) => bytes.length + 1
  | .lit _ => 1
  | .nil => 1
  | .ptr d => uptoBulk d + 1
  | .slice elems spare => uptoBulkAll elems + uptoBulkAll spare + 1
  | .agg parts => uptoBulkAll parts + 1
  | .iface _ d => uptoBulk d + 1
  | .map entries => uptoBulkEntries entries + 1
  | .held _ => 1
def uptoBulkAll {H : Type} : List (DataW H) → Nat
  | [] => 0
  | d :: r => uptoBulk d + uptoBulkAll r
def uptoBulkEntries {H : Type} : List (Lit × DataW H) → Nat
  | [] => 0
  | x :: r => uptoBulkEntry x + uptoBulkEntries r
def uptoBulkEntry {H : Type} : Lit × DataW H → Nat
  | (.string bytes, d) => bytes.length + uptoBulk d + 1
  | (_, d) => uptoBulk d + 1
 end
def uptoSmall : (H : Type) → List (DataW H) → Bool := fun _ ds => decide (uptoBulkAll ds ≤ 1048576)
def OpenSpec.upto (s : _root_.Go.ChangeSpec) : _root_.Go.OpenSpec := { _root_.Go.OpenSpec.ofChange s with cond := some uptoSmall }

/-- 'sodalitylaw12.ProbeRound', WHERE WHAT IT READS IS OF BULK AT MOST 1048576: true; the input reads as it did. -/
def probeRoundUptoRow : OpenClaim := { program := "ytoiikjojknnobaa", sum := "84863a68e077636ea7058fa97efd9f7cab4156c0ac1e2f37e9a3e82991be1212", func := "sodality/sodalitylaw12.ProbeRound", spec := "probeRound", unfollowed := true, recurses := true, apart := false, narrowed := true }
def ProbeRoundUptoSaid : Prop := probeRoundUptoRow.holds Try.pinned (OpenSpec.upto probeRoundSpec)

/-- 'sodalitylaw12.ProbeLive', WHERE WHAT IT READS IS OF BULK AT MOST 1048576: true; the input reads as it did. -/
def probeLiveUptoRow : OpenClaim := { program := "ytoiikjojknnobaa", sum := "84863a68e077636ea7058fa97efd9f7cab4156c0ac1e2f37e9a3e82991be1212", func := "sodality/sodalitylaw12.ProbeLive", spec := "probeLive", unfollowed := true, recurses := true, apart := false, narrowed := true }
def ProbeLiveUptoSaid : Prop := probeLiveUptoRow.holds Try.pinned (OpenSpec.upto probeLiveSpec)

/-- 'sodalitylaw12.ProbeOthers', WHERE WHAT IT READS IS OF BULK AT MOST 1048576: true; the input reads as it did. -/
def probeOthersUptoRow : OpenClaim := { program := "ytoiikjojknnobaa", sum := "84863a68e077636ea7058fa97efd9f7cab4156c0ac1e2f37e9a3e82991be1212", func := "sodality/sodalitylaw12.ProbeOthers", spec := "probeOthers", unfollowed := true, recurses := true, apart := false, narrowed := true }
def ProbeOthersUptoSaid : Prop := probeOthersUptoRow.holds Try.pinned (OpenSpec.upto probeOthersSpec)

/-- 'sodalitylaw12.ProbePlays', WHERE WHAT IT READS IS OF BULK AT MOST 1048576: true; the input reads as it did. -/
def probePlaysUptoRow : OpenClaim := { program := "ytoiikjojknnobaa", sum := "84863a68e077636ea7058fa97efd9f7cab4156c0ac1e2f37e9a3e82991be1212", func := "sodality/sodalitylaw12.ProbePlays", spec := "probePlays", unfollowed := true, recurses := true, apart := false, narrowed := true }
def ProbePlaysUptoSaid : Prop := probePlaysUptoRow.holds Try.pinned (OpenSpec.upto probePlaysSpec)

/-- 'sodalitylaw12.ProbeNone', WHERE WHAT IT READS IS OF BULK AT MOST 1048576: true; the input reads as it did. -/
def probeNoneUptoRow : OpenClaim := { program := "ytoiikjojknnobaa", sum := "84863a68e077636ea7058fa97efd9f7cab4156c0ac1e2f37e9a3e82991be1212", func := "sodality/sodalitylaw12.ProbeNone", spec := "probeNone", unfollowed := true, recurses := true, apart := false, narrowed := true }
def ProbeNoneUptoSaid : Prop := probeNoneUptoRow.holds Try.pinned (OpenSpec.upto probeNoneSpec)

end Rows
end Go.Proofs.Ytoiikjojknnobaa
