/- A region of open order, operation by operation: small words. -/
import Derived.Test.YtkclceghhebfaaaKit
import Derived.Deep.RegionHeld3
import Derived.Deep.DrawnRows
namespace Go.Proofs.Ytkclceghhebfaaa
open Go.RowKit
set_option linter.unusedVariables false
theorem wpAnyH_weaken {P : Program} {ops : Array Oper} {Q : Exit → Act → World → Prop} {md : Region.Mode} {S S' : World → Prop} (hs : ∀ w, S' w → S w) : ∀ (fuel : Nat) (listed : Array Bool) (a : Act) (w : World), wpAnyH P md ops Q S' fuel listed a w → wpAnyH P md ops Q S fuel listed a w
  | 0, _, _, _, h => h
  | fuel + 1, _, _, _, h => ⟨h.1, fun i hi => wpOp_mono (fun a' w' h' => ⟨hs _ h'.1, wpAnyH_weaken hs fuel _ a' w' h'.2⟩) (h.2 i hi)⟩
theorem pick0 {o : Oper} {l : List Oper} : (o :: l).toArray[0]? = some o := rfl
theorem pickS {o x : Oper} {l : List Oper} {i : Nat} (h : l.toArray[i]? = some x) : (o :: l).toArray[i + 1]? = some x := by simpa using h
end Go.Proofs.Ytkclceghhebfaaa
