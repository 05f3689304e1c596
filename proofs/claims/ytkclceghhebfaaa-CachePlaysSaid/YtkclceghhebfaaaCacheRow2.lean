/- The law CachePlays of what is read. -/
import Derived.Test.YtkclceghhebfaaaCacheRow
import Derived.Test.YtkclceghhebfaaaCachePlays
namespace Go.Proofs.Ytkclceghhebfaaa
open Go.RowKit
set_option linter.unusedVariables false
theorem cachePlays_row {w : World} {A : Option Addr} {cp : Nat} {ls : List Stp} (hL : stpW.C w (fun b => b < w.heap.size) A ls) :
    Calls Try.prog 5 #[.slice A ls.length cp] w fun e w' => e = .returned (.bool true) ∧ Chg nob w w' :=
  cachePlays_walk (stp_le.C hL) rfl (fun b hb => hb) (fun s hs => (stp_all hL s hs).1)
end Go.Proofs.Ytkclceghhebfaaa
