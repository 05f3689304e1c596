/- The law FailoverOrders of what is read. -/
import Derived.Test.YthjlgcooihpakaaApiRow
import Derived.Test.YthjlgcooihpakaaFoOrders
namespace Go.Proofs.Ythjlgcooihpakaa
open Go.RowKit
set_option linter.unusedVariables false
theorem foOrders_row {w : World} {A : Option Addr} {c : Nat} {l : List Svc} (hS : svcW.C w (fun b => b < w.heap.size) A l) (hc : l.length ≤ c) {D : Option Addr} {dc : Nat} {xs : List Int} (hD : (intW .u32).C w (fun b => b < w.heap.size) D xs) (hdc : xs.length ≤ dc) :
    Calls Try.prog 5 #[.slice A l.length c, .slice D xs.length dc] w fun e w' => e = .returned (.bool true) ∧ Chg nob w w' :=
  foOrders_walk (svc_le.C hS) rfl hc (int_le.C hD) hdc (fun x hx => wf_u32 ((Kd.C_all hD).2 x hx)) (fun b hb => hb) (fun b hb => hb)
end Go.Proofs.Ythjlgcooihpakaa
