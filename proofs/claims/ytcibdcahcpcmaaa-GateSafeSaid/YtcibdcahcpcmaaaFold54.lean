import Derived.Test.YtcibdcahcpcmaaaFold50
import Derived.Test.YtcibdcahcpcmaaaFold53
/- The laws GateDecides and GateSafe of what is read. -/
namespace Go.Proofs.Ytcibdcahcpcmaaa
open Go.RowKit
set_option linter.unusedVariables false
set_option linter.unusedSimpArgs false
theorem gateDecides_row {w : World} {x : Cas} {cs : Array Value} (h : casW.K w (fun b => b < w.heap.size) x cs.toList) :
    Calls Try.prog 3 #[.agg cs] w fun e w' => e = .returned (.bool true) ∧ Chg nob w w' := by
  obtain ⟨NA, c1, AA, c2, A, c, k0, k1, rfl, h0, h1, hN, hA, hB, hc, hl, hd, hz⟩ := (cas_arg h).ex
  exact gateDecides_walk hN hA rfl rfl (fun b hb => hb) hz h0 h1 hB rfl hc hl hd x.2.2.2.2.2
theorem gateSafe_row {w : World} {x : Cas} {cs : Array Value} (h : casW.K w (fun b => b < w.heap.size) x cs.toList) :
    Calls Try.prog 4 #[.agg cs] w fun e w' => e = .returned (.bool true) ∧ Chg nob w w' := by
  obtain ⟨NA, c1, AA, c2, A, c, k0, k1, rfl, h0, h1, hN, hA, hB, hc, hl, hd, hz⟩ := (cas_arg h).ex
  exact gateSafe_walk hN hA rfl rfl (fun b hb => hb) hz h0 h1 hB rfl hc hl hd x.2.2.2.2.2
end Go.Proofs.Ytcibdcahcpcmaaa
