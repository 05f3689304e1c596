/- The law ProbeNone, of what is read. -/
import Derived.Test.YtoiikjojknnobaaProbeRow
import Derived.Test.YtoiikjojknnobaaProbeNone
namespace Go.Proofs.Ytoiikjojknnobaa
open Go.RowKit
set_option linter.unusedVariables false
theorem probeNone_row {w : World} {x : Stp} {cs : Array Value} (h : stpW.K w (fun b => b < w.heap.size) x cs.toList) :
    Calls Try.prog 7 #[.agg cs] w fun e w' => e = .returned (.bool true) ∧ Chg nob w w' := by
  obtain ⟨L, d, e, _, _⟩ := stp_arg h
  obtain rfl : cs = #[.int .i64 x.1, .int .i64 x.2.1, .int .i64 x.2.2.1, .slice L x.2.2.2.length d] := by cases cs; simpa using e
  exact probeNone_walk
end Go.Proofs.Ytoiikjojknnobaa
