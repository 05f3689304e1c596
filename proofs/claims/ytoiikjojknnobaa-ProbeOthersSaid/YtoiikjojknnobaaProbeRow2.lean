/- The law ProbeOthers, of what is read. -/
import Derived.Test.YtoiikjojknnobaaOpenArr
import Derived.Test.YtoiikjojknnobaaProbeOthers
namespace Go.Proofs.Ytoiikjojknnobaa
open Go.RowKit
set_option linter.unusedVariables false
theorem probeOthers_row {w : World} {ok : Nat → Prop} {A : Option Addr} {c : Nat} {xs : List Int} (h : (Kd.int .u32).C w ok A xs) (hc : xs.length ≤ c) (hb : ∀ x ∈ xs, 0 ≤ x ∧ x < 4294967296) (m : Int) {ok2 : Nat → Prop} {x : Int × Int} {cs : Array Value} (hx : (Kd.pair (intA .i64) (intA .i64)).K w ok2 x cs.toList) :
    Calls Try.prog 5 #[.slice A xs.length c, .int .u8 m, .agg cs] w fun e w' => e = .returned (.bool true) ∧ Chg nob w w' := by
  obtain ⟨c0, c1, e, h0, h1⟩ := hx
  have h0' : c0 = [.int .i64 x.1] := h0.1
  have h1' : c1 = [.int .i64 x.2] := h1.1
  subst h0' h1'
  obtain rfl : cs = #[.int .i64 x.1, .int .i64 x.2] := by cases cs; simpa using e
  exact probeOthers_walk h hc hb m x.1 x.2
end Go.Proofs.Ytoiikjojknnobaa
