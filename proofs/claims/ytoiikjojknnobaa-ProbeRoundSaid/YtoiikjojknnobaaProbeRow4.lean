/- The law ProbeRound, of what is read. -/
import Derived.Test.YtoiikjojknnobaaOpenArr
import Derived.Test.YtoiikjojknnobaaProbeRoundW
namespace Go.Proofs.Ytoiikjojknnobaa
open Go.RowKit
set_option linter.unusedVariables false
theorem wf_u8' {x : Int} (h : (Lit.int .u8 x).wf = true) : 0 ≤ x ∧ x < 256 := by
  simp [Lit.wf, IntKind.min, IntKind.max, IntKind.bits, IntKind.signed] at h
  omega
theorem probeRound_row {w : World} {ok : Nat → Prop} {A : Option Addr} {c : Nat} {xs : List Int} (h : (Kd.int .u32).C w ok A xs) (hc : xs.length ≤ c) (hb : ∀ x ∈ xs, 0 ≤ x ∧ x < 4294967296) {ok2 : Nat → Prop} {x : Int × Int} {cs : Array Value} (hx : (Kd.pair (intA .u8) (intA .u8)).K w ok2 x cs.toList) (bf : Int) (hbf : (Lit.int .u8 bf).wf = true) :
    Calls Try.prog 3 #[.slice A xs.length c, .agg cs, .int .u8 bf] w fun e w' => e = .returned (.bool true) ∧ Chg nob w w' := by
  obtain ⟨c0, c1, e, h0, h1⟩ := hx
  have h0' : c0 = [.int .u8 x.1] := h0.1
  have h1' : c1 = [.int .u8 x.2] := h1.1
  subst h0' h1'
  obtain rfl : cs = #[.int .u8 x.1, .int .u8 x.2] := by cases cs; simpa using e
  exact probeRound_walk h hc hb x.1 x.2 bf (wf_u8' hbf)
end Go.Proofs.Ytoiikjojknnobaa
