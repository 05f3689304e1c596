/- Steps as arguments, as they are read. -/
import Derived.Test.YtoiikjojknnobaaProbeSt
import Derived.Test.YtoiikjojknnobaaOpen
namespace Go.Proofs.Ytoiikjojknnobaa
open Go.RowKit
set_option linter.unusedVariables false
abbrev wfI (k : IntKind) : Kd Int := Kd.such (Kd.int k) (fun x => (Lit.int k x).wf = true)
theorem wfI_C {w : World} {ok : Nat → Prop} {A : Option Addr} {xs : List Int} {k : IntKind} (h : (wfI k).C w ok A xs) : (Kd.int k).C w ok A xs := by
  obtain ⟨h1, inner, hr, hc⟩ := h
  exact ⟨h1, inner, hr.imp (fun x c hx => hx.1), hc⟩
/-- A step: kind, node, how many, who lives. -/
abbrev Stp := Int × Int × Int × List Int
abbrev stpW : Kd Stp := Kd.pair (wfI .i64) (Kd.pair (wfI .i64) (Kd.pair (wfI .i64) (Kd.slice (wfI .i64))))
theorem stp_arg {w : World} {ok : Nat → Prop} {x : Stp} {cs : List Value} (h : stpW.K w ok x cs) : ∃ L d, cs = [.int .i64 x.1, .int .i64 x.2.1, .int .i64 x.2.2.1, .slice L x.2.2.2.length d] ∧ intK.C w ok L x.2.2.2 ∧ x.2.2.2.length ≤ d := by
  obtain ⟨c0, _, e, h0, c1, _, rfl, h1, c2, _, rfl, h2, ⟨L, d, rfl, hl, h3⟩⟩ := h
  have h0' : c0 = [.int .i64 x.1] := h0.1
  have h1' : c1 = [.int .i64 x.2.1] := h1.1
  have h2' : c2 = [.int .i64 x.2.2.1] := h2.1
  subst h0' h1' h2'
  exact ⟨L, d, e, wfI_C h3, hl⟩
end Go.Proofs.Ytoiikjojknnobaa
