/- The law ProbeLive, of what is read. -/
import Derived.Test.YtoiikjojknnobaaProbeRow
import Derived.Test.YtoiikjojknnobaaProbeLive
namespace Go.Proofs.Ytoiikjojknnobaa
open Go.RowKit
set_option linter.unusedVariables false
theorem lives_C {w : World} {ok : Nat → Prop} {A : Option Addr} {xs : List (List Int)} (h : (Kd.slice (wfI .i64)).C w ok A xs) : livesK.C w ok A xs := by
  obtain ⟨h1, inner, hr, hc⟩ := h
  exact ⟨h1, inner, hr.imp (fun x c hx => by obtain ⟨B, d, e, hl, hC⟩ := hx; exact ⟨B, d, e, hl, wfI_C hC⟩), hc⟩
end Go.Proofs.Ytoiikjojknnobaa
