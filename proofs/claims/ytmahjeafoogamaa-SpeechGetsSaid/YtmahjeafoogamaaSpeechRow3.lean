/- Frames as arguments within the form's reach, as they are read. -/
import Derived.Test.YtmahjeafoogamaaSpeechGets
import Derived.Test.YtmahjeafoogamaaFrameKd
import Derived.Test.YtmahjeafoogamaaOpenS
namespace Go.Proofs.Ytmahjeafoogamaa
open Go.RowKit
set_option linter.unusedVariables false
abbrev frS3 : Kd (UInt8 × List UInt8) := Kd.pair Kd.byte (Kd.such (Kd.slice Kd.byte) (fun l => l.length * 1 ≤ 140737488351232))
theorem frS_arg3 {w : World} {ok : Nat → Prop} {x : UInt8 × List UInt8} {cs : Array Value} (h : frS3.K w ok x cs.toList) : ∃ B d, cs = #[.int .u8 x.1.toNat, .slice B x.2.length d] ∧ Kd.byte.C w ok B x.2 ∧ x.2.length ≤ d ∧ x.2.length ≤ 140737488355328 := by
  obtain ⟨c0, c1, e, h0, ⟨⟨B, d, rfl, hl, h5⟩, hsz⟩⟩ := h
  have h0' : c0 = [.int .u8 x.1.toNat] := h0
  subst h0'
  refine ⟨B, d, ?_, h5, hl, by omega⟩
  cases cs
  simpa using e
theorem speechGets_row {w : World} {x : UInt8 × List UInt8} {cs : Array Value} (h : frS3.K w (fun b => b < w.heap.size) x cs.toList) :
    Calls Try.prog 4 #[.agg cs] w fun e w' => e = .returned (.bool true) ∧ Chg nob w w' := by
  obtain ⟨B, d, rfl, hb, hl, hs⟩ := frS_arg3 h
  exact speechGets_walk hb rfl hs hl
end Go.Proofs.Ytmahjeafoogamaa
