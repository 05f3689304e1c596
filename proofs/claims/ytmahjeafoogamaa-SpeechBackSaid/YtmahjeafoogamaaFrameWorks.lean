/- Frames: a frame is put, and taken; the walk of FrameTakes. -/
import Derived.Test.YtmahjeafoogamaaFrameRefTake
import Derived.Lib.SlBytesConst
namespace Go.Proofs.Ytmahjeafoogamaa
open Go.RowKit
/-- What Take and the reference's Take tell, side by side. -/
theorem taken_zero {w : World} {bs : List UInt8} {e : Ending} {w' : World} (h : Taken w bs e w') (he : takeE bs ≠ 0) : Chg nob w w' ∧ e = .returned (.tuple #[.agg #[.int .u8 0, .slice none 0 0], .int .i64 0, .int .i64 (takeE bs)]) := by
  obtain ⟨hc, ⟨_, rfl⟩ | ⟨h0, _⟩⟩ := h
  · exact ⟨hc, rfl⟩
  · exact absurd h0 he
end Go.Proofs.Ytmahjeafoogamaa
