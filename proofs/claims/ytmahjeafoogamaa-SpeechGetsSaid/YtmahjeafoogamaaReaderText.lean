/- field.Reader: what a call of Text, Flag, Done does. -/
import Derived.Test.YtmahjeafoogamaaReader
namespace Go.Proofs.Ytmahjeafoogamaa
open Go.RowKit
end Go.Proofs.Ytmahjeafoogamaa
