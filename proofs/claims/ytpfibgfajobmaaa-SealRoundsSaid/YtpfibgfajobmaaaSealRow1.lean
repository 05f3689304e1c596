/- The law SealRounds, of arrays as they are read. -/
import Derived.Test.YtpfibgfajobmaaaSealLaw1
import Derived.Test.YtpfibgfajobmaaaOpenArr
namespace Go.Proofs.Ytpfibgfajobmaaa
open Go.RowKit
theorem sealRounds_row {w : World} {ok : Nat → Prop} {x y : Int × Int × Int × Int} {cs ds : Array Value} (h : (Kd.pair (intK .u64) (Kd.pair (intK .u64) (Kd.pair (intK .u64) (intK .u64)))).K w ok x cs.toList) (k : (Kd.pair (intK .u64) (Kd.pair (intK .u64) (Kd.pair (intK .u64) (intK .u64)))).K w ok y ds.toList) :
    Calls Try.prog 3 #[.agg cs, .agg ds] w fun e w' => e = .returned (.bool true) ∧ Chg nob w w' := by
  obtain ⟨a, b, c, d, rfl, h1, h2, h3, h4⟩ := ints4_cells h
  obtain ⟨a', b', c', d', rfl, k1, k2, k3, k4⟩ := ints4_cells k
  exact sealRounds_walk (a := (a, b, c, d)) (b := (a', b', c', d')) ⟨h1, h2, h3, h4⟩ ⟨k1, k2, k3, k4⟩
end Go.Proofs.Ytpfibgfajobmaaa
