/- The law SealTakes, of arguments as they are read. -/
import Derived.Test.YtpfibgfajobmaaaSealLaw3
import Derived.Test.YtpfibgfajobmaaaOpenArr
namespace Go.Proofs.Ytpfibgfajobmaaa
open Go.RowKit
theorem sealTakes_row {w : World} {x : Int × Int} {cs : Array Value} (h : (Kd.pair (intK .u64) (intK .u64)).K w (fun b => b < w.heap.size) x cs.toList) {A : Option Addr} {c : Nat} {bs : List UInt8} (hb : Kd.byte.C w (fun b => b < w.heap.size) A bs) (hmc : bs.length ≤ c) (hB : bulkL (fun _ => 1) bs + 1 ≤ 1048576) :
    Calls Try.prog 5 #[.agg cs, .slice A bs.length c] w fun e w' => e = .returned (.bool true) ∧ Chg nob w w' := by
  obtain ⟨a, b, rfl, h1, h2⟩ := ints2_cells h
  have := bulkL_len (fun _ : UInt8 => 1) (fun _ => Nat.le_refl _) bs
  exact sealTakes_walk h1 h2 hb rfl hmc (by omega)
end Go.Proofs.Ytpfibgfajobmaaa
