/- The law FailoverBehind of what is read. -/
import Derived.Test.YthjlgcooihpakaaFoRow
import Derived.Test.YthjlgcooihpakaaFoBehind
namespace Go.Proofs.Ythjlgcooihpakaa
open Go.RowKit
set_option linter.unusedVariables false
theorem foBehind_row {w : World} {x : List ByteArray × ByteArray × Int} {cs : Array Value} (h : upW.K w (fun b => b < w.heap.size) x cs.toList) {B : Option Addr} {lc : Nat} {ls : List Ans} (hL : ansW.C w (fun b => b < w.heap.size) B ls) {y : Ans} {ds : Array Value} (hY : ansW.K w (fun b => b < w.heap.size) y ds.toList) :
    Calls Try.prog 3 #[.agg cs, .slice B ls.length lc, .agg ds] w fun e w' => e = .returned (.bool true) ∧ Chg nob w w' := by
  obtain ⟨T, c, rfl, hT, hl, hs, ht⟩ := up_arg h
  exact foBehind_walk hT (ans_le.C hL) (ans_le.2 hY) rfl rfl hl hs ht (fun b hb => hb) (fun b hb => hb)
end Go.Proofs.Ythjlgcooihpakaa
