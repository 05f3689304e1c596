/- Frames as arguments, as they are read. -/
import Derived.Test.YtfaiehhmpmbcjaaFramePuts
import Derived.Test.YtfaiehhmpmbcjaaOpen
namespace Go.Proofs.Ytfaiehhmpmbcjaa
open Go.RowKit
set_option linter.unusedVariables false
abbrev frK : Kd (UInt8 × List UInt8) := Kd.pair Kd.byte (Kd.slice Kd.byte)
theorem fr_cells {w : World} {ok : Nat → Prop} {x : UInt8 × List UInt8} {cs : List Value} (h : frK.K w ok x cs) :
    ∃ B d, cs = [.int .u8 x.1.toNat, .slice B x.2.length d] ∧ Kd.byte.C w ok B x.2 ∧ x.2.length ≤ d := by
  obtain ⟨c0, c1, rfl, h0, ⟨B, d, rfl, hl, h2⟩⟩ := h
  have h0' : c0 = [.int .u8 x.1.toNat] := h0
  subst h0'
  exact ⟨B, d, rfl, h2, hl⟩
theorem framePuts_row {w : World} {A : Option Addr} {c : Nat} {bs : List UInt8} (hb : Kd.byte.C w (fun b => b < w.heap.size) A bs) (hB : bulkL (fun _ => 1) bs + 1 ≤ 1048576)
    {x : UInt8 × List UInt8} {cs : Array Value} (h : frK.K w (fun b => b < w.heap.size) x cs.toList) (q : Int) (hq : (Lit.int .i64 q).wf = true) :
    Calls Try.prog 5 #[.slice A bs.length c, .agg cs, .int .i64 q] w fun e w' => e = .returned (.bool true) ∧ Chg nob w w' := by
  obtain ⟨B, d, hcs, h1, h2⟩ := fr_cells h
  have e : cs = #[.int .u8 x.1.toNat, .slice B x.2.length d] := by cases cs; simpa using hcs
  subst e
  have := bulkL_len (fun _ : UInt8 => 1) (fun _ => Nat.le_refl _) bs
  obtain ⟨q0, q1⟩ := wf_i64 hq
  exact framePuts_walk hb h1 rfl rfl h2 (by omega) q q0 q1
end Go.Proofs.Ytfaiehhmpmbcjaa
