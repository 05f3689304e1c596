/- The laws of tokens, of arguments as they are read. -/
import Derived.Test.YtbgnplgdknbmoaaTokenBack
import Derived.Test.YtbgnplgdknbmoaaOpenArr
namespace Go.Proofs.Ytbgnplgdknbmoaa
open Go.RowKit
set_option linter.unusedVariables false
abbrev tokK : Kd (ByteArray × Int × Int × Int) := Kd.pair (Kd.such Kd.string (fun s => s.size ≤ maxLen)) (Kd.pair (intK .i64) (Kd.pair (intK .u32) (intK .u64)))
theorem tok_cells {w : World} {ok : Nat → Prop} {x : ByteArray × Int × Int × Int} {cs : Array Value} (h : tokK.K w ok x cs.toList) :
    ∃ (s : ByteArray) (nd : Int) (inc idx : Nat), cs = #[.string s, .int .i64 nd, .int .u32 inc, .int .u64 idx] ∧ s.size ≤ 9223372036854775807 ∧ inc < 4294967296 ∧ idx < 18446744073709551616 := by
  obtain ⟨c0, _, hcs, ⟨h0, r0⟩, c1, _, rfl, ⟨h1, r1⟩, c2, c3, rfl, ⟨h2, r2⟩, h3, r3⟩ := h
  have h0' : c0 = [.string x.1] := h0
  have h1' : c1 = [.int .i64 x.2.1] := h1
  have h2' : c2 = [.int .u32 x.2.2.1] := h2
  have h3' : c3 = [.int .u64 x.2.2.2] := h3
  subst h0' h1' h2' h3'
  have q2 := wf_u32 r2
  have q3 := wf_u64 r3
  obtain ⟨a, ha⟩ := Int.eq_ofNat_of_zero_le q2.1
  obtain ⟨b, hb⟩ := Int.eq_ofNat_of_zero_le q3.1
  rw [ha, hb] at hcs
  unfold maxLen at r0
  exact ⟨x.1, x.2.1, a, b, by cases cs; simpa using hcs, r0, by omega, by omega⟩
theorem tokenChecks_row {w : World} {x : Int × Int} {cs : Array Value} (h : (Kd.pair (intK .u64) (intK .u64)).K w (fun b => b < w.heap.size) x cs.toList) {A : Option Addr} {c : Nat} {bs : List UInt8} (hb : Kd.byte.C w (fun b => b < w.heap.size) A bs) (hmc : bs.length ≤ c) (hB : bulkL (fun _ => 1) bs + 1 ≤ 1048576) :
    Calls Try.prog 4 #[.agg cs, .slice A bs.length c] w fun e w' => e = .returned (.bool true) ∧ Chg nob w w' := by
  obtain ⟨a, b, rfl, h1, h2⟩ := ints2_cells h
  have := bulkL_len (fun _ : UInt8 => 1) (fun _ => Nat.le_refl _) bs
  exact tokenChecks_walk h1 h2 hb rfl hmc (by omega)
theorem tokenOnce_row {w : World} {x : Int × Int} {cs : Array Value} (h : (Kd.pair (intK .u64) (intK .u64)).K w (fun b => b < w.heap.size) x cs.toList) {A : Option Addr} {c : Nat} {bs : List UInt8} (hb : Kd.byte.C w (fun b => b < w.heap.size) A bs) (hmc : bs.length ≤ c) (hB : bulkL (fun _ => 1) bs + 1 ≤ 1048576) :
    Calls Try.prog 5 #[.agg cs, .slice A bs.length c] w fun e w' => e = .returned (.bool true) ∧ Chg nob w w' := by
  obtain ⟨a, b, rfl, h1, h2⟩ := ints2_cells h
  have := bulkL_len (fun _ : UInt8 => 1) (fun _ => Nat.le_refl _) bs
  exact tokenOnce_walk h1 h2 hb rfl hmc (by omega)
theorem tokenIssues_row {w : World} {x : Int × Int} {cs : Array Value} (h : (Kd.pair (intK .u64) (intK .u64)).K w (fun b => b < w.heap.size) x cs.toList) {y : ByteArray × Int × Int × Int} {ds : Array Value} (k : tokK.K w (fun b => b < w.heap.size) y ds.toList) :
    Calls Try.prog 3 #[.agg cs, .agg ds] w fun e w' => e = .returned (.bool true) ∧ Chg nob w w' := by
  obtain ⟨a, b, rfl, h1, h2⟩ := ints2_cells h
  obtain ⟨s, nd, inc, idx, rfl, h3, h4, h5⟩ := tok_cells k
  exact tokenIssues_walk h1 h2 s h3 nd inc idx h4 h5
theorem tokenBack_row {w : World} {x : Int × Int} {cs : Array Value} (h : (Kd.pair (intK .u64) (intK .u64)).K w (fun b => b < w.heap.size) x cs.toList) {y : ByteArray × Int × Int × Int} {ds : Array Value} (k : tokK.K w (fun b => b < w.heap.size) y ds.toList) :
    Calls Try.prog 6 #[.agg cs, .agg ds] w fun e w' => e = .returned (.bool true) ∧ Chg nob w w' := by
  obtain ⟨a, b, rfl, h1, h2⟩ := ints2_cells h
  obtain ⟨s, nd, inc, idx, rfl, h3, h4, h5⟩ := tok_cells k
  exact tokenBack_walk h1 h2 s h3 nd inc idx h4 h5
end Go.Proofs.Ytbgnplgdknbmoaa
