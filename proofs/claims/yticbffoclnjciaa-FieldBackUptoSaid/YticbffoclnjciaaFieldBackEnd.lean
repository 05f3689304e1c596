/- The law FieldBack: the walk's bounds out of the argument's bulk. -/
import Derived.Test.YticbffoclnjciaaFieldBack
namespace Go.Proofs.Yticbffoclnjciaa
open Go.RowKit
set_option linter.unusedVariables false
theorem fieldBack_row {w : World} (n : Int) (hn : (Lit.int .u64 n).wf = true) {x : ByteArray × Bool × List ByteArray × List Int} {cs : Array Value} (h : itemK.K w (fun b => b < w.heap.size) x cs.toList) (hx : itemBulk x ≤ 1048576)
    {A : Option Addr} {c : Nat} {bs : List UInt8} (hb : Kd.byte.C w (fun b => b < w.heap.size) A bs) (hB : bulkL (fun _ => 1) bs + 1 ≤ 1048576) :
    Calls Try.prog 6 #[.int .u64 n, .agg cs, .slice A bs.length c] w fun e w' => e = .returned (.bool true) ∧ Chg nob w w' := by
  obtain ⟨B1, e1, B2, e2, hcs, h1, h2, h3, _, _⟩ := item_cells h
  have e : cs = #[.string x.1, .bool x.2.1, .slice B1 x.2.2.1.length e1, .slice B2 x.2.2.2.length e2] := by cases cs; simpa using hcs
  subst e
  obtain ⟨i1, i2, i3⟩ := item_bytes hx h3
  have i4 := bytes_bulk bs
  have h9 := wf_u64 hn
  have hts : ∀ y ∈ x.2.2.1, y.size ≤ 1000000000 := by
    intro y hy
    have := bulkL_mem (fun s : ByteArray => s.size + 1) hy
    unfold itemBulk at hx
    omega
  obtain ⟨k, rfl⟩ := Int.eq_ofNat_of_zero_le (show 0 ≤ n by omega)
  exact fieldBack_walk k (by omega) x.1 x.2.1 h1 h2 rfl rfl h3 hts hb rfl (by omega)
end Go.Proofs.Yticbffoclnjciaa
