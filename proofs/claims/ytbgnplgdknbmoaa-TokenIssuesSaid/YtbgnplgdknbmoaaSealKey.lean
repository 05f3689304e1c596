/- The key's block, and the bytes, while sums are taken. -/
import Derived.Test.YtbgnplgdknbmoaaSealRef
namespace Go.Proofs.Ytbgnplgdknbmoaa
open Go.RowKit
set_option linter.unusedVariables false
theorem row2_cells {w : World} {g t : Nat} {a b : Value} (h : w.heap[g]? = some (.cells #[a, b] t (0, 0))) : w.cell? ⟨g, 0, none⟩ = some a ∧ w.cell? ⟨g, 1, none⟩ = some b :=
  ⟨by rw [cell_of_row w g 0 _ _ _ h]; rfl, by rw [cell_of_row w g 1 _ _ _ h]; rfl⟩
/-- The key, in block n; the bytes. -/
structure KeySt (w0 : World) (n k0 k1 : Nat) (A : Option Addr) (bs : List UInt8) (w : World) : Prop where
  c : w.cell? ⟨n, 0, none⟩ = some (.int .u64 k0) ∧ w.cell? ⟨n, 1, none⟩ = some (.int .u64 k1)
  b : Kd.byte.C w (fun b => b < w0.heap.size) A bs
  chg : Chg nob w0 w
section
variable {w0 w w' : World} {n k0 k1 : Nat} {A : Option Addr} {bs : List UInt8}
theorem KeySt.new (h : KeySt w0 n k0 k1 A bs w) (hc : Chg nob w w') : KeySt w0 n k0 k1 A bs w' :=
  ⟨⟨hc.cell h.c.1 (not_nob _), hc.cell h.c.2 (not_nob _)⟩, Kd.C_new h.b hc, h.chg.thenNew hc⟩
theorem KeySt.lt (h : KeySt w0 n k0 k1 A bs w) : ∀ b, b < w0.heap.size → b < w.heap.size := fun b hb => Nat.lt_of_lt_of_le hb h.chg.size
theorem key_start {w : World} (t k0 k1 : Nat) {A : Option Addr} {bs : List UInt8} (hb : Kd.byte.C w (fun b => b < w.heap.size) A bs) : KeySt w w.heap.size k0 k1 A bs (w.alloc (.cells #[.int .u64 k0, .int .u64 k1] t)) :=
  ⟨row2_cells (heap_alloc_new w _), Kd.C_new hb ((Chg.refl _ _).alloc _), (Chg.refl _ _).alloc _⟩
theorem key_sum (h : KeySt w0 n k0 k1 A bs w) (h0 : k0 < 18446744073709551616) (h1 : k1 < 18446744073709551616) {m c : Nat} (hm : bs.length = m) (hmc : m ≤ c) :
    Calls Try.prog 40 #[.agg #[.int .u64 k0, .int .u64 k1], .slice A m c] w fun e w' => e = .returned (.int .u64 (sumN k0 k1 bs)) ∧ KeySt w0 n k0 k1 A bs w' :=
  (s_sum h0 h1 h.b h.lt hm hmc).mono fun e w' ⟨he, hc⟩ => ⟨he, h.new hc⟩
theorem key_rsum (h : KeySt w0 n k0 k1 A bs w) (h0 : k0 < 18446744073709551616) (h1 : k1 < 18446744073709551616) {m c : Nat} (hm : bs.length = m) (hl : m ≤ 1000000000) :
    Calls Try.prog 45 #[.int .u64 k0, .int .u64 k1, .slice A m c] w fun e w' => e = .returned (.int .u64 (sumN k0 k1 bs)) ∧ KeySt w0 n k0 k1 A bs w' :=
  (r_sum h0 h1 h.b h.lt hm hl).mono fun e w' ⟨he, hc⟩ => ⟨he, h.new hc⟩
end
end Go.Proofs.Ytbgnplgdknbmoaa
