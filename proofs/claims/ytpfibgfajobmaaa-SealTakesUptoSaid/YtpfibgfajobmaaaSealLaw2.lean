/- The law SealSums: the walk. -/
import Derived.Test.YtpfibgfajobmaaaSealWorks
import Derived.Test.YtpfibgfajobmaaaSealRef
import Derived.Test.YtpfibgfajobmaaaOpenArr
import Derived.Deep.RegionHeld3
import Derived.Deep.DrawnRows
namespace Go.Proofs.Ytpfibgfajobmaaa
open Go.RowKit
set_option linter.unusedVariables false
theorem row2_cells {w : World} {g t : Nat} {a b : Value} (h : w.heap[g]? = some (.cells #[a, b] t (0, 0))) : w.cell? ⟨g, 0, none⟩ = some a ∧ w.cell? ⟨g, 1, none⟩ = some b :=
  ⟨by rw [cell_of_row w g 0 _ _ _ h]; rfl, by rw [cell_of_row w g 1 _ _ _ h]; rfl⟩
/-- The key, in block n; the bytes. -/
structure KeySt (w0 : World) (n k0 k1 : Nat) (A : Option Addr) (bs : List UInt8) (w : World) : Prop where
  c : w.cell? ⟨n, 0, none⟩ = some (.int .u64 k0) ∧ w.cell? ⟨n, 1, none⟩ = some (.int .u64 k1)
  b : Kd.byte.C w (fun b => b < w0.heap.size) A bs
  chg : Chg nob w0 w
section
variable {w0 w w' : World} {n k0 k1 : Nat} {A : Option Addr} {bs : List UInt8}
theorem KeySt.new (h : KeySt w0 n k0 k1 A bs w) (hc : Chg nob w w') : KeySt w0 n k0 k1 A bs w' :=
  ⟨⟨hc.cell h.c.1 (not_nob _), hc.cell h.c.2 (not_nob _)⟩, Kd.C_new h.b hc, h.chg.thenNew hc⟩
theorem KeySt.lt (h : KeySt w0 n k0 k1 A bs w) : ∀ b, b < w0.heap.size → b < w.heap.size := fun b hb => Nat.lt_of_lt_of_le hb h.chg.size
theorem key_start {w : World} (t k0 k1 : Nat) {A : Option Addr} {bs : List UInt8} (hb : Kd.byte.C w (fun b => b < w.heap.size) A bs) : KeySt w w.heap.size k0 k1 A bs (w.alloc (.cells #[.int .u64 k0, .int .u64 k1] t)) :=
  ⟨row2_cells (heap_alloc_new w _), Kd.C_new hb ((Chg.refl _ _).alloc _), (Chg.refl _ _).alloc _⟩
theorem key_sum (h : KeySt w0 n k0 k1 A bs w) (h0 : k0 < 18446744073709551616) (h1 : k1 < 18446744073709551616) {m c : Nat} (hm : bs.length = m) (hmc : m ≤ c) :
    Calls Try.prog 9 #[.agg #[.int .u64 k0, .int .u64 k1], .slice A m c] w fun e w' => e = .returned (.int .u64 (sumN k0 k1 bs)) ∧ KeySt w0 n k0 k1 A bs w' :=
  (s_sum h0 h1 h.b h.lt hm hmc).mono fun e w' ⟨he, hc⟩ => ⟨he, h.new hc⟩
theorem key_rsum (h : KeySt w0 n k0 k1 A bs w) (h0 : k0 < 18446744073709551616) (h1 : k1 < 18446744073709551616) {m c : Nat} (hm : bs.length = m) (hl : m ≤ 1000000000) :
    Calls Try.prog 10 #[.int .u64 k0, .int .u64 k1, .slice A m c] w fun e w' => e = .returned (.int .u64 (sumN k0 k1 bs)) ∧ KeySt w0 n k0 k1 A bs w' :=
  (r_sum h0 h1 h.b h.lt hm hl).mono fun e w' ⟨he, hc⟩ => ⟨he, h.new hc⟩
theorem key_works (h : KeySt w0 n k0 k1 A bs w) : Calls Try.prog 8 #[] w fun e w' => e = .returned (.bool true) ∧ KeySt w0 n k0 k1 A bs w' :=
  (seal_works w).mono fun e w' ⟨he, hc⟩ => ⟨he, h.new hc⟩
end
set_option maxRecDepth 100000 in
set_option maxHeartbeats 2000000 in
theorem sealSums_walk {w : World} {k0 k1 : Nat} (h0 : k0 < 18446744073709551616) (h1 : k1 < 18446744073709551616) {A : Option Addr} {m c : Nat} {bs : List UInt8} (hb : Kd.byte.C w (fun b => b < w.heap.size) A bs) (hm : bs.length = m) (hmc : m ≤ c) (hl : m ≤ 1000000000) :
    Calls Try.prog 4 #[.agg #[.int .u64 k0, .int .u64 k1], .slice A m c] w fun e w' => e = .returned (.bool true) ∧ Chg nob w w' := by
  have hst := key_start 27 k0 k1 hb
  have hst' := hst.new ((Chg.refl _ _).drew)
  have HM := Lib.hid hm
  clear hb hm
  go_enter Try.func4, Try.ntmps4
  go_wp2
  go_region_held3 (fun w' => w'.cell? ⟨w.heap.size, 0, none⟩ = some (.int .u64 k0) ∧ w'.cell? ⟨w.heap.size, 1, none⟩ = some (.int .u64 k1)) (exact KeySt.c (by assumption))
    (first | (go_at_call 9; refine (key_sum (by assumption) h0 h1 HM.out hmc).mono ?_; rintro e w' ⟨rfl, hq⟩) | (go_at_call 10; refine (key_rsum (by assumption) h0 h1 HM.out hl).mono ?_; rintro e w' ⟨rfl, hq⟩) | (go_at_call 8; refine (key_works (by assumption)).mono ?_; rintro e w' ⟨rfl, hq⟩))
  go_wp2
  all_goals
    go_ret
    exact ⟨rfl, hq.chg⟩
theorem sealSums_row {w : World} {x : Int × Int} {cs : Array Value} (h : (Kd.pair (intK .u64) (intK .u64)).K w (fun b => b < w.heap.size) x cs.toList) {A : Option Addr} {c : Nat} {bs : List UInt8} (hb : Kd.byte.C w (fun b => b < w.heap.size) A bs) (hmc : bs.length ≤ c) (hB : bulkL (fun _ => 1) bs + 1 ≤ 1048576) :
    Calls Try.prog 4 #[.agg cs, .slice A bs.length c] w fun e w' => e = .returned (.bool true) ∧ Chg nob w w' := by
  obtain ⟨a, b, rfl, h1, h2⟩ := ints2_cells h
  have := bulkL_len (fun _ : UInt8 => 1) (fun _ => Nat.le_refl _) bs
  exact sealSums_walk h1 h2 hb rfl hmc (by omega)
end Go.Proofs.Ytpfibgfajobmaaa
