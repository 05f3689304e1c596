/- The seal: what a call of turned, up, half, Round, and the reference's Round does. -/
import Derived.Test.YtbgnplgdknbmoaaKit
import Derived.Test.YtbgnplgdknbmoaaProg
import Derived.Test.YtbgnplgdknbmoaaSealWords
import Derived.Laws.Bits64b
import Derived.Laws.BitsAllLaws
import Derived.StillTailTactics
import Derived.Handy
namespace Go.Proofs.Ytbgnplgdknbmoaa
open Go.RowKit
set_option linter.unusedVariables false
theorem wrap_u64 (n : Nat) : IntKind.u64.wrap (n : Int) = ((n % 18446744073709551616 : Nat) : Int) := by
  show (n : Int) % 18446744073709551616 = _
  omega
theorem turned_val {x k : Nat} (hx : x < 18446744073709551616) (hk : k ≤ 64) : bits .or .u64 (IntKind.u64.wrap ((x : Int) * 2 ^ k)) ((x : Int) / 2 ^ (64 - k)) = ((rot k x : Nat) : Int) := by
  have h1 : 2 ^ (64 - k) * 2 ^ k = 18446744073709551616 := by rw [← Nat.pow_add, show 64 - k + k = 64 from by omega]
  have h2 : 0 < 2 ^ (64 - k) := Nat.two_pow_pos _
  have e1 : ((x : Int) * 2 ^ k) = ((x * 2 ^ k : Nat) : Int) := by simp
  have e2 : ((x : Int) / 2 ^ (64 - k)) = ((x / 2 ^ (64 - k) : Nat) : Int) := by simp
  have e3 : x * 2 ^ k % 18446744073709551616 = x % 2 ^ (64 - k) * 2 ^ k := by rw [← h1, Nat.mul_mod_mul_right]
  have h5 : x / 2 ^ (64 - k) < 2 ^ k := by
    rw [Nat.div_lt_iff_lt_mul h2, Nat.mul_comm, h1]
    exact hx
  have h6 := rot_lt hk hx
  unfold rot at h6
  rw [e1, e2, wrap_u64, e3, bits_or_u64_nat _ _ (by omega) (by omega), Nat.or_comm, or_shift h5, rot, Nat.mul_comm (2 ^ k), Nat.add_comm]
theorem s_turned {w : World} (x : Nat) (hx : x < 18446744073709551616) (k : Nat) (h1 : 1 ≤ k) (h2 : k ≤ 63) :
    Calls Try.prog 59 #[.int .u64 x, .int .u64 k] w fun e w' => e = .returned (.int .u64 (rot k x)) ∧ w' = w := by
  go_enter Try.func59, Try.ntmps59
  go_wp2
  rw [turned_val hx (by omega)]
  go_ret
  exact ⟨rfl, rfl⟩
theorem s_up {w : World} (x : Nat) (hx : x < 18446744073709551616) (n : Nat) (hn : n ≤ 64) :
    Calls Try.prog 57 #[.int .u64 x, .int .i64 n] w fun e w' => e = .returned (.int .u64 (rot n x)) ∧ w' = w := by
  rw [← upN_rot n x hn hx]
  go_enter Try.func57, Try.ntmps57
  go_wp2
  go_loopw [0, 5] (fun v i wr => ∃ y j : Nat, v = .int .u64 y ∧ i = .int .i64 j ∧ j ≤ n ∧ y < 18446744073709551616 ∧ upN (n - j) y = upN n x ∧ wr = w) (fun _ i _ => n - (intOf i).toNat)
  case atStart => exact ⟨x, 0, rfl, rfl, Nat.zero_le _, hx, rfl, rfl⟩
  case round =>
    obtain ⟨y, j, rfl, rfl, hj, hy, he, rfl⟩ := hrel
    by_cases hlt : j < n
    · have b1 : (j : Int) < (n : Int) := by omega
      go_wp2
      refine ⟨⟨up1 y, j + 1, by unfold up1; go_num, by go_num, by omega, up1_lt hy, ?_, trivial⟩, by simp [intOf]; omega⟩
      rw [← he, show n - j = (n - (j + 1)) + 1 from by omega, upN]
    · have b1 : ¬ (j : Int) < (n : Int) := by omega
      go_wp2
      go_ret
      rw [show n - j = 0 from by omega, upN] at he
      rw [he]
      exact ⟨rfl, rfl⟩
def fourV (v : V4) : Array Value := #[.int .u64 v.1, .int .u64 v.2.1, .int .u64 v.2.2.1, .int .u64 v.2.2.2]
/-- Block g holds four numbers. -/
structure FourAt (w : World) (g : Nat) (v : V4) : Prop where
  c : w.heap[g]? = some (.cells (fourV v) 77 (0, 0))
  s : small v
theorem FourAt.cells {w : World} {g : Nat} {v : V4} (h : FourAt w g v) : w.cell? ⟨g, 0, none⟩ = some (.int .u64 v.1) ∧ w.cell? ⟨g, 1, none⟩ = some (.int .u64 v.2.1) ∧ w.cell? ⟨g, 2, none⟩ = some (.int .u64 v.2.2.1) ∧ w.cell? ⟨g, 3, none⟩ = some (.int .u64 v.2.2.2) :=
  ⟨by rw [cell_of_row w g 0 _ _ _ h.c]; rfl, by rw [cell_of_row w g 1 _ _ _ h.c]; rfl, by rw [cell_of_row w g 2 _ _ _ h.c]; rfl, by rw [cell_of_row w g 3 _ _ _ h.c]; rfl⟩
theorem FourAt.loose {w : World} {g : Nat} {v : V4} (h : FourAt w g v) (j : Nat) : w.frozen? ⟨g, j, none⟩ = false := by
  simp [World.frozen?, h.c]
theorem FourAt.drew {w : World} {g : Nat} {v : V4} (h : FourAt w g v) : FourAt w.drew g v := ⟨h.c, h.s⟩
theorem wrap_add (a b : Nat) : IntKind.u64.wrap ((a : Int) + (b : Int)) = ((halfA a b : Nat) : Int) := by
  rw [show (a : Int) + (b : Int) = ((a + b : Nat) : Int) from by omega, wrap_u64, halfA]
theorem FourAt.set0 {w : World} {g x : Nat} {v : V4} (h : FourAt w g v) (hx : x < 18446744073709551616) : FourAt (w.setCell ⟨g, 0, none⟩ (.int .u64 x)) g (x, v.2) :=
  ⟨by simp [World.setCell, Array.getElem?_modify, h.c, fourV], hx, h.s.2⟩
theorem FourAt.set1 {w : World} {g x : Nat} {v : V4} (h : FourAt w g v) (hx : x < 18446744073709551616) : FourAt (w.setCell ⟨g, 1, none⟩ (.int .u64 x)) g (v.1, x, v.2.2) :=
  ⟨by simp [World.setCell, Array.getElem?_modify, h.c, fourV], h.s.1, hx, h.s.2.2⟩
theorem FourAt.set2 {w : World} {g x : Nat} {v : V4} (h : FourAt w g v) (hx : x < 18446744073709551616) : FourAt (w.setCell ⟨g, 2, none⟩ (.int .u64 x)) g (v.1, v.2.1, x, v.2.2.2) :=
  ⟨by simp [World.setCell, Array.getElem?_modify, h.c, fourV], h.s.1, h.s.2.1, hx, h.s.2.2.2⟩
theorem FourAt.set3 {w : World} {g x : Nat} {v : V4} (h : FourAt w g v) (hx : x < 18446744073709551616) : FourAt (w.setCell ⟨g, 3, none⟩ (.int .u64 x)) g (v.1, v.2.1, v.2.2.1, x) :=
  ⟨by simp [World.setCell, Array.getElem?_modify, h.c, fourV], h.s.1, h.s.2.1, h.s.2.2.1, hx⟩
theorem xor_half {k a b : Nat} (hk : k ≤ 64) (hb : b < 18446744073709551616) : bits .xor .u64 ((rot k b : Nat) : Int) ((halfA a b : Nat) : Int) = ((halfB k a b : Nat) : Int) := by
  rw [u64_xor_nat _ _ (rot_lt hk hb) (halfA_lt _ _), halfB, halfA]
end Go.Proofs.Ytbgnplgdknbmoaa
