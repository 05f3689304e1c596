/- Tokens: what a call of Right does, the program's and the reference's. -/
import Derived.Test.YtbgnplgdknbmoaaNameRef
namespace Go.Proofs.Ytbgnplgdknbmoaa
open Go.RowKit
set_option linter.unusedVariables false
set_option linter.unusedSimpArgs false
def tokOk (s : ByteArray) (nd : Int) : Bool := nameB (strL s) && decide (0 ≤ nd ∧ nd ≤ 7)
theorem t_cells {w : World} {g t : Nat} {a b c d : Value} (h : w.heap[g]? = some (.cells #[a, b, c, d] t (0, 0))) :
    w.cell? ⟨g, 0, none⟩ = some a ∧ w.cell? ⟨g, 1, none⟩ = some b ∧ w.cell? ⟨g, 2, none⟩ = some c ∧ w.cell? ⟨g, 3, none⟩ = some d :=
  ⟨by rw [cell_of_row w g 0 _ _ _ h]; rfl, by rw [cell_of_row w g 1 _ _ _ h]; rfl, by rw [cell_of_row w g 2 _ _ _ h]; rfl, by rw [cell_of_row w g 3 _ _ _ h]; rfl⟩
theorem t_right {w : World} (s : ByteArray) (hs : s.size ≤ 9223372036854775807) (nd inc idx : Int) :
    Calls Try.prog 8 #[.agg #[.string s, .int .i64 nd, .int .u32 inc, .int .u64 idx]] w fun e w' => e = .returned (.bool (tokOk s nd)) ∧ Chg nob w w' := by
  have hc0 : Chg nob w (w.alloc (.cells #[.string s, .int .i64 nd, .int .u32 inc, .int .u64 idx] 26)) := (Chg.refl _ _).alloc _
  obtain ⟨q, hq⟩ : ∃ q, nameB (strL s) = q := ⟨_, rfl⟩
  have HQ := Lib.hid hq
  have HT : Hid (tokOk s nd = (q && decide (0 ≤ nd ∧ nd ≤ 7))) := by show _ = _; rw [tokOk, hq]
  clear hq
  go_enter Try.func8, Try.ntmps8
  go_wp2_with fail
  refine (n_right s hs).mono ?_
  rintro e w2 ⟨rfl, rfl⟩
  rw [HQ.out]
  cases q with
  | false =>
    go_wp2
    go_ret
    rw [HT.out]
    exact ⟨rfl, hc0⟩
  | true =>
    by_cases h0 : 0 ≤ nd
    · by_cases h1 : nd < 8
      · have hd : decide (0 ≤ nd ∧ nd ≤ 7) = true := by simp; omega
        rw [hd] at HT
        go_wp2
        go_ret
        rw [HT.out]
        exact ⟨by simp [h1], hc0⟩
      · have hd : decide (0 ≤ nd ∧ nd ≤ 7) = false := by simp; omega
        rw [hd] at HT
        go_wp2
        go_ret
        rw [HT.out]
        exact ⟨by simp; omega, hc0⟩
    · have hd : decide (0 ≤ nd ∧ nd ≤ 7) = false := by simp; omega
      rw [hd] at HT
      go_wp2
      go_ret
      rw [HT.out]
      exact ⟨rfl, hc0⟩
theorem tr_right {w : World} (s : ByteArray) (hs : s.size ≤ 9223372036854775807) (nd inc idx : Int) :
    Calls Try.prog 9 #[.agg #[.string s, .int .i64 nd, .int .u32 inc, .int .u64 idx]] w fun e w' => e = .returned (.bool (tokOk s nd)) ∧ Chg nob w w' := by
  have hc0 : Chg nob w (w.alloc (.cells #[.string s, .int .i64 nd, .int .u32 inc, .int .u64 idx] 26)) := (Chg.refl _ _).alloc _
  obtain ⟨q, hq⟩ : ∃ q, nameB (strL s) = q := ⟨_, rfl⟩
  have HQ := Lib.hid hq
  have HT : Hid (tokOk s nd = (q && decide (0 ≤ nd ∧ nd ≤ 7))) := by show _ = _; rw [tokOk, hq]
  clear hq
  go_enter Try.func9, Try.ntmps9
  go_wp2_with fail
  refine (r_right s hs).mono ?_
  rintro e w2 ⟨rfl, rfl⟩
  rw [HQ.out]
  cases q with
  | false =>
    go_wp2
    go_ret
    rw [HT.out]
    exact ⟨rfl, hc0⟩
  | true =>
    by_cases h0 : 0 ≤ nd
    · by_cases h1 : nd ≤ 7
      · have hd : decide (0 ≤ nd ∧ nd ≤ 7) = true := by simp; omega
        rw [hd] at HT
        go_wp2
        go_ret
        rw [HT.out]
        exact ⟨by simp [h1], hc0⟩
      · have hd : decide (0 ≤ nd ∧ nd ≤ 7) = false := by simp; omega
        rw [hd] at HT
        go_wp2
        go_ret
        rw [HT.out]
        exact ⟨by simp; omega, hc0⟩
    · have hd : decide (0 ≤ nd ∧ nd ≤ 7) = false := by simp; omega
      rw [hd] at HT
      go_wp2
      go_ret
      rw [HT.out]
      exact ⟨rfl, hc0⟩
end Go.Proofs.Ytbgnplgdknbmoaa
