/- Messages: whether an update, whether a message may be: the program's and the reference's answers. -/
import Derived.Test.YtmahjeafoogamaaSpeechSmall
namespace Go.Proofs.Ytmahjeafoogamaa
open Go.RowKit
set_option linter.unusedVariables false
set_option linter.unusedSimpArgs false
theorem row3c {w : World} {g t : Nat} {a b c : Value} (h : w.heap[g]? = some (.cells #[a, b, c] t (0, 0))) : w.cell? ⟨g, 0, none⟩ = some a ∧ w.cell? ⟨g, 1, none⟩ = some b ∧ w.cell? ⟨g, 2, none⟩ = some c :=
  ⟨by rw [cell_of_row w g 0 _ _ _ h]; rfl, by rw [cell_of_row w g 1 _ _ _ h]; rfl, by rw [cell_of_row w g 2 _ _ _ h]; rfl⟩
theorem row6c {w : World} {g t : Nat} {a b c d e f : Value} (h : w.heap[g]? = some (.cells #[a, b, c, d, e, f] t (0, 0))) :
    w.cell? ⟨g, 0, none⟩ = some a ∧ w.cell? ⟨g, 1, none⟩ = some b ∧ w.cell? ⟨g, 2, none⟩ = some c ∧ w.cell? ⟨g, 3, none⟩ = some d ∧ w.cell? ⟨g, 4, none⟩ = some e ∧ w.cell? ⟨g, 5, none⟩ = some f :=
  ⟨by rw [cell_of_row w g 0 _ _ _ h]; rfl, by rw [cell_of_row w g 1 _ _ _ h]; rfl, by rw [cell_of_row w g 2 _ _ _ h]; rfl, by rw [cell_of_row w g 3 _ _ _ h]; rfl, by rw [cell_of_row w g 4 _ _ _ h]; rfl, by rw [cell_of_row w g 5 _ _ _ h]; rfl⟩
theorem k_right {w : World} (u : Upd) : Calls Try.prog 27 #[.agg #[.int .i64 u.1, .int .u32 u.2.1, .int .i64 u.2.2]] w fun e w' => e = .returned (.bool (rightU u)) ∧ Chg nob w w' := by
  obtain ⟨a, b, c⟩ := u
  have HC := Lib.hid ((Chg.refl nob w).alloc (.cells #[.int .i64 a, .int .u32 b, .int .i64 c] 62))
  obtain ⟨q0, q1, q2⟩ := row3c (heap_alloc_new w (.cells #[.int .i64 a, .int .u32 b, .int .i64 c] 62))
  have hbad : (¬ 0 ≤ a ∨ ¬ a < 8 ∨ ¬ 0 ≤ c ∨ ¬ c ≤ 3) → rightU (a, b, c) = false := fun h => decide_eq_false (fun k => by rcases h with h | h | h | h; exact h k.1; exact h k.2.1; exact h k.2.2.1; exact h k.2.2.2)
  by_cases h0 : 0 ≤ a
  · by_cases h1 : a < 8
    · by_cases h2 : 0 ≤ c
      · by_cases h3 : c ≤ 3
        · have HB : Hid (rightU (a, b, c) = true) := decide_eq_true ⟨h0, h1, h2, h3⟩
          clear hbad
          go_enter Try.func27, Try.ntmps27
          go_wp2
          go_ret
          rw [HB.out]
          exact ⟨rfl, HC.out⟩
        · have HB := Lib.hid (hbad (.inr (.inr (.inr h3))))
          clear hbad
          go_enter Try.func27, Try.ntmps27
          go_wp2
          go_ret
          rw [HB.out]
          exact ⟨rfl, HC.out⟩
      · have HB := Lib.hid (hbad (.inr (.inr (.inl h2))))
        clear hbad
        go_enter Try.func27, Try.ntmps27
        go_wp2
        go_ret
        rw [HB.out]
        exact ⟨rfl, HC.out⟩
    · have HB := Lib.hid (hbad (.inr (.inl h1)))
      clear hbad
      go_enter Try.func27, Try.ntmps27
      go_wp2
      go_ret
      rw [HB.out]
      exact ⟨rfl, HC.out⟩
  · have HB := Lib.hid (hbad (.inl h0))
    clear hbad
    go_enter Try.func27, Try.ntmps27
    go_wp2
    go_ret
    rw [HB.out]
    exact ⟨rfl, HC.out⟩
theorem r_right {w : World} (u : Upd) : Calls Try.prog 28 #[.agg #[.int .i64 u.1, .int .u32 u.2.1, .int .i64 u.2.2]] w fun e w' => e = .returned (.bool (rightU u)) ∧ Chg nob w w' := by
  obtain ⟨a, b, c⟩ := u
  have HC := Lib.hid ((Chg.refl nob w).alloc (.cells #[.int .i64 a, .int .u32 b, .int .i64 c] 62))
  obtain ⟨q0, q1, q2⟩ := row3c (heap_alloc_new w (.cells #[.int .i64 a, .int .u32 b, .int .i64 c] 62))
  have hbad : (¬ 0 ≤ a ∨ ¬ a < 8 ∨ ¬ (0 ≤ c ∧ c ≤ 3)) → rightU (a, b, c) = false := fun h => decide_eq_false (fun k => by rcases h with h | h | h; exact h k.1; exact h k.2.1; exact h k.2.2)
  by_cases h0 : 0 ≤ a
  · by_cases h1 : a < 8
    · by_cases h2 : 0 ≤ c ∧ c ≤ 3
      · have HB : Hid (rightU (a, b, c) = true) := decide_eq_true ⟨h0, h1, h2.1, h2.2⟩
        have hc : c = 0 ∨ c = 1 ∨ c = 2 ∨ c = 3 := by omega
        clear hbad h2
        rcases hc with rfl | rfl | rfl | rfl
        all_goals
          go_enter Try.func28, Try.ntmps28
          go_wp2
          go_ret
          rw [HB.out]
          exact ⟨rfl, HC.out⟩
      · have HB := Lib.hid (hbad (.inr (.inr h2)))
        have c0 : (c == 0) = false := by simp; omega
        have c1 : (c == 1) = false := by simp; omega
        have c2 : (c == 2) = false := by simp; omega
        have c3 : (c == 3) = false := by simp; omega
        clear hbad h2
        go_enter Try.func28, Try.ntmps28
        go_wp2
        go_ret
        rw [HB.out]
        exact ⟨rfl, HC.out⟩
    · have HB := Lib.hid (hbad (.inr (.inl h1)))
      clear hbad
      go_enter Try.func28, Try.ntmps28
      go_wp2
      go_ret
      rw [HB.out]
      exact ⟨rfl, HC.out⟩
  · have HB := Lib.hid (hbad (.inl h0))
    clear hbad
    go_enter Try.func28, Try.ntmps28
    go_wp2
    go_ret
    rw [HB.out]
    exact ⟨rfl, HC.out⟩
end Go.Proofs.Ytmahjeafoogamaa
