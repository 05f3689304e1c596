/- Names: what a call of name.Right does. -/
import Derived.Test.YtkclceghhebfaaaName
namespace Go.Proofs.Ytkclceghhebfaaa
open Go.RowKit
set_option linter.unusedVariables false
set_option linter.unusedSimpArgs false
theorem n_right {w : World} (s : ByteArray) (hs : s.size ≤ 9223372036854775807) :
    Calls Try.prog 30 #[.string s] w fun e w' => e = .returned (.bool (nameB (strL s))) ∧ w' = w := by
  by_cases h1 : s.size < 1
  · have b1 : (s.size : Int) < 1 := by omega
    have hn : nameB (strL s) = false := by
      simp only [nameB, strL_len, Bool.and_eq_false_iff, decide_eq_false_iff_not]
      exact .inl (fun h => by omega)
    have HN := Lib.hid hn
    clear hn
    go_enter Try.func30, Try.ntmps30
    go_wp2
    go_ret
    rw [HN.out]
    exact ⟨rfl, rfl⟩
  · by_cases h2 : 24 < s.size
    · have b1 : ¬ (s.size : Int) < 1 := by omega
      have b2 : (24 : Int) < (s.size : Int) := by omega
      have hn : nameB (strL s) = false := by
        simp only [nameB, strL_len, Bool.and_eq_false_iff, decide_eq_false_iff_not]
        exact .inl (fun h => by omega)
      have HN := Lib.hid hn
      clear hn
      go_enter Try.func30, Try.ntmps30
      go_wp2
      go_ret
      rw [HN.out]
      exact ⟨rfl, rfl⟩
    · have b1 : ¬ (s.size : Int) < 1 := by omega
      have b2 : ¬ (24 : Int) < (s.size : Int) := by omega
      have b3 : (0 : Int) < (s.size : Int) := by omega
      have b4 : (0 : Int) ≤ (s.size : Int) - 1 := by omega
      have b5 : (s.size : Int) - 1 < (s.size : Int) := by omega
      have x0 := str_at s (j := 0) (by omega)
      have x1 := str_at s (j := s.size - 1) (by omega)
      by_cases e0 : (s[0]'(by omega)).toNat = 45
      · have c0 : (((s[0]'(by omega)).toNat : Int) == 45) = true := by simp; omega
        have hn : nameB (strL s) = false := by
          simp only [nameB, strL_len, Bool.and_eq_false_iff, decide_eq_false_iff_not]
          exact .inl (fun h => h.2.2.1 _ x0 e0)
        have HN := Lib.hid hn
        clear hn x0 x1 e0
        go_enter Try.func30, Try.ntmps30
        go_wp2
        all_goals
          go_ret
          rw [HN.out]
          exact ⟨rfl, rfl⟩
      · have c0 : (((s[0]'(by omega)).toNat : Int) == 45) = false := by simp; omega
        by_cases e1 : (s[s.size - 1]'(by omega)).toNat = 45
        · have c1 : (((s[s.size - 1]'(by omega)).toNat : Int) == 45) = true := by simp; omega
          have hn : nameB (strL s) = false := by
            simp only [nameB, strL_len, Bool.and_eq_false_iff, decide_eq_false_iff_not]
            exact .inl (fun h => h.2.2.2 _ x1 e1)
          have HN := Lib.hid hn
          clear hn x0 x1 e0 e1
          go_enter Try.func30, Try.ntmps30
          go_wp2
          all_goals
            go_ret
            rw [HN.out]
            exact ⟨rfl, rfl⟩
        · have c1 : (((s[s.size - 1]'(by omega)).toNat : Int) == 45) = false := by simp; omega
          have hn : nameB (strL s) = (strL s).all nameC := by
            unfold nameB
            rw [strL_len, decide_eq_true (by
              refine ⟨by omega, by omega, fun c hc => ?_, fun c hc => ?_⟩
              · rw [x0] at hc; cases hc; exact e0
              · rw [x1] at hc; cases hc; exact e1), Bool.true_and]
          have HN := Lib.hid hn
          clear hn x0 x1 e0 e1
          go_enter Try.func30, Try.ntmps30
          go_wp2_with fail
          all_goals
            refine (n_all s (by omega)).mono ?_
            rintro e w2 ⟨rfl, rfl⟩
            go_wp2
            go_ret
            rw [HN.out]
            exact ⟨rfl, rfl⟩
end Go.Proofs.Ytkclceghhebfaaa
