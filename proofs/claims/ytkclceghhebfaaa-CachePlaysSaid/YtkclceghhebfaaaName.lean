/- Names: what a call of name.Right and of the reference's Right does. -/
import Derived.Test.YtkclceghhebfaaaKit
import Derived.Test.YtkclceghhebfaaaProg
namespace Go.Proofs.Ytkclceghhebfaaa
open Go.RowKit
set_option linter.unusedVariables false
set_option linter.unusedSimpArgs false
def plainB (c : UInt8) : Bool := decide ((97 ≤ c.toNat ∧ c.toNat ≤ 122) ∨ (48 ≤ c.toNat ∧ c.toNat ≤ 57))
def nameC (c : UInt8) : Bool := decide ((97 ≤ c.toNat ∧ c.toNat ≤ 122) ∨ (48 ≤ c.toNat ∧ c.toNat ≤ 57) ∨ c.toNat = 45)
def nameB (l : List UInt8) : Bool := decide (1 ≤ l.length ∧ l.length ≤ 24 ∧ (∀ c, l[0]? = some c → c.toNat ≠ 45) ∧ (∀ c, l[l.length - 1]? = some c → c.toNat ≠ 45)) && l.all nameC
theorem n_plain {w : World} (c : UInt8) : Calls Try.prog 43 #[.int .u8 (c.toNat : Int)] w fun e w' => e = .returned (.bool (plainB c)) ∧ w' = w := by
  go_enter Try.func43, Try.ntmps43
  go_wp2
  all_goals
    go_ret
    refine ⟨congrArg Ending.returned (show Value.bool _ = _ from congrArg Value.bool (Bool.eq_iff_iff.2 ?_)), rfl⟩
    simp [plainB]
    try omega
theorem r_plain {w : World} (c : UInt8) : Calls Try.prog 47 #[.int .u8 (c.toNat : Int)] w fun e w' => e = .returned (.bool (plainB c)) ∧ w' = w := by
  go_enter Try.func47, Try.ntmps47
  go_wp2
  all_goals
    go_ret
    refine ⟨congrArg Ending.returned (show Value.bool _ = _ from congrArg Value.bool (Bool.eq_iff_iff.2 ?_)), rfl⟩
    simp [plainB]
    try omega
theorem n_dash {w : World} (c : UInt8) : Calls Try.prog 42 #[.int .u8 (c.toNat : Int)] w fun e w' => e = .returned (.bool (nameC c)) ∧ w' = w := by
  go_enter Try.func42, Try.ntmps42
  go_wp2_with fail
  refine (n_plain c).mono ?_
  rintro e w2 ⟨rfl, rfl⟩
  have HP : Hid ((nameC c = true ↔ plainB c = true ∨ c.toNat = 45)) := by
    show _ ↔ _
    simp only [nameC, plainB, decide_eq_true_eq, or_assoc]
  obtain ⟨q, hq⟩ : ∃ q, plainB c = q := ⟨_, rfl⟩
  rw [hq] at HP ⊢
  clear hq
  cases q with
  | true =>
    go_wp2
    all_goals
      go_ret
      refine ⟨congrArg Ending.returned (show Value.bool _ = _ from congrArg Value.bool (Bool.eq_iff_iff.2 ?_)), rfl⟩
      rw [HP.out]
      simp
  | false =>
    go_wp2
    all_goals
      go_ret
      refine ⟨congrArg Ending.returned (show Value.bool _ = _ from congrArg Value.bool (Bool.eq_iff_iff.2 ?_)), rfl⟩
      rw [HP.out]
      simp
      try omega
theorem all_next {l : List UInt8} {f : UInt8 → Bool} {j : Nat} {c : UInt8} (h : l[j]? = some c) (hp : (l.take j).all f = true) (hc : f c = true) : (l.take (j + 1)).all f = true := by
  obtain ⟨hj, rfl⟩ := List.getElem?_eq_some_iff.1 h
  rw [List.take_succ_eq_append_getElem hj, List.all_append, hp]
  simp [hc]
theorem all_stop {l : List UInt8} {f : UInt8 → Bool} {j : Nat} {c : UInt8} (h : l[j]? = some c) (hc : f c = false) : l.all f = false := by
  obtain ⟨hj, rfl⟩ := List.getElem?_eq_some_iff.1 h
  rw [List.all_eq_false]
  exact ⟨_, List.getElem_mem hj, by simp [hc]⟩
def strL (s : ByteArray) : List UInt8 := s.data.toList
theorem strL_len (s : ByteArray) : (strL s).length = s.size := by simp [strL]
theorem str_at (s : ByteArray) {j : Nat} (hj : j < s.size) : (strL s)[j]? = some (s[j]'hj) := by
  rw [List.getElem?_eq_getElem (by rw [strL_len]; exact hj)]
  rfl
theorem n_all {w : World} (s : ByteArray) (hs : s.size ≤ 1000000000) :
    Calls Try.prog 41 #[.string s, .func (.func 42) #[] #[]] w fun e w' => e = .returned (.bool ((strL s).all nameC)) ∧ w' = w := by
  have hsl : Hid ((strL s).length = s.size) := strL_len s
  go_enter Try.func41, Try.ntmps41
  go_wp2
  go_loopw [8] (fun i wr => ∃ j : Nat, j ≤ s.size ∧ i = .int .i64 j ∧ Hid (((strL s).take j).all nameC = true) ∧ wr = w) (fun i _ => s.size - (intOf i).toNat)
  case atStart => exact ⟨0, Nat.zero_le _, rfl, rfl, rfl⟩
  case round =>
    obtain ⟨j, hj, rfl, HA, rfl⟩ := hrel
    by_cases hlt : j < s.size
    · have b1 : (0 : Int) ≤ (j : Int) := by omega
      have b2 : (j : Int) < (s.size : Int) := by omega
      have HX := Lib.hid (str_at s hlt)
      go_wp2_with fail
      refine (n_dash (s[j]'hlt)).mono ?_
      rintro e w2 ⟨rfl, rfl⟩
      obtain ⟨c, hc⟩ : ∃ c, (s[j]'hlt) = c := ⟨_, rfl⟩
      rw [hc] at HX ⊢
      clear hc
      obtain ⟨q, hq⟩ : ∃ q, nameC c = q := ⟨_, rfl⟩
      rw [hq]
      have HQ := Lib.hid hq
      clear hq
      cases q with
      | true =>
        go_wp2
        exact ⟨⟨j + 1, by omega, by go_num, all_next HX.out HA.out HQ.out, trivial⟩, by simp [intOf]; omega⟩
      | false =>
        go_wp2
        go_ret
        rw [all_stop HX.out HQ.out]
        exact ⟨rfl, rfl⟩
    · have b2 : ¬ (j : Int) < (s.size : Int) := by omega
      go_wp2
      go_ret
      have := HA.out
      rw [List.take_of_length_le (by rw [hsl.out]; omega)] at this
      rw [this]
      exact ⟨rfl, rfl⟩
end Go.Proofs.Ytkclceghhebfaaa
