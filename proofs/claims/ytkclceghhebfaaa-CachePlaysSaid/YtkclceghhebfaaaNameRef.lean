/- Names: what a call of the reference's Right does. -/
import Derived.Test.YtkclceghhebfaaaNameRight
namespace Go.Proofs.Ytkclceghhebfaaa
open Go.RowKit
set_option linter.unusedVariables false
set_option linter.unusedSimpArgs false
/-- The byte at place i of n may stand there. -/
def okC (n i : Nat) (c : UInt8) : Prop := plainB c = true ∨ (c.toNat = 45 ∧ i ≠ 0 ∧ i ≠ n - 1)
theorem okC_name {n i : Nat} {c : UInt8} (h : okC n i c) : nameC c = true := by
  unfold okC plainB at h
  unfold nameC
  rw [decide_eq_true_iff] at h ⊢
  omega
theorem plainB_45 {c : UInt8} (h : c.toNat = 45) : plainB c = false := by
  unfold plainB
  rw [decide_eq_false_iff_not]
  omega
theorem name_plain {c : UInt8} (h : nameC c = true) (h45 : c.toNat ≠ 45) : plainB c = true := by
  unfold plainB
  unfold nameC at h
  rw [decide_eq_true_iff] at h ⊢
  omega
theorem nameB_true {l : List UInt8} (h1 : 1 ≤ l.length) (h2 : l.length ≤ 24) (h : ∀ i c, l[i]? = some c → okC l.length i c) : nameB l = true := by
  unfold nameB
  rw [Bool.and_eq_true, decide_eq_true_iff, List.all_eq_true]
  refine ⟨⟨h1, h2, fun c hc he => ?_, fun c hc he => ?_⟩, fun c hc => ?_⟩
  · rcases h _ _ hc with h3 | ⟨_, h3, _⟩
    · rw [plainB_45 he] at h3; cases h3
    · exact h3 rfl
  · rcases h _ _ hc with h3 | ⟨_, _, h3⟩
    · rw [plainB_45 he] at h3; cases h3
    · exact h3 rfl
  · obtain ⟨i, hi⟩ := List.mem_iff_getElem?.1 hc
    exact okC_name (h i c hi)
theorem nameB_false {l : List UInt8} {i : Nat} {c : UInt8} (hi : l[i]? = some c) (h : ¬ okC l.length i c) : nameB l = false := by
  cases hn : nameB l with
  | false => rfl
  | true =>
    exfalso
    unfold nameB at hn
    rw [Bool.and_eq_true, decide_eq_true_iff, List.all_eq_true] at hn
    obtain ⟨⟨_, _, h3, h4⟩, h5⟩ := hn
    have h6 := h5 c (List.mem_iff_getElem?.2 ⟨i, hi⟩)
    by_cases e : c.toNat = 45
    · refine h (.inr ⟨e, fun h0 => ?_, fun h0 => ?_⟩)
      · subst h0; exact h3 c hi e
      · subst h0; exact h4 c hi e
    · exact h (.inl (name_plain h6 e))
theorem r_right {w : World} (s : ByteArray) (hs : s.size ≤ 9223372036854775807) :
    Calls Try.prog 39 #[.string s] w fun e w' => e = .returned (.bool (nameB (strL s))) ∧ w' = w := by
  by_cases h1 : s.size < 1 ∨ 24 < s.size
  · have hn : nameB (strL s) = false := by
      simp only [nameB, strL_len, Bool.and_eq_false_iff, decide_eq_false_iff_not]
      exact .inl (fun h => by omega)
    have HN := Lib.hid hn
    clear hn
    by_cases h2 : s.size < 1
    · have b1 : (s.size : Int) < 1 := by omega
      go_enter Try.func39, Try.ntmps39
      go_wp2
      go_ret
      rw [HN.out]
      exact ⟨rfl, rfl⟩
    · have b1 : ¬ (s.size : Int) < 1 := by omega
      have b2 : (24 : Int) < (s.size : Int) := by omega
      clear h1
      go_enter Try.func39, Try.ntmps39
      go_wp2
      go_ret
      rw [HN.out]
      exact ⟨rfl, rfl⟩
  · have h2 : 1 ≤ s.size := by omega
    have h3 : s.size ≤ 24 := by omega
    have b1 : ¬ (s.size : Int) < 1 := by omega
    have b2 : ¬ (24 : Int) < (s.size : Int) := by omega
    clear h1
    go_enter Try.func39, Try.ntmps39
    go_wp2
    go_loopw [3] (fun i wr => ∃ j : Nat, j ≤ s.size ∧ i = .int .i64 j ∧ Hid (∀ i c, i < j → (strL s)[i]? = some c → okC s.size i c) ∧ wr = w) (fun i _ => s.size - (intOf i).toNat)
    case atStart => exact ⟨0, Nat.zero_le _, rfl, fun i c h => by omega, rfl⟩
    case round =>
      obtain ⟨j, hj, rfl, HA, rfl⟩ := hrel
      by_cases hlt : j < s.size
      · have b3 : (0 : Int) ≤ (j : Int) := by omega
        have b4 : (j : Int) < (s.size : Int) := by omega
        have HX := Lib.hid (str_at s hlt)
        go_wp2_with fail
        refine (r_plain (s[j]'hlt)).mono ?_
        rintro e w2 ⟨rfl, rfl⟩
        obtain ⟨c, hc⟩ : ∃ c, (s[j]'hlt) = c := ⟨_, rfl⟩
        rw [hc] at HX ⊢
        have HC := Lib.hid hc
        clear hc
        obtain ⟨q, hq⟩ : ∃ q, plainB c = q := ⟨_, rfl⟩
        rw [hq]
        have HQ := Lib.hid hq
        have hnext : okC s.size j c → ∀ i c', i < j + 1 → (strL s)[i]? = some c' → okC s.size i c' := by
          intro ho i c' hi hci
          by_cases e : i = j
          · subst e
            rw [HX.out] at hci
            cases hci
            exact ho
          · exact HA.out i c' (by omega) hci
        have HNX := Lib.hid hnext
        have hstop : ¬ okC s.size j c → nameB (strL s) = false := fun hno => nameB_false HX.out (by rw [strL_len]; exact hno)
        have HST := Lib.hid hstop
        clear hq hnext hstop
        cases q with
        | true =>
          go_wp2
          exact ⟨⟨j + 1, by omega, by go_num, HNX.out (.inl HQ.out), trivial⟩, by simp [intOf]; omega⟩
        | false =>
          by_cases ok : c.toNat = 45 ∧ j ≠ 0 ∧ j ≠ s.size - 1
          · have HK := Lib.hid (HNX.out (.inr ok))
            obtain ⟨o1, o2, o3⟩ := ok
            have c1 : (((s[j]'hlt).toNat : Int) != 45) = false := by rw [HC.out]; simp; omega
            have c2 : ((j : Int) == 0) = false := by simp; omega
            have c3 : ((j : Int) == (s.size : Int) - 1) = false := by simp; omega
            clear o1 o2 o3
            go_wp2
            all_goals exact ⟨⟨j + 1, by omega, by go_num, HK.out, trivial⟩, by simp [intOf]; omega⟩
          · have HK : Hid (nameB (strL s) = false) := HST.out (fun h => by
              rcases h with h | h
              · rw [HQ.out] at h; cases h
              · exact ok h)
            have c1 : (((s[j]'hlt).toNat : Int) != 45) = true ∨ ((((s[j]'hlt).toNat : Int) != 45) = false ∧ ((j : Int) == 0) = true) ∨ ((((s[j]'hlt).toNat : Int) != 45) = false ∧ ((j : Int) == 0) = false ∧ ((j : Int) == (s.size : Int) - 1) = true) := by
              rw [HC.out]
              simp
              omega
            clear ok
            rcases c1 with c1 | ⟨c1, c2⟩ | ⟨c1, c2, c3⟩
            all_goals
              go_wp2
              all_goals
                go_ret
                rw [HK.out]
                exact ⟨rfl, rfl⟩
      · have b4 : ¬ (j : Int) < (s.size : Int) := by omega
        have hn : nameB (strL s) = true := nameB_true (by rw [strL_len]; exact h2) (by rw [strL_len]; exact h3) (fun i c hc => by
          rw [strL_len]
          exact HA.out i c (by have := (List.getElem?_eq_some_iff.1 hc).1; rw [strL_len] at this; omega) hc)
        have HN := Lib.hid hn
        clear hn
        go_wp2
        go_ret
        rw [HN.out]
        exact ⟨rfl, rfl⟩
end Go.Proofs.Ytkclceghhebfaaa
