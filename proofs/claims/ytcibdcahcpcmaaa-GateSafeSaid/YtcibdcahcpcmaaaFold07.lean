import Derived.Test.YtcibdcahcpcmaaaFold01
import Derived.Test.YtcibdcahcpcmaaaProg
/- Names: what a call of name.Right and of the reference's Right does. -/
namespace Go.Proofs.Ytcibdcahcpcmaaa
open Go.RowKit
set_option maxRecDepth 100000
set_option linter.unusedVariables false
set_option linter.unusedSimpArgs false
def plainB (c : UInt8) : Bool := decide ((97 ≤ c.toNat ∧ c.toNat ≤ 122) ∨ (48 ≤ c.toNat ∧ c.toNat ≤ 57))
def nameC (c : UInt8) : Bool := decide ((97 ≤ c.toNat ∧ c.toNat ≤ 122) ∨ (48 ≤ c.toNat ∧ c.toNat ≤ 57) ∨ c.toNat = 45)
def nameB (l : List UInt8) : Bool := decide (1 ≤ l.length ∧ l.length ≤ 24 ∧ (∀ c, l[0]? = some c → c.toNat ≠ 45) ∧ (∀ c, l[l.length - 1]? = some c → c.toNat ≠ 45)) && l.all nameC
theorem n_plain {w : World} (c : UInt8) : Calls Try.prog 37 #[.int .u8 (c.toNat : Int)] w fun e w' => e = .returned (.bool (plainB c)) ∧ w' = w := by
  go_enter Try.func37, Try.ntmps37
  go_wp2
  all_goals
    go_ret
    refine ⟨congrArg Ending.returned (show Value.bool _ = _ from congrArg Value.bool (Bool.eq_iff_iff.2 ?_)), rfl⟩
    simp [plainB]
    try omega
theorem r_plain {w : World} (c : UInt8) : Calls Try.prog 40 #[.int .u8 (c.toNat : Int)] w fun e w' => e = .returned (.bool (plainB c)) ∧ w' = w := by
  go_enter Try.func40, Try.ntmps40
  go_wp2
  all_goals
    go_ret
    refine ⟨congrArg Ending.returned (show Value.bool _ = _ from congrArg Value.bool (Bool.eq_iff_iff.2 ?_)), rfl⟩
    simp [plainB]
    try omega
theorem n_dash {w : World} (c : UInt8) : Calls Try.prog 36 #[.int .u8 (c.toNat : Int)] w fun e w' => e = .returned (.bool (nameC c)) ∧ w' = w := by
  go_enter Try.func36, Try.ntmps36
  go_wp2_with fail
  refine (n_plain c).mono ?_
  rintro e w2 ⟨rfl, rfl⟩
  have HP : Hid ((nameC c = true ↔ plainB c = true ∨ c.toNat = 45)) := by
    show _ ↔ _
    simp only [nameC, plainB, decide_eq_true_eq, or_assoc]
  obtain ⟨q, hq⟩ : ∃ q, plainB c = q := ⟨_, rfl⟩
  rw [hq] at HP ⊢
  clear hq
  cases q with
  | true =>
    go_wp2
    all_goals
      go_ret
      refine ⟨congrArg Ending.returned (show Value.bool _ = _ from congrArg Value.bool (Bool.eq_iff_iff.2 ?_)), rfl⟩
      rw [HP.out]
      simp
  | false =>
    go_wp2
    all_goals
      go_ret
      refine ⟨congrArg Ending.returned (show Value.bool _ = _ from congrArg Value.bool (Bool.eq_iff_iff.2 ?_)), rfl⟩
      rw [HP.out]
      simp
      try omega
theorem all_next {l : List UInt8} {f : UInt8 → Bool} {j : Nat} {c : UInt8} (h : l[j]? = some c) (hp : (l.take j).all f = true) (hc : f c = true) : (l.take (j + 1)).all f = true := by
  obtain ⟨hj, rfl⟩ := List.getElem?_eq_some_iff.1 h
  rw [List.take_succ_eq_append_getElem hj, List.all_append, hp]
  simp [hc]
theorem all_stop {l : List UInt8} {f : UInt8 → Bool} {j : Nat} {c : UInt8} (h : l[j]? = some c) (hc : f c = false) : l.all f = false := by
  obtain ⟨hj, rfl⟩ := List.getElem?_eq_some_iff.1 h
  rw [List.all_eq_false]
  exact ⟨_, List.getElem_mem hj, by simp [hc]⟩
def strL (s : ByteArray) : List UInt8 := s.data.toList
theorem strL_len (s : ByteArray) : (strL s).length = s.size := by simp [strL]
theorem str_at (s : ByteArray) {j : Nat} (hj : j < s.size) : (strL s)[j]? = some (s[j]'hj) := by
  rw [List.getElem?_eq_getElem (by rw [strL_len]; exact hj)]
  rfl
theorem n_all {w : World} (s : ByteArray) (hs : s.size ≤ 1000000000) :
    Calls Try.prog 35 #[.string s, .func (.func 36) #[] #[]] w fun e w' => e = .returned (.bool ((strL s).all nameC)) ∧ w' = w := by
  have hsl : Hid ((strL s).length = s.size) := strL_len s
  go_enter Try.func35, Try.ntmps35
  go_wp2
  go_loopw [8] (fun i wr => ∃ j : Nat, j ≤ s.size ∧ i = .int .i64 j ∧ Hid (((strL s).take j).all nameC = true) ∧ wr = w) (fun i _ => s.size - (intOf i).toNat)
  case atStart => exact ⟨0, Nat.zero_le _, rfl, rfl, rfl⟩
  case round =>
    obtain ⟨j, hj, rfl, HA, rfl⟩ := hrel
    by_cases hlt : j < s.size
    · have b1 : (0 : Int) ≤ (j : Int) := by omega
      have b2 : (j : Int) < (s.size : Int) := by omega
      have HX := Lib.hid (str_at s hlt)
      go_wp2_with fail
      refine (n_dash (s[j]'hlt)).mono ?_
      rintro e w2 ⟨rfl, rfl⟩
      obtain ⟨c, hc⟩ : ∃ c, (s[j]'hlt) = c := ⟨_, rfl⟩
      rw [hc] at HX ⊢
      clear hc
      obtain ⟨q, hq⟩ : ∃ q, nameC c = q := ⟨_, rfl⟩
      rw [hq]
      have HQ := Lib.hid hq
      clear hq
      cases q with
      | true =>
        go_wp2
        exact ⟨⟨j + 1, by omega, by go_num, all_next HX.out HA.out HQ.out, trivial⟩, by simp [intOf]; omega⟩
      | false =>
        go_wp2
        go_ret
        rw [all_stop HX.out HQ.out]
        exact ⟨rfl, rfl⟩
    · have b2 : ¬ (j : Int) < (s.size : Int) := by omega
      go_wp2
      go_ret
      have := HA.out
      rw [List.take_of_length_le (by rw [hsl.out]; omega)] at this
      rw [this]
      exact ⟨rfl, rfl⟩
end Go.Proofs.Ytcibdcahcpcmaaa

/- Names: what a call of name.Right does. -/
namespace Go.Proofs.Ytcibdcahcpcmaaa
open Go.RowKit
set_option maxRecDepth 100000
set_option linter.unusedVariables false
set_option linter.unusedSimpArgs false
theorem n_right {w : World} (s : ByteArray) (hs : s.size ≤ 9223372036854775807) :
    Calls Try.prog 19 #[.string s] w fun e w' => e = .returned (.bool (nameB (strL s))) ∧ w' = w := by
  by_cases h1 : s.size < 1
  · have b1 : (s.size : Int) < 1 := by omega
    have hn : nameB (strL s) = false := by
      simp only [nameB, strL_len, Bool.and_eq_false_iff, decide_eq_false_iff_not]
      exact .inl (fun h => by omega)
    have HN := Lib.hid hn
    clear hn
    go_enter Try.func19, Try.ntmps19
    go_wp2
    go_ret
    rw [HN.out]
    exact ⟨rfl, rfl⟩
  · by_cases h2 : 24 < s.size
    · have b1 : ¬ (s.size : Int) < 1 := by omega
      have b2 : (24 : Int) < (s.size : Int) := by omega
      have hn : nameB (strL s) = false := by
        simp only [nameB, strL_len, Bool.and_eq_false_iff, decide_eq_false_iff_not]
        exact .inl (fun h => by omega)
      have HN := Lib.hid hn
      clear hn
      go_enter Try.func19, Try.ntmps19
      go_wp2
      go_ret
      rw [HN.out]
      exact ⟨rfl, rfl⟩
    · have b1 : ¬ (s.size : Int) < 1 := by omega
      have b2 : ¬ (24 : Int) < (s.size : Int) := by omega
      have b3 : (0 : Int) < (s.size : Int) := by omega
      have b4 : (0 : Int) ≤ (s.size : Int) - 1 := by omega
      have b5 : (s.size : Int) - 1 < (s.size : Int) := by omega
      have x0 := str_at s (j := 0) (by omega)
      have x1 := str_at s (j := s.size - 1) (by omega)
      by_cases e0 : (s[0]'(by omega)).toNat = 45
      · have c0 : (((s[0]'(by omega)).toNat : Int) == 45) = true := by simp; omega
        have hn : nameB (strL s) = false := by
          simp only [nameB, strL_len, Bool.and_eq_false_iff, decide_eq_false_iff_not]
          exact .inl (fun h => h.2.2.1 _ x0 e0)
        have HN := Lib.hid hn
        clear hn x0 x1 e0
        go_enter Try.func19, Try.ntmps19
        go_wp2
        all_goals
          go_ret
          rw [HN.out]
          exact ⟨rfl, rfl⟩
      · have c0 : (((s[0]'(by omega)).toNat : Int) == 45) = false := by simp; omega
        by_cases e1 : (s[s.size - 1]'(by omega)).toNat = 45
        · have c1 : (((s[s.size - 1]'(by omega)).toNat : Int) == 45) = true := by simp; omega
          have hn : nameB (strL s) = false := by
            simp only [nameB, strL_len, Bool.and_eq_false_iff, decide_eq_false_iff_not]
            exact .inl (fun h => h.2.2.2 _ x1 e1)
          have HN := Lib.hid hn
          clear hn x0 x1 e0 e1
          go_enter Try.func19, Try.ntmps19
          go_wp2
          all_goals
            go_ret
            rw [HN.out]
            exact ⟨rfl, rfl⟩
        · have c1 : (((s[s.size - 1]'(by omega)).toNat : Int) == 45) = false := by simp; omega
          have hn : nameB (strL s) = (strL s).all nameC := by
            unfold nameB
            rw [strL_len, decide_eq_true (by
              refine ⟨by omega, by omega, fun c hc => ?_, fun c hc => ?_⟩
              · rw [x0] at hc; cases hc; exact e0
              · rw [x1] at hc; cases hc; exact e1), Bool.true_and]
          have HN := Lib.hid hn
          clear hn x0 x1 e0 e1
          go_enter Try.func19, Try.ntmps19
          go_wp2_with fail
          all_goals
            refine (n_all s (by omega)).mono ?_
            rintro e w2 ⟨rfl, rfl⟩
            go_wp2
            go_ret
            rw [HN.out]
            exact ⟨rfl, rfl⟩
end Go.Proofs.Ytcibdcahcpcmaaa

/- Names: what a call of the reference's Right does. -/
namespace Go.Proofs.Ytcibdcahcpcmaaa
open Go.RowKit
set_option maxRecDepth 100000
set_option linter.unusedVariables false
set_option linter.unusedSimpArgs false
/-- The byte at place i of n may stand there. -/
def okC (n i : Nat) (c : UInt8) : Prop := plainB c = true ∨ (c.toNat = 45 ∧ i ≠ 0 ∧ i ≠ n - 1)
theorem okC_name {n i : Nat} {c : UInt8} (h : okC n i c) : nameC c = true := by
  unfold okC plainB at h
  unfold nameC
  rw [decide_eq_true_iff] at h ⊢
  omega
theorem plainB_45 {c : UInt8} (h : c.toNat = 45) : plainB c = false := by
  unfold plainB
  rw [decide_eq_false_iff_not]
  omega
theorem name_plain {c : UInt8} (h : nameC c = true) (h45 : c.toNat ≠ 45) : plainB c = true := by
  unfold plainB
  unfold nameC at h
  rw [decide_eq_true_iff] at h ⊢
  omega
theorem nameB_true {l : List UInt8} (h1 : 1 ≤ l.length) (h2 : l.length ≤ 24) (h : ∀ i c, l[i]? = some c → okC l.length i c) : nameB l = true := by
  unfold nameB
  rw [Bool.and_eq_true, decide_eq_true_iff, List.all_eq_true]
  refine ⟨⟨h1, h2, fun c hc he => ?_, fun c hc he => ?_⟩, fun c hc => ?_⟩
  · rcases h _ _ hc with h3 | ⟨_, h3, _⟩
    · rw [plainB_45 he] at h3; cases h3
    · exact h3 rfl
  · rcases h _ _ hc with h3 | ⟨_, _, h3⟩
    · rw [plainB_45 he] at h3; cases h3
    · exact h3 rfl
  · obtain ⟨i, hi⟩ := List.mem_iff_getElem?.1 hc
    exact okC_name (h i c hi)
theorem nameB_false {l : List UInt8} {i : Nat} {c : UInt8} (hi : l[i]? = some c) (h : ¬ okC l.length i c) : nameB l = false := by
  cases hn : nameB l with
  | false => rfl
  | true =>
    exfalso
    unfold nameB at hn
    rw [Bool.and_eq_true, decide_eq_true_iff, List.all_eq_true] at hn
    obtain ⟨⟨_, _, h3, h4⟩, h5⟩ := hn
    have h6 := h5 c (List.mem_iff_getElem?.2 ⟨i, hi⟩)
    by_cases e : c.toNat = 45
    · refine h (.inr ⟨e, fun h0 => ?_, fun h0 => ?_⟩)
      · subst h0; exact h3 c hi e
      · subst h0; exact h4 c hi e
    · exact h (.inl (name_plain h6 e))
theorem r_right {w : World} (s : ByteArray) (hs : s.size ≤ 9223372036854775807) :
    Calls Try.prog 22 #[.string s] w fun e w' => e = .returned (.bool (nameB (strL s))) ∧ w' = w := by
  by_cases h1 : s.size < 1 ∨ 24 < s.size
  · have hn : nameB (strL s) = false := by
      simp only [nameB, strL_len, Bool.and_eq_false_iff, decide_eq_false_iff_not]
      exact .inl (fun h => by omega)
    have HN := Lib.hid hn
    clear hn
    by_cases h2 : s.size < 1
    · have b1 : (s.size : Int) < 1 := by omega
      go_enter Try.func22, Try.ntmps22
      go_wp2
      go_ret
      rw [HN.out]
      exact ⟨rfl, rfl⟩
    · have b1 : ¬ (s.size : Int) < 1 := by omega
      have b2 : (24 : Int) < (s.size : Int) := by omega
      clear h1
      go_enter Try.func22, Try.ntmps22
      go_wp2
      go_ret
      rw [HN.out]
      exact ⟨rfl, rfl⟩
  · have h2 : 1 ≤ s.size := by omega
    have h3 : s.size ≤ 24 := by omega
    have b1 : ¬ (s.size : Int) < 1 := by omega
    have b2 : ¬ (24 : Int) < (s.size : Int) := by omega
    clear h1
    go_enter Try.func22, Try.ntmps22
    go_wp2
    go_loopw [3] (fun i wr => ∃ j : Nat, j ≤ s.size ∧ i = .int .i64 j ∧ Hid (∀ i c, i < j → (strL s)[i]? = some c → okC s.size i c) ∧ wr = w) (fun i _ => s.size - (intOf i).toNat)
    case atStart => exact ⟨0, Nat.zero_le _, rfl, fun i c h => by omega, rfl⟩
    case round =>
      obtain ⟨j, hj, rfl, HA, rfl⟩ := hrel
      by_cases hlt : j < s.size
      · have b3 : (0 : Int) ≤ (j : Int) := by omega
        have b4 : (j : Int) < (s.size : Int) := by omega
        have HX := Lib.hid (str_at s hlt)
        go_wp2_with fail
        refine (r_plain (s[j]'hlt)).mono ?_
        rintro e w2 ⟨rfl, rfl⟩
        obtain ⟨c, hc⟩ : ∃ c, (s[j]'hlt) = c := ⟨_, rfl⟩
        rw [hc] at HX ⊢
        have HC := Lib.hid hc
        clear hc
        obtain ⟨q, hq⟩ : ∃ q, plainB c = q := ⟨_, rfl⟩
        rw [hq]
        have HQ := Lib.hid hq
        have hnext : okC s.size j c → ∀ i c', i < j + 1 → (strL s)[i]? = some c' → okC s.size i c' := by
          intro ho i c' hi hci
          by_cases e : i = j
          · subst e
            rw [HX.out] at hci
            cases hci
            exact ho
          · exact HA.out i c' (by omega) hci
        have HNX := Lib.hid hnext
        have hstop : ¬ okC s.size j c → nameB (strL s) = false := fun hno => nameB_false HX.out (by rw [strL_len]; exact hno)
        have HST := Lib.hid hstop
        clear hq hnext hstop
        cases q with
        | true =>
          go_wp2
          exact ⟨⟨j + 1, by omega, by go_num, HNX.out (.inl HQ.out), trivial⟩, by simp [intOf]; omega⟩
        | false =>
          by_cases ok : c.toNat = 45 ∧ j ≠ 0 ∧ j ≠ s.size - 1
          · have HK := Lib.hid (HNX.out (.inr ok))
            obtain ⟨o1, o2, o3⟩ := ok
            have c1 : (((s[j]'hlt).toNat : Int) != 45) = false := by rw [HC.out]; simp; omega
            have c2 : ((j : Int) == 0) = false := by simp; omega
            have c3 : ((j : Int) == (s.size : Int) - 1) = false := by simp; omega
            clear o1 o2 o3
            go_wp2
            all_goals exact ⟨⟨j + 1, by omega, by go_num, HK.out, trivial⟩, by simp [intOf]; omega⟩
          · have HK : Hid (nameB (strL s) = false) := HST.out (fun h => by
              rcases h with h | h
              · rw [HQ.out] at h; cases h
              · exact ok h)
            have c1 : (((s[j]'hlt).toNat : Int) != 45) = true ∨ ((((s[j]'hlt).toNat : Int) != 45) = false ∧ ((j : Int) == 0) = true) ∨ ((((s[j]'hlt).toNat : Int) != 45) = false ∧ ((j : Int) == 0) = false ∧ ((j : Int) == (s.size : Int) - 1) = true) := by
              rw [HC.out]
              simp
              omega
            clear ok
            rcases c1 with c1 | ⟨c1, c2⟩ | ⟨c1, c2, c3⟩
            all_goals
              go_wp2
              all_goals
                go_ret
                rw [HK.out]
                exact ⟨rfl, rfl⟩
      · have b4 : ¬ (j : Int) < (s.size : Int) := by omega
        have hn : nameB (strL s) = true := nameB_true (by rw [strL_len]; exact h2) (by rw [strL_len]; exact h3) (fun i c hc => by
          rw [strL_len]
          exact HA.out i c (by have := (List.getElem?_eq_some_iff.1 hc).1; rw [strL_len] at this; omega) hc)
        have HN := Lib.hid hn
        clear hn
        go_wp2
        go_ret
        rw [HN.out]
        exact ⟨rfl, rfl⟩
end Go.Proofs.Ytcibdcahcpcmaaa
