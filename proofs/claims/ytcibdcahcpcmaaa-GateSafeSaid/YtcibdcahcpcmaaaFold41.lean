import Derived.Test.YtcibdcahcpcmaaaFold40
/- Keys: what the program's and the reference's word is. -/
namespace Go.Proofs.Ytcibdcahcpcmaaa
open Go.RowKit
set_option linter.unusedVariables false
set_option linter.unusedSimpArgs false
/-- A byte of a key's part. -/
def keyC (c : UInt8) : Bool := plainB c || decide (c.toNat = 45) || decide (c.toNat = 95) || decide (c.toNat = 46)
/-- The rest of a key; fresh: a part begins here. -/
def goK : List UInt8 → Bool → Bool
  | [], fresh => !fresh
  | c :: r, fresh => if c.toNat = 47 then !fresh && goK r true else keyC c && goK r false
def keyB (l : List UInt8) : Bool := decide (1 ≤ l.length ∧ l.length ≤ 32) && goK l true
theorem keyC_47 {c : UInt8} (h : c.toNat = 47) : keyC c = false := by
  unfold keyC plainB
  simp [h]
/-- Up to the next slash. -/
theorem goK_part : ∀ (p r : List UInt8) (fresh : Bool), (∀ c ∈ p, c.toNat ≠ 47) → goK (p ++ (47 : UInt8) :: r) fresh = (p.all keyC && (!(fresh && p.isEmpty) && goK r true))
  | [], r, fresh, _ => by
    show goK ((47 : UInt8) :: r) fresh = _
    simp [goK]
  | c :: p, r, fresh, h => by
    have hc := h c (List.mem_cons_self ..)
    rw [List.cons_append, goK, if_neg hc, goK_part p r false (fun d hd => h d (List.mem_cons_of_mem _ hd))]
    simp [Bool.and_assoc]
theorem goK_last : ∀ (p : List UInt8) (fresh : Bool), (∀ c ∈ p, c.toNat ≠ 47) → goK p fresh = (p.all keyC && !(fresh && p.isEmpty))
  | [], fresh, _ => by simp [goK]
  | c :: p, fresh, h => by
    have hc := h c (List.mem_cons_self ..)
    rw [goK, if_neg hc, goK_last p false (fun d hd => h d (List.mem_cons_of_mem _ hd))]
    simp
theorem cut_goK {l p r : List UInt8} {more : Bool} (h : CutAt l p r more) : goK l true = (p.all keyC && (!p.isEmpty && (!more || goK r true))) := by
  obtain ⟨h1, ⟨rfl, rfl⟩ | ⟨rfl, rfl, rfl⟩⟩ := h
  · rw [goK_part p r true h1]
    simp
  · rw [goK_last l true h1]
    simp
theorem cut_len {l p r : List UInt8} (h : CutAt l p r true) : r.length + 1 ≤ l.length ∧ p.length ≤ l.length := by
  obtain ⟨h1, ⟨_, rfl⟩ | ⟨h, _⟩⟩ := h
  · simp only [List.length_append, List.length_cons]; omega
  · cases h
theorem cut_len' {l p r : List UInt8} {more : Bool} (h : CutAt l p r more) : r.length ≤ l.length ∧ p.length ≤ l.length := by
  obtain ⟨h1, ⟨rfl, rfl⟩ | ⟨rfl, rfl, rfl⟩⟩ := h
  · simp only [List.length_append, List.length_cons]; omega
  · simp
theorem goK_at {l : List UInt8} {j : Nat} {c : UInt8} (h : l[j]? = some c) (f : Bool) : goK (l.drop j) f = if c.toNat = 47 then !f && goK (l.drop (j + 1)) true else keyC c && goK (l.drop (j + 1)) false := by
  obtain ⟨hj, rfl⟩ := List.getElem?_eq_some_iff.1 h
  rw [List.drop_eq_getElem_cons hj, goK]
theorem k_plain1 {w : World} (c : UInt8) : Calls Try.prog 86 #[.int .u8 (c.toNat : Int)] w fun e w' => e = .returned (.bool (keyC c)) ∧ w' = w := by
  go_enter Try.func86, Try.ntmps86
  go_wp2_with fail
  refine (n_plain c).mono ?_
  rintro e w2 ⟨rfl, rfl⟩
  have HK : Hid (keyC c = (plainB c || decide (c.toNat = 45) || decide (c.toNat = 95) || decide (c.toNat = 46))) := rfl
  obtain ⟨q, hq⟩ : ∃ q, plainB c = q := ⟨_, rfl⟩
  rw [hq] at HK ⊢
  clear hq
  cases q with
  | true =>
    go_wp2
    all_goals
      go_ret
      exact ⟨by rw [HK.out]; simp, rfl⟩
  | false =>
    by_cases h1 : c.toNat = 45
    · have c1 : ((c.toNat : Int) == 45) = true := by simp; omega
      rw [decide_eq_true h1] at HK
      clear h1
      go_wp2
      all_goals
        go_ret
        exact ⟨by rw [HK.out]; simp, rfl⟩
    · have c1 : ((c.toNat : Int) == 45) = false := by simp; omega
      rw [decide_eq_false h1] at HK
      clear h1
      by_cases h2 : c.toNat = 95
      · have c2 : ((c.toNat : Int) == 95) = true := by simp; omega
        rw [decide_eq_true h2] at HK
        clear h2
        go_wp2
        all_goals
          go_ret
          exact ⟨by rw [HK.out]; simp, rfl⟩
      · have c2 : ((c.toNat : Int) == 95) = false := by simp; omega
        rw [decide_eq_false h2] at HK
        clear h2
        by_cases h3 : c.toNat = 46
        · have c3 : ((c.toNat : Int) == 46) = true := by simp; omega
          rw [decide_eq_true h3] at HK
          clear h3
          go_wp2
          all_goals
            go_ret
            exact ⟨by rw [HK.out]; simp, rfl⟩
        · have c3 : ((c.toNat : Int) == 46) = false := by simp; omega
          rw [decide_eq_false h3] at HK
          clear h3
          go_wp2
          all_goals
            go_ret
            exact ⟨by rw [HK.out]; simp, rfl⟩
theorem k_all {w : World} (s : ByteArray) (hs : s.size ≤ 1000000000) :
    Calls Try.prog 35 #[.string s, .func (.func 86) #[] #[]] w fun e w' => e = .returned (.bool ((strL s).all keyC)) ∧ w' = w := by
  have hsl : Hid ((strL s).length = s.size) := strL_len s
  go_enter Try.func35, Try.ntmps35
  go_wp2
  go_loopw [8] (fun i wr => ∃ j : Nat, j ≤ s.size ∧ i = .int .i64 j ∧ Hid (((strL s).take j).all keyC = true) ∧ wr = w) (fun i _ => s.size - (intOf i).toNat)
  case atStart => exact ⟨0, Nat.zero_le _, rfl, rfl, rfl⟩
  case round =>
    obtain ⟨j, hj, rfl, HA, rfl⟩ := hrel
    by_cases hlt : j < s.size
    · have b1 : (0 : Int) ≤ (j : Int) := by omega
      have b2 : (j : Int) < (s.size : Int) := by omega
      have HX := Lib.hid (str_at s hlt)
      go_wp2_with fail
      refine (k_plain1 (s[j]'hlt)).mono ?_
      rintro e w2 ⟨rfl, rfl⟩
      obtain ⟨c, hc⟩ : ∃ c, (s[j]'hlt) = c := ⟨_, rfl⟩
      rw [hc] at HX ⊢
      clear hc
      obtain ⟨q, hq⟩ : ∃ q, keyC c = q := ⟨_, rfl⟩
      rw [hq]
      have HQ := Lib.hid hq
      clear hq
      cases q with
      | true =>
        go_wp2
        exact ⟨⟨j + 1, by omega, by go_num, all_next HX.out HA.out HQ.out, trivial⟩, by simp [intOf]; omega⟩
      | false =>
        go_wp2
        go_ret
        rw [all_stop HX.out HQ.out]
        exact ⟨rfl, rfl⟩
    · have b2 : ¬ (j : Int) < (s.size : Int) := by omega
      go_wp2
      go_ret
      have := HA.out
      rw [List.take_of_length_le (by rw [hsl.out]; omega)] at this
      rw [this]
      exact ⟨rfl, rfl⟩
/-- How much is left in a cutter. -/
def restOf (g : Nat) (w : World) : Nat := match w.cell? ⟨g, 0, none⟩ with | some (.string s) => s.size | _ => 0
theorem restOf_eq {w : World} {g : Nat} {s : ByteArray} (h : CutBox w g s) : restOf g w = s.size := by
  unfold restOf
  rw [cell_of_row _ _ _ _ _ _ h]
  rfl
theorem strEmpty (p : ByteArray) : p.toList.isEmpty = (strL p).isEmpty := by rw [ByteArray.toList_eq]; rfl
theorem k_key {w : World} (s : ByteArray) (hs : s.size ≤ 9223372036854775807) :
    Calls Try.prog 64 #[.string s] w fun e w' => e = .returned (.bool (keyB (strL s))) ∧ Chg nob w w' := by
  by_cases h1 : s.size < 1
  · have b1 : (s.size : Int) < 1 := by omega
    have HN : Hid (keyB (strL s) = false) := by
      show _ = _
      simp only [keyB, strL_len, Bool.and_eq_false_iff, decide_eq_false_iff_not]
      exact .inl (fun h => by omega)
    clear h1
    go_enter Try.func64, Try.ntmps64
    go_wp2
    go_ret
    rw [HN.out]
    exact ⟨rfl, Chg.refl _ _⟩
  · by_cases h2 : 32 < s.size
    · have b1 : ¬ (s.size : Int) < 1 := by omega
      have b2 : (32 : Int) < (s.size : Int) := by omega
      have HN : Hid (keyB (strL s) = false) := by
        show _ = _
        simp only [keyB, strL_len, Bool.and_eq_false_iff, decide_eq_false_iff_not]
        exact .inl (fun h => by omega)
      clear h1 h2
      go_enter Try.func64, Try.ntmps64
      go_wp2
      go_ret
      rw [HN.out]
      exact ⟨rfl, Chg.refl _ _⟩
    · have b1 : ¬ (s.size : Int) < 1 := by omega
      have b2 : ¬ (32 : Int) < (s.size : Int) := by omega
      have HN : Hid (keyB (strL s) = goK (strL s) true) := by
        show _ = _
        rw [keyB, strL_len, decide_eq_true ⟨by omega, by omega⟩, Bool.true_and]
      have HS : Hid (s.size ≤ 32) := by show _ ≤ _; omega
      have hbx := heap_alloc_new w (.cells #[.string s] 153)
      have HB := Lib.hid hbx
      have HC : Hid (Chg nob w (w.alloc (.cells #[.string s] 153))) := (Chg.refl nob w).alloc _
      clear h1 h2 hbx
      go_enter Try.func64, Try.ntmps64
      go_wp2
      go_loopw [] (fun wr => ∃ r : ByteArray, r.size ≤ 32 ∧ Hid (CutBox wr w.heap.size r) ∧ Hid (goK (strL s) true = goK (strL r) true) ∧ Hid (Chg nob w wr)) (fun wr => restOf w.heap.size wr)
      case atStart => exact ⟨s, HS.out, HB.out, rfl, HC.out⟩
      case round =>
        obtain ⟨r, hr, HB1, HG, HC1⟩ := hrel
        go_wp2_with fail
        refine (k_next HB1.out (by omega)).mono ?_
        rintro e w2 ⟨p, r2, more, rfl, hcut, hbox, hchg⟩
        have HL := Lib.hid (cut_len' hcut)
        have HE := Lib.hid (cut_goK hcut)
        have HCUT := Lib.hid hcut
        have HB2 := Lib.hid hbox
        have HC2 : Hid (Chg nob w w2) := HC1.out.trans hchg (fun i hi => .inr (by rw [hi]; exact Nat.le_refl _))
        have hpe := strEmpty p
        obtain ⟨em, hem⟩ : ∃ em, (strL p).isEmpty = em := ⟨_, rfl⟩
        rw [hem] at hpe HE
        have HEM := Lib.hid hem
        clear hcut hbox hchg hem
        cases em with
        | true =>
          go_wp2
          go_ret
          rw [HN.out, HG.out, HE.out]
          exact ⟨by simp, HC2.out⟩
        | false =>
          go_wp2_with fail
          refine (k_all p (by have := HL.out.2; rw [strL_len, strL_len] at this; omega)).mono ?_
          rintro e w3 ⟨rfl, rfl⟩
          obtain ⟨al, hal⟩ : ∃ al, (strL p).all keyC = al := ⟨_, rfl⟩
          rw [hal] at HE ⊢
          clear hal
          cases al with
          | false =>
            go_wp2
            go_ret
            rw [HN.out, HG.out, HE.out]
            exact ⟨by simp, HC2.out⟩
          | true =>
            cases more with
            | true =>
              go_wp2
              refine ⟨⟨r2, ?_, HB2.out, ?_, HC2.out⟩, ?_⟩
              · have := HL.out.1; rw [strL_len, strL_len] at this; omega
              · show _ = _
                rw [HG.out, HE.out]
                simp
              · rw [restOf_eq HB2.out, restOf_eq HB1.out]
                have := (cut_len HCUT.out).1
                rw [strL_len, strL_len] at this
                omega
            | false =>
              go_wp2
              go_ret
              rw [HN.out, HG.out, HE.out]
              exact ⟨by simp, HC2.out⟩
/-- Whether a part begins at place j. -/
def freshK (l : List UInt8) (j : Nat) : Bool := decide (j = 0 ∨ l[j - 1]? = some 47)
set_option maxHeartbeats 1000000 in
theorem r_key {w : World} (s : ByteArray) (hs : s.size ≤ 9223372036854775807) :
    Calls Try.prog 72 #[.string s] w fun e w' => e = .returned (.bool (keyB (strL s))) ∧ w' = w := by
  by_cases h1 : s.size < 1
  · have b1 : (s.size : Int) < 1 := by omega
    have HN : Hid (keyB (strL s) = false) := by
      show _ = _
      simp only [keyB, strL_len, Bool.and_eq_false_iff, decide_eq_false_iff_not]
      exact .inl (fun h => by omega)
    clear h1
    go_enter Try.func72, Try.ntmps72
    go_wp2
    go_ret
    rw [HN.out]
    exact ⟨rfl, rfl⟩
  · by_cases h2 : 32 < s.size
    · have b1 : ¬ (s.size : Int) < 1 := by omega
      have b2 : (32 : Int) < (s.size : Int) := by omega
      have HN : Hid (keyB (strL s) = false) := by
        show _ = _
        simp only [keyB, strL_len, Bool.and_eq_false_iff, decide_eq_false_iff_not]
        exact .inl (fun h => by omega)
      clear h1 h2
      go_enter Try.func72, Try.ntmps72
      go_wp2
      go_ret
      rw [HN.out]
      exact ⟨rfl, rfl⟩
    · have b1 : ¬ (s.size : Int) < 1 := by omega
      have b2 : ¬ (32 : Int) < (s.size : Int) := by omega
      have HN : Hid (keyB (strL s) = goK (strL s) true) := by
        show _ = _
        rw [keyB, strL_len, decide_eq_true ⟨by omega, by omega⟩, Bool.true_and]
      have HS : Hid (s.size ≤ 32 ∧ 1 ≤ s.size) := by show _ ∧ _; omega
      clear h1 h2
      go_enter Try.func72, Try.ntmps72
      go_wp2
      go_loopw [3] (fun i wr => ∃ j : Nat, j ≤ s.size ∧ i = .int .i64 j ∧ Hid (goK (strL s) true = goK ((strL s).drop j) (freshK (strL s) j)) ∧ Hid (j = s.size → freshK (strL s) j = false) ∧ wr = w) (fun i _ => s.size - (intOf i).toNat)
      case atStart => exact ⟨0, Nat.zero_le _, rfl, rfl, fun h => by have := HS.out; omega, rfl⟩
      case round =>
        obtain ⟨j, hj, rfl, HG, HF, rfl⟩ := hrel
        by_cases hlt : j < s.size
        · have b3 : (0 : Int) ≤ (j : Int) := by omega
          have b4 : (j : Int) < (s.size : Int) := by omega
          have hx := str_at s hlt
          have HX := Lib.hid hx
          have HAT := Lib.hid (goK_at hx (freshK (strL s) j))
          by_cases e47 : (s[j]'hlt).toNat = 47
          · have c0 : (((s[j]'hlt).toNat : Int) == 47) = true := by simp; omega
            have HE : Hid (goK ((strL s).drop j) (freshK (strL s) j) = (!freshK (strL s) j && goK ((strL s).drop (j + 1)) true)) := by
              show _ = _
              rw [HAT.out, if_pos e47]
            have HNF : Hid (freshK (strL s) (j + 1) = true) := by
              show decide _ = _
              rw [decide_eq_true_iff, Nat.add_sub_cancel, HX.out]
              exact .inr (congrArg some (UInt8.toNat_inj.1 e47))
            clear hx e47
            by_cases e0 : j = 0
            · subst e0
              have HR : Hid (keyB (strL s) = false) := by
                show _ = _
                rw [HN.out, HG.out, HE.out]
                simp [freshK]
              go_wp2
              go_ret
              rw [HR.out]
              exact ⟨rfl, rfl⟩
            · have c1 : ((j : Int) == 0) = false := by simp; omega
              by_cases e1 : j = s.size - 1
              · have c2 : ((j : Int) == (s.size : Int) - 1) = true := by simp; omega
                have HR : Hid (keyB (strL s) = false) := by
                  show _ = _
                  rw [HN.out, HG.out, HE.out, List.drop_of_length_le (by rw [strL_len]; omega)]
                  simp [goK]
                clear e1
                go_wp2
                all_goals
                  go_ret
                  rw [HR.out]
                  exact ⟨rfl, rfl⟩
              · have c2 : ((j : Int) == (s.size : Int) - 1) = false := by simp; omega
                have hy := str_at s (j := j - 1) (by omega)
                have c3 : (0 : Int) ≤ (j : Int) - 1 := by omega
                have c4 : (j : Int) - 1 < (s.size : Int) := by omega
                have HY := Lib.hid hy
                have HJ : Hid (j + 1 ≠ s.size) := by show _ ≠ _; omega
                clear e1 hy
                by_cases e2 : (s[j - 1]'(by omega)).toNat = 47
                · have c5 : (((s[j - 1]'(by omega)).toNat : Int) == 47) = true := by simp; omega
                  have HR : Hid (keyB (strL s) = false) := by
                    show _ = _
                    rw [HN.out, HG.out, HE.out]
                    have : freshK (strL s) j = true := decide_eq_true (.inr (by rw [HY.out]; exact congrArg some (UInt8.toNat_inj.1 e2)))
                    rw [this]
                    rfl
                  clear e2
                  go_wp2
                  all_goals
                    go_ret
                    rw [HR.out]
                    exact ⟨rfl, rfl⟩
                · have c5 : (((s[j - 1]'(by omega)).toNat : Int) == 47) = false := by simp; omega
                  have HR : Hid (goK (strL s) true = goK ((strL s).drop (j + 1)) (freshK (strL s) (j + 1))) := by
                    show _ = _
                    have : freshK (strL s) j = false := by
                      unfold freshK
                      rw [decide_eq_false_iff_not, HY.out]
                      rintro (h | h)
                      · exact e0 h
                      · exact e2 (by rw [Option.some.inj h]; rfl)
                    rw [HG.out, HE.out, this, HNF.out]
                    rfl
                  clear e2 e0
                  go_wp2
                  all_goals exact ⟨⟨j + 1, by omega, by go_num, HR.out, fun h => absurd h HJ.out, trivial⟩, by simp [intOf]; omega⟩
          · have c0 : (((s[j]'hlt).toNat : Int) == 47) = false := by simp; omega
            have HE : Hid (goK ((strL s).drop j) (freshK (strL s) j) = (keyC (s[j]'hlt) && goK ((strL s).drop (j + 1)) false)) := by
              show _ = _
              rw [HAT.out, if_neg e47]
            have HNF : Hid (freshK (strL s) (j + 1) = false) := by
              show decide _ = _
              rw [decide_eq_false_iff_not, Nat.add_sub_cancel, HX.out]
              rintro (h | h)
              · omega
              · exact e47 (by rw [Option.some.inj h]; rfl)
            clear hx e47
            go_wp2_with fail
            refine (r_plain (s[j]'hlt)).mono ?_
            rintro e w2 ⟨rfl, rfl⟩
            obtain ⟨c, hc⟩ : ∃ c, (s[j]'hlt) = c := ⟨_, rfl⟩
            have HKC : Hid (keyC c = (plainB c || decide (c.toNat = 45) || decide (c.toNat = 95) || decide (c.toNat = 46))) := rfl
            rw [hc] at HE c0 ⊢
            have HC := Lib.hid hc
            clear hc
            have HNX : Hid (keyC c = true → goK (strL s) true = goK ((strL s).drop (j + 1)) (freshK (strL s) (j + 1))) := by
              intro hk
              rw [HG.out, HE.out, HNF.out, hk, Bool.true_and]
            obtain ⟨q, hq⟩ : ∃ q, plainB c = q := ⟨_, rfl⟩
            rw [hq] at HKC ⊢
            clear hq
            cases q with
            | true =>
              go_wp2
              all_goals exact ⟨⟨j + 1, by omega, by go_num, HNX.out (by rw [HKC.out]; simp), fun h => HNF.out, trivial⟩, by simp [intOf]; omega⟩
            | false =>
              by_cases o1 : c.toNat = 45
              · have d1 : (((s[j]'hlt).toNat : Int) != 45) = false := by rw [HC.out]; simp; omega
                have HO := Lib.hid o1
                clear o1
                go_wp2
                all_goals exact ⟨⟨j + 1, by omega, by go_num, HNX.out (by rw [HKC.out, decide_eq_true HO.out]; simp), fun h => HNF.out, trivial⟩, by simp [intOf]; omega⟩
              · have d1 : (((s[j]'hlt).toNat : Int) != 45) = true := by rw [HC.out]; simp; omega
                have HO1 := Lib.hid o1
                clear o1
                by_cases o2 : c.toNat = 95
                · have d2 : (((s[j]'hlt).toNat : Int) != 95) = false := by rw [HC.out]; simp; omega
                  have HO := Lib.hid o2
                  clear o2
                  go_wp2
                  all_goals exact ⟨⟨j + 1, by omega, by go_num, HNX.out (by rw [HKC.out, decide_eq_true HO.out]; simp), fun h => HNF.out, trivial⟩, by simp [intOf]; omega⟩
                · have d2 : (((s[j]'hlt).toNat : Int) != 95) = true := by rw [HC.out]; simp; omega
                  have HO2 := Lib.hid o2
                  clear o2
                  by_cases o3 : c.toNat = 46
                  · have d3 : (((s[j]'hlt).toNat : Int) != 46) = false := by rw [HC.out]; simp; omega
                    have HO := Lib.hid o3
                    clear o3
                    go_wp2
                    all_goals exact ⟨⟨j + 1, by omega, by go_num, HNX.out (by rw [HKC.out, decide_eq_true HO.out]; simp), fun h => HNF.out, trivial⟩, by simp [intOf]; omega⟩
                  · have d3 : (((s[j]'hlt).toNat : Int) != 46) = true := by rw [HC.out]; simp; omega
                    have HR : Hid (keyB (strL s) = false) := by
                      show _ = _
                      rw [HN.out, HG.out, HE.out, HKC.out, decide_eq_false HO1.out, decide_eq_false HO2.out, decide_eq_false o3]
                      rfl
                    clear o3
                    go_wp2
                    all_goals
                      go_ret
                      rw [HR.out]
                      exact ⟨rfl, rfl⟩
        · have b4 : ¬ (j : Int) < (s.size : Int) := by omega
          have HR : Hid (keyB (strL s) = true) := by
            show _ = _
            have hjn : j = s.size := by omega
            rw [HN.out, HG.out, HF.out hjn, List.drop_of_length_le (by rw [strL_len]; omega)]
            rfl
          go_wp2
          go_ret
          rw [HR.out]
          exact ⟨rfl, rfl⟩
#print axioms r_key
end Go.Proofs.Ytcibdcahcpcmaaa
