import Derived.Test.YtcibdcahcpcmaaaFold41
import Derived.Test.YtcibdcahcpcmaaaFold12
/- Questions: whether one may be asked: the program's and the reference's word. -/
namespace Go.Proofs.Ytcibdcahcpcmaaa
open Go.RowKit
set_option linter.unusedVariables false
set_option linter.unusedSimpArgs false
/-- Nothing stands where a kind has nothing. -/
def bareB (q : Qry) (n c t k h : Bool) : Bool := (n || decide (q.2.1 = 0)) && (c || q.2.2.1.toList.isEmpty) && (t || q.2.2.2.1.toList.isEmpty) && (k || q.2.2.2.2.1.toList.isEmpty) && (h || !q.2.2.2.2.2)
/-- Whether a question may be asked. -/
def qRight (q : Qry) : Bool :=
  if q.1 = 1 then bareB q false true true false true && nameB (strL q.2.2.1) && (q.2.2.2.1.toList.isEmpty || nameB (strL q.2.2.2.1))
  else if q.1 = 2 then bareB q true false false false false && decide (0 ≤ q.2.1) && decide (q.2.1 < 8)
  else if q.1 = 3 then bareB q false false false true false && keyB (strL q.2.2.2.2.1)
  else if q.1 = 4 then bareB q false false false true false && decide (q.2.2.2.2.1.size ≤ 32)
  else if q.1 = 5 then bareB q false true false false false && (q.2.2.1.toList.isEmpty || nameB (strL q.2.2.1))
  else if q.1 = 6 then bareB q false false false false false
  else false
theorem row6q {w : World} {g t : Nat} {a0 a1 a2 a3 a4 a5 : Value} (h : w.heap[g]? = some (.cells #[a0, a1, a2, a3, a4, a5] t (0, 0))) :
    w.cell? ⟨g, 0, none⟩ = some a0 ∧ w.cell? ⟨g, 1, none⟩ = some a1 ∧ w.cell? ⟨g, 2, none⟩ = some a2 ∧ w.cell? ⟨g, 3, none⟩ = some a3 ∧ w.cell? ⟨g, 4, none⟩ = some a4 ∧ w.cell? ⟨g, 5, none⟩ = some a5 :=
  ⟨by rw [cell_of_row _ _ _ _ _ _ h]; rfl, by rw [cell_of_row _ _ _ _ _ _ h]; rfl, by rw [cell_of_row _ _ _ _ _ _ h]; rfl, by rw [cell_of_row _ _ _ _ _ _ h]; rfl, by rw [cell_of_row _ _ _ _ _ _ h]; rfl, by rw [cell_of_row _ _ _ _ _ _ h]; rfl⟩
theorem boolSay {a b : Bool} (h : a = b) : Ending.returned (Value.bool a) = Ending.returned (Value.bool b) := by rw [h]
theorem emSize (s : ByteArray) : s.toList.isEmpty = decide (s.size = 0) := by
  rw [ByteArray.toList_eq]
  have h : s.data.toList.length = s.size := by simp
  cases hl : s.data.toList with
  | nil => rw [hl] at h; simp at h; rw [decide_eq_true h.symm]; rfl
  | cons a l => rw [hl] at h; simp at h; rw [decide_eq_false (by omega)]; rfl
theorem q_bareFTTFT {w : World} (q : Qry) :
    Calls Try.prog 63 #[.agg (qryV q), .bool false, .bool true, .bool true, .bool false, .bool true] w fun e w' => e = .returned (.bool (bareB q false true true false true)) ∧ Chg nob w w' := by
  have hb := heap_alloc_new w (.cells (qryV q) 61)
  have hc : Chg nob w (w.alloc (.cells (qryV q) 61)) := (Chg.refl nob w).alloc _
  obtain ⟨k, n, nm, tg, ky, hl⟩ := q
  unfold qryV at *
  dsimp only at *
  obtain ⟨w1, hw1⟩ : ∃ w1, w.alloc (.cells #[.int .i64 k, .int .i64 n, .string nm, .string tg, .string ky, .bool hl] 61) = w1 := ⟨_, rfl⟩
  rw [hw1] at hb hc
  obtain ⟨q0, q1, q2, q3, q4, q5⟩ := row6q hb
  have HC := Lib.hid hc
  have HB : Hid (bareB (k, n, nm, tg, ky, hl) false true true false true = ((false || decide (n = 0)) && (true || nm.toList.isEmpty) && (true || tg.toList.isEmpty) && (false || ky.toList.isEmpty) && (true || !hl))) := rfl
  clear hb hc
  go_enter Try.func63, Try.ntmps63
  go_wp2
  all_goals
    go_ret
    refine ⟨boolSay ?_, HC.out⟩
    rw [HB.out]
    simp_all
theorem q_bareTFFFF {w : World} (q : Qry) :
    Calls Try.prog 63 #[.agg (qryV q), .bool true, .bool false, .bool false, .bool false, .bool false] w fun e w' => e = .returned (.bool (bareB q true false false false false)) ∧ Chg nob w w' := by
  have hb := heap_alloc_new w (.cells (qryV q) 61)
  have hc : Chg nob w (w.alloc (.cells (qryV q) 61)) := (Chg.refl nob w).alloc _
  obtain ⟨k, n, nm, tg, ky, hl⟩ := q
  unfold qryV at *
  dsimp only at *
  obtain ⟨w1, hw1⟩ : ∃ w1, w.alloc (.cells #[.int .i64 k, .int .i64 n, .string nm, .string tg, .string ky, .bool hl] 61) = w1 := ⟨_, rfl⟩
  rw [hw1] at hb hc
  obtain ⟨q0, q1, q2, q3, q4, q5⟩ := row6q hb
  have HC := Lib.hid hc
  have HB : Hid (bareB (k, n, nm, tg, ky, hl) true false false false false = ((true || decide (n = 0)) && (false || nm.toList.isEmpty) && (false || tg.toList.isEmpty) && (false || ky.toList.isEmpty) && (false || !hl))) := rfl
  clear hb hc
  go_enter Try.func63, Try.ntmps63
  go_wp2
  all_goals
    go_ret
    refine ⟨boolSay ?_, HC.out⟩
    rw [HB.out]
    simp_all
theorem q_bareFFFTF {w : World} (q : Qry) :
    Calls Try.prog 63 #[.agg (qryV q), .bool false, .bool false, .bool false, .bool true, .bool false] w fun e w' => e = .returned (.bool (bareB q false false false true false)) ∧ Chg nob w w' := by
  have hb := heap_alloc_new w (.cells (qryV q) 61)
  have hc : Chg nob w (w.alloc (.cells (qryV q) 61)) := (Chg.refl nob w).alloc _
  obtain ⟨k, n, nm, tg, ky, hl⟩ := q
  unfold qryV at *
  dsimp only at *
  obtain ⟨w1, hw1⟩ : ∃ w1, w.alloc (.cells #[.int .i64 k, .int .i64 n, .string nm, .string tg, .string ky, .bool hl] 61) = w1 := ⟨_, rfl⟩
  rw [hw1] at hb hc
  obtain ⟨q0, q1, q2, q3, q4, q5⟩ := row6q hb
  have HC := Lib.hid hc
  have HB : Hid (bareB (k, n, nm, tg, ky, hl) false false false true false = ((false || decide (n = 0)) && (false || nm.toList.isEmpty) && (false || tg.toList.isEmpty) && (true || ky.toList.isEmpty) && (false || !hl))) := rfl
  clear hb hc
  go_enter Try.func63, Try.ntmps63
  go_wp2
  all_goals
    go_ret
    refine ⟨boolSay ?_, HC.out⟩
    rw [HB.out]
    simp_all
theorem q_bareFTFFF {w : World} (q : Qry) :
    Calls Try.prog 63 #[.agg (qryV q), .bool false, .bool true, .bool false, .bool false, .bool false] w fun e w' => e = .returned (.bool (bareB q false true false false false)) ∧ Chg nob w w' := by
  have hb := heap_alloc_new w (.cells (qryV q) 61)
  have hc : Chg nob w (w.alloc (.cells (qryV q) 61)) := (Chg.refl nob w).alloc _
  obtain ⟨k, n, nm, tg, ky, hl⟩ := q
  unfold qryV at *
  dsimp only at *
  obtain ⟨w1, hw1⟩ : ∃ w1, w.alloc (.cells #[.int .i64 k, .int .i64 n, .string nm, .string tg, .string ky, .bool hl] 61) = w1 := ⟨_, rfl⟩
  rw [hw1] at hb hc
  obtain ⟨q0, q1, q2, q3, q4, q5⟩ := row6q hb
  have HC := Lib.hid hc
  have HB : Hid (bareB (k, n, nm, tg, ky, hl) false true false false false = ((false || decide (n = 0)) && (true || nm.toList.isEmpty) && (false || tg.toList.isEmpty) && (false || ky.toList.isEmpty) && (false || !hl))) := rfl
  clear hb hc
  go_enter Try.func63, Try.ntmps63
  go_wp2
  all_goals
    go_ret
    refine ⟨boolSay ?_, HC.out⟩
    rw [HB.out]
    simp_all
theorem q_bareFFFFF {w : World} (q : Qry) :
    Calls Try.prog 63 #[.agg (qryV q), .bool false, .bool false, .bool false, .bool false, .bool false] w fun e w' => e = .returned (.bool (bareB q false false false false false)) ∧ Chg nob w w' := by
  have hb := heap_alloc_new w (.cells (qryV q) 61)
  have hc : Chg nob w (w.alloc (.cells (qryV q) 61)) := (Chg.refl nob w).alloc _
  obtain ⟨k, n, nm, tg, ky, hl⟩ := q
  unfold qryV at *
  dsimp only at *
  obtain ⟨w1, hw1⟩ : ∃ w1, w.alloc (.cells #[.int .i64 k, .int .i64 n, .string nm, .string tg, .string ky, .bool hl] 61) = w1 := ⟨_, rfl⟩
  rw [hw1] at hb hc
  obtain ⟨q0, q1, q2, q3, q4, q5⟩ := row6q hb
  have HC := Lib.hid hc
  have HB : Hid (bareB (k, n, nm, tg, ky, hl) false false false false false = ((false || decide (n = 0)) && (false || nm.toList.isEmpty) && (false || tg.toList.isEmpty) && (false || ky.toList.isEmpty) && (false || !hl))) := rfl
  clear hb hc
  go_enter Try.func63, Try.ntmps63
  go_wp2
  all_goals
    go_ret
    refine ⟨boolSay ?_, HC.out⟩
    rw [HB.out]
    simp_all
/-- The texts of a question are texts. -/
def QSz (q : Qry) : Prop := q.2.2.1.size ≤ 9223372036854775807 ∧ q.2.2.2.1.size ≤ 9223372036854775807 ∧ q.2.2.2.2.1.size ≤ 9223372036854775807
set_option maxHeartbeats 2000000 in
theorem qr_right {w : World} (q : Qry) (hz : QSz q) :
    Calls Try.prog 34 #[.agg (qryV q)] w fun e w' => e = .returned (.bool (qRight q)) ∧ Chg nob w w' := by
  have hb := heap_alloc_new w (.cells (qryV q) 61)
  have hc : Chg nob w (w.alloc (.cells (qryV q) 61)) := (Chg.refl nob w).alloc _
  obtain ⟨k, n, nm, tg, ky, hl⟩ := q
  obtain ⟨z1, z2, z3⟩ := hz
  unfold qryV at *
  dsimp only at *
  obtain ⟨w1, hw1⟩ : ∃ w1, w.alloc (.cells #[.int .i64 k, .int .i64 n, .string nm, .string tg, .string ky, .bool hl] 61) = w1 := ⟨_, rfl⟩
  rw [hw1] at hb hc
  obtain ⟨q0, q1, q2, q3, q4, q5⟩ := row6q hb
  have HC := Lib.hid hc
  have HQ : Hid (∀ b, qRight (k, n, nm, tg, ky, hl) = b → qRight (k, n, nm, tg, ky, hl) = b) := fun _ h => h
  clear hb hc
  have hz3 : ky.size ≤ 32 ∨ ¬ ky.size ≤ 32 := Decidable.em _
  by_cases k1 : k = 1
  · subst k1
    go_enter Try.func34, Try.ntmps34
    go_wp2_with (with_reducible refine (r_right _ (by assumption)).mono ?_; rintro e w2 ⟨rfl, rfl⟩)
    all_goals
      go_ret
      refine ⟨boolSay ?_, HC.out⟩
      simp_all [qRight, bareB]
      try omega
  by_cases k2 : k = 2
  · subst k2
    go_enter Try.func34, Try.ntmps34
    go_wp2
    all_goals
      go_ret
      refine ⟨boolSay ?_, HC.out⟩
      simp_all [qRight, bareB]
      try omega
  by_cases k3 : k = 3
  · subst k3
    go_enter Try.func34, Try.ntmps34
    go_wp2_with (with_reducible refine (r_key _ (by assumption)).mono ?_; rintro e w2 ⟨rfl, rfl⟩)
    all_goals
      go_ret
      refine ⟨boolSay ?_, HC.out⟩
      simp_all [qRight, bareB]
      try omega
  by_cases k4 : k = 4
  · subst k4
    go_enter Try.func34, Try.ntmps34
    go_wp2
    all_goals
      go_ret
      refine ⟨boolSay ?_, HC.out⟩
      simp_all [qRight, bareB]
      try omega
  by_cases k5 : k = 5
  · subst k5
    go_enter Try.func34, Try.ntmps34
    go_wp2_with (with_reducible refine (r_right _ (by assumption)).mono ?_; rintro e w2 ⟨rfl, rfl⟩)
    all_goals
      go_ret
      refine ⟨boolSay ?_, HC.out⟩
      simp_all [qRight, bareB]
      try omega
  by_cases k6 : k = 6
  · subst k6
    go_enter Try.func34, Try.ntmps34
    go_wp2
    all_goals
      go_ret
      refine ⟨boolSay ?_, HC.out⟩
      simp_all [qRight, bareB]
      try omega
  have c1 : (k == 1) = false := by simpa using k1
  have c2 : (k == 2) = false := by simpa using k2
  have c3 : (k == 3) = false := by simpa using k3
  have c4 : (k == 4) = false := by simpa using k4
  have c5 : (k == 5) = false := by simpa using k5
  have c6 : (k == 6) = false := by simpa using k6
  have d1 : (k != 1) = true := by simpa using k1
  have d2 : (k != 2) = true := by simpa using k2
  have d3 : (k != 3) = true := by simpa using k3
  have d4 : (k != 4) = true := by simpa using k4
  have d5 : (k != 5) = true := by simpa using k5
  go_enter Try.func34, Try.ntmps34
  go_wp2
  all_goals
    go_ret
    refine ⟨boolSay ?_, HC.out⟩
    simp_all [qRight, bareB]
    try omega
set_option maxHeartbeats 2000000 in
theorem q_right {w : World} (q : Qry) (hz : QSz q) :
    Calls Try.prog 32 #[.agg (qryV q)] w fun e w' => e = .returned (.bool (qRight q)) ∧ Chg nob w w' := by
  have hb := heap_alloc_new w (.cells (qryV q) 61)
  have hc : Chg nob w (w.alloc (.cells (qryV q) 61)) := (Chg.refl nob w).alloc _
  have HB := Lib.hid (fun (wx : World) => q_bareFTTFT (w := wx) q)
  obtain ⟨k, n, nm, tg, ky, hl⟩ := q
  obtain ⟨z1, z2, z3⟩ := hz
  unfold qryV at *
  dsimp only at *
  obtain ⟨w1, hw1⟩ : ∃ w1, w.alloc (.cells #[.int .i64 k, .int .i64 n, .string nm, .string tg, .string ky, .bool hl] 61) = w1 := ⟨_, rfl⟩
  rw [hw1] at hb hc
  obtain ⟨q0, q1, q2, q3, q4, q5⟩ := row6q hb
  have HC := Lib.hid hc
  have HH := Lib.hid hb
  have hy := emSize nm
  clear hb hc HB hy
  by_cases k1 : k = 1
  · subst k1
    obtain ⟨b0, hb0⟩ : ∃ b, bareB (1, n, nm, tg, ky, hl) false true true false true = b := ⟨_, rfl⟩
    have HB0 := Lib.hid hb0
    clear hb0
    go_enter Try.func32, Try.ntmps32
    go_wp2_with fail
    refine (q_bareFTTFT (1, n, nm, tg, ky, hl)).mono ?_
    rintro e w2 ⟨rfl, hc2⟩
    rw [HB0.out]
    have HC2 := Lib.hid (HC.out.thenNew hc2)
    have hb2 := hc2.heap HH.out (not_nob _)
    obtain ⟨r0, r1, r2, r3, r4, r5⟩ := row6q hb2
    clear hc2 hb2 q0 q1 q2 q3 q4 q5
    cases b0 with
    | false =>
      go_wp2
      all_goals
        go_ret
        refine ⟨boolSay ?_, HC2.out⟩
        have := HB0.out
        simp_all [qRight]
    | true =>
      go_wp2_with (refine (n_right _ (by assumption)).mono ?_; rintro e w3 ⟨rfl, rfl⟩)
      all_goals
        go_ret
        refine ⟨boolSay ?_, HC2.out⟩
        have := HB0.out
        simp_all [qRight]
  by_cases k2 : k = 2
  · subst k2
    obtain ⟨b0, hb0⟩ : ∃ b, bareB (2, n, nm, tg, ky, hl) true false false false false = b := ⟨_, rfl⟩
    have HB0 := Lib.hid hb0
    clear hb0
    go_enter Try.func32, Try.ntmps32
    go_wp2_with fail
    refine (q_bareTFFFF (2, n, nm, tg, ky, hl)).mono ?_
    rintro e w2 ⟨rfl, hc2⟩
    rw [HB0.out]
    have HC2 := Lib.hid (HC.out.thenNew hc2)
    have hb2 := hc2.heap HH.out (not_nob _)
    obtain ⟨r0, r1, r2, r3, r4, r5⟩ := row6q hb2
    clear hc2 hb2 q0 q1 q2 q3 q4 q5
    cases b0 with
    | false =>
      go_wp2
      all_goals
        go_ret
        refine ⟨boolSay ?_, HC2.out⟩
        have := HB0.out
        simp_all [qRight]
    | true =>
      go_wp2
      all_goals
        go_ret
        refine ⟨boolSay ?_, HC2.out⟩
        have := HB0.out
        simp_all [qRight]
        try omega
  by_cases k3 : k = 3
  · subst k3
    obtain ⟨b0, hb0⟩ : ∃ b, bareB (3, n, nm, tg, ky, hl) false false false true false = b := ⟨_, rfl⟩
    have HB0 := Lib.hid hb0
    clear hb0
    go_enter Try.func32, Try.ntmps32
    go_wp2_with fail
    refine (q_bareFFFTF (3, n, nm, tg, ky, hl)).mono ?_
    rintro e w2 ⟨rfl, hc2⟩
    rw [HB0.out]
    have HC2 := Lib.hid (HC.out.thenNew hc2)
    have hb2 := hc2.heap HH.out (not_nob _)
    obtain ⟨r0, r1, r2, r3, r4, r5⟩ := row6q hb2
    clear hc2 hb2 q0 q1 q2 q3 q4 q5
    cases b0 with
    | false =>
      go_wp2
      all_goals
        go_ret
        refine ⟨boolSay ?_, HC2.out⟩
        have := HB0.out
        simp_all [qRight]
    | true =>
      go_wp2_with fail
      refine (k_key _ z3).mono ?_
      rintro e w3 ⟨rfl, hc3⟩
      have HC3 := Lib.hid (HC2.out.thenNew hc3)
      clear hc3
      go_wp2
      go_ret
      refine ⟨boolSay ?_, HC3.out⟩
      have := HB0.out
      simp_all [qRight]
  by_cases k4 : k = 4
  · subst k4
    obtain ⟨b0, hb0⟩ : ∃ b, bareB (4, n, nm, tg, ky, hl) false false false true false = b := ⟨_, rfl⟩
    have HB0 := Lib.hid hb0
    clear hb0
    go_enter Try.func32, Try.ntmps32
    go_wp2_with fail
    refine (q_bareFFFTF (4, n, nm, tg, ky, hl)).mono ?_
    rintro e w2 ⟨rfl, hc2⟩
    rw [HB0.out]
    have HC2 := Lib.hid (HC.out.thenNew hc2)
    have hb2 := hc2.heap HH.out (not_nob _)
    obtain ⟨r0, r1, r2, r3, r4, r5⟩ := row6q hb2
    clear hc2 hb2 q0 q1 q2 q3 q4 q5
    cases b0 with
    | false =>
      go_wp2
      all_goals
        go_ret
        refine ⟨boolSay ?_, HC2.out⟩
        have := HB0.out
        simp_all [qRight]
    | true =>
      go_wp2
      all_goals
        go_ret
        refine ⟨boolSay ?_, HC2.out⟩
        have := HB0.out
        simp_all [qRight]
        try omega
  by_cases k5 : k = 5
  · subst k5
    obtain ⟨b0, hb0⟩ : ∃ b, bareB (5, n, nm, tg, ky, hl) false true false false false = b := ⟨_, rfl⟩
    have HB0 := Lib.hid hb0
    clear hb0
    go_enter Try.func32, Try.ntmps32
    go_wp2_with fail
    refine (q_bareFTFFF (5, n, nm, tg, ky, hl)).mono ?_
    rintro e w2 ⟨rfl, hc2⟩
    rw [HB0.out]
    have HC2 := Lib.hid (HC.out.thenNew hc2)
    have hb2 := hc2.heap HH.out (not_nob _)
    obtain ⟨r0, r1, r2, r3, r4, r5⟩ := row6q hb2
    clear hc2 hb2 q0 q1 q2 q3 q4 q5
    cases b0 with
    | false =>
      go_wp2
      all_goals
        go_ret
        refine ⟨boolSay ?_, HC2.out⟩
        have := HB0.out
        simp_all [qRight]
    | true =>
      go_wp2_with (refine (n_right _ (by assumption)).mono ?_; rintro e w3 ⟨rfl, rfl⟩)
      all_goals
        go_ret
        refine ⟨boolSay ?_, HC2.out⟩
        have := HB0.out
        simp_all [qRight]
  by_cases k6 : k = 6
  · subst k6
    obtain ⟨b0, hb0⟩ : ∃ b, bareB (6, n, nm, tg, ky, hl) false false false false false = b := ⟨_, rfl⟩
    have HB0 := Lib.hid hb0
    clear hb0
    go_enter Try.func32, Try.ntmps32
    go_wp2_with fail
    refine (q_bareFFFFF (6, n, nm, tg, ky, hl)).mono ?_
    rintro e w2 ⟨rfl, hc2⟩
    rw [HB0.out]
    have HC2 := Lib.hid (HC.out.thenNew hc2)
    have hb2 := hc2.heap HH.out (not_nob _)
    obtain ⟨r0, r1, r2, r3, r4, r5⟩ := row6q hb2
    clear hc2 hb2 q0 q1 q2 q3 q4 q5
    cases b0 with
    | false =>
      go_wp2
      all_goals
        go_ret
        refine ⟨boolSay ?_, HC2.out⟩
        have := HB0.out
        simp_all [qRight]
    | true =>
      go_wp2
      all_goals
        go_ret
        refine ⟨boolSay ?_, HC2.out⟩
        have := HB0.out
        simp_all [qRight]
        try omega
  have c1 : (k == 1) = false := by simpa using k1
  have c2 : (k == 2) = false := by simpa using k2
  have c3 : (k == 3) = false := by simpa using k3
  have c4 : (k == 4) = false := by simpa using k4
  have c5 : (k == 5) = false := by simpa using k5
  have c6 : (k == 6) = false := by simpa using k6
  go_enter Try.func32, Try.ntmps32
  go_wp2
  go_ret
  refine ⟨boolSay ?_, HC.out⟩
  simp_all [qRight]
#print axioms q_right
end Go.Proofs.Ytcibdcahcpcmaaa