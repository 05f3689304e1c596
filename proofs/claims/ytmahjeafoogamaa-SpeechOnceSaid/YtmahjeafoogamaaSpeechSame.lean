/- Messages: the reference's Same. -/
import Derived.Test.YtmahjeafoogamaaSpeechPut
import Derived.Laws.StructEq
import Derived.Outline
namespace Go.Proofs.Ytmahjeafoogamaa
open Go.RowKit
set_option linter.unusedVariables false
set_option linter.unusedSimpArgs false
instance decM1 : DecidableEq (Bool × List Upd) := inferInstance
instance decM2 : DecidableEq (Int × Bool × List Upd) := @instDecidableEqProd _ _ inferInstance decM1
instance decM3 : DecidableEq (Int × Int × Bool × List Upd) := @instDecidableEqProd _ _ inferInstance decM2
instance decM4 : DecidableEq (Int × Int × Int × Bool × List Upd) := @instDecidableEqProd _ _ inferInstance decM3
instance decMs : DecidableEq Ms := @instDecidableEqProd _ _ inferInstance decM4
/-- Are two messages the same? -/
def sameM (a b : Ms) : Bool := decide (a = b)
theorem sameM_refl (a : Ms) : sameM a a = true := decide_eq_true rfl
theorem eqUpd (T U : Upd) (w : World) : (Op.equalIn 10000 62 (.agg #[.int .i64 T.1, .int .u32 T.2.1, .int .i64 T.2.2]) (.agg #[.int .i64 U.1, .int .u32 U.2.1, .int .i64 U.2.2])).run Try.prog w = .ok (decide (T = U)) w := by
  have u2 := Try.underlying3
  have u3 := Try.underlying22
  obtain ⟨a1, a2, a3⟩ := T
  obtain ⟨b1, b2, b3⟩ := U
  rw [show (10000 : Nat) = 9999 + 1 from rfl]
  rw [run_equalIn_agg w 9999 _ _ _ (by kernel_rfl) (by kernel_rfl)]
  simp only [Program.fieldsOf, Try.underlying62]
  go_simp
  by_cases h1 : a1 = b1
  · by_cases h2 : a2 = b2
    · by_cases h3 : a3 = b3 <;> simp [h1, h2, h3]
    · simp [h1, h2]
  · simp [h1]
theorem take_split' {α : Type} {xs : List α} {k : Nat} {f : α} (hf : xs[k]? = some f) : xs.take (k + 1) = xs.take k ++ [f] := by
  obtain ⟨hj, he⟩ := List.getElem?_eq_some_iff.1 hf
  rw [List.take_succ_eq_append_getElem hj, he]
theorem ne_of_at {α : Type} {xs ys : List α} {k : Nat} {f g : α} (hf : xs[k]? = some f) (hg : ys[k]? = some g) (h : f ≠ g) : xs ≠ ys := by
  rintro rfl
  rw [hf] at hg
  cases hg
  exact h rfl
set_option maxRecDepth 100000 in
set_option maxHeartbeats 1000000 in
theorem r_same08 {w : World} {okA okB : Nat → Prop} {A B : Option Addr} {n m c d : Nat} {xs ys : List Upd} (hx : updK.C w okA A xs) (hy : updK.C w okB B ys) (hn : xs.length = n) (hm : ys.length = m) :
    Calls Try.prog 37 #[.slice A n c, .slice B m d] w fun e w' => e = .returned (.bool (decide (xs = ys))) ∧ Chg nob w w' := by
  have hsm := hx.small
  have hsm2 := hy.small
  rw [hn] at hsm
  rw [hm] at hsm2
  have HX := Lib.hid hx
  have HY := Lib.hid hy
  have HN := Lib.hid hn
  have HM := Lib.hid hm
  have HS0 := Lib.hid (Chg.refl nob w)
  clear hx hy hn hm
  by_cases hnm : n = m
  · subst hnm
    have HF0 : Hid (xs.take 0 = ys.take 0) := rfl
    go_enter Try.func37, Try.ntmps37
    go_wp2
    go_loopw [5] (fun i wr => ∃ k : Nat, k ≤ n ∧ i = .int .i64 k ∧ Hid (xs.take k = ys.take k) ∧ Hid (Chg nob w wr)) (fun i _ => n - (intOf i).toNat)
    case atStart => exact ⟨0, Nat.zero_le _, rfl, HF0, HS0⟩
    case round =>
      obtain ⟨k, hk1, rfl, HF, HS⟩ := hrel
      clear HS0 HF0
      by_cases hlt : k < n
      · have b1 : (k : Int) < (n : Int) := by omega
        have b3 : (0 : Int) ≤ (k : Int) := by omega
        obtain ⟨f, hf⟩ : ∃ f, xs[k]? = some f := ⟨_, List.getElem?_eq_getElem (by rw [HN.out]; exact hlt)⟩
        obtain ⟨g, hg⟩ : ∃ g, ys[k]? = some g := ⟨_, List.getElem?_eq_getElem (by rw [HM.out]; exact hlt)⟩
        obtain ⟨lb, lo, rfl, _, c0, c1, c2⟩ := upd_at (Kd.C_new HX.out HS.out) hf
        obtain ⟨mb, mo, rfl, _, d0, d1, d2⟩ := upd_at (Kd.C_new HY.out HS.out) hg
        have heq := eqUpd f g
        by_cases hk : f = g
        · have HF2 : Hid (xs.take (k + 1) = ys.take (k + 1)) := by
            show _ = _
            rw [take_split' hf, take_split' hg, HF.out, hk]
          rw [decide_eq_true hk] at heq
          clear hf hg hk
          go_wp2
          go_quiet (fail)
          go_wp2
          exact ⟨⟨k + 1, by omega, by go_num, HF2, HS.out.drewN _⟩, by simp [intOf]; omega⟩
        · have HD : Hid (decide (xs = ys) = false) := decide_eq_false (ne_of_at hf hg hk)
          rw [decide_eq_false hk] at heq
          clear hf hg hk
          go_wp2
          go_quiet (fail)
          go_wp2
          go_ret
          rw [HD.out]
          exact ⟨rfl, HS.out.drewN _⟩
      · obtain rfl : k = n := by omega
        have b1 : ¬ (k : Int) < (k : Int) := by omega
        have HD : Hid (decide (xs = ys) = true) := by
          show _ = _
          refine decide_eq_true ?_
          have := HF.out
          rw [← HN.out, List.take_length, HN.out, ← HM.out, List.take_length] at this
          exact this
        go_wp2
        go_ret
        rw [HD.out]
        exact ⟨rfl, HS.out⟩
  · have b1 : ((n : Int) == (m : Int)) = false := by simp; omega
    have HD : Hid (decide (xs = ys) = false) := decide_eq_false (fun h => hnm (by rw [← HN.out, ← HM.out, h]))
    go_enter Try.func37, Try.ntmps37
    go_wp2
    go_ret
    rw [HD.out]
    exact ⟨rfl, HS0.out⟩
set_option maxRecDepth 100000 in
set_option maxHeartbeats 1000000 in
theorem r_sameM {w : World} {a b : Ms} {okA okB : Nat → Prop} {A B : Option Addr} {n m c d : Nat} (hx : updK.C w okA A a.2.2.2.2.2) (hy : updK.C w okB B b.2.2.2.2.2) (hn : a.2.2.2.2.2.length = n) (hm : b.2.2.2.2.2.length = m) :
    Calls Try.prog 16 #[.agg (msV a A n c), .agg (msV b B m d)] w fun e w' => e = .returned (.bool (sameM a b)) ∧ Chg nob w w' := by
  obtain ⟨a1, a2, a3, a4, a5, xs⟩ := a
  obtain ⟨b1, b2, b3, b4, b5, ys⟩ := b
  dsimp only at hx hy hn hm
  have hc1 := (Chg.refl nob w).alloc (.cells (msV (a1, a2, a3, a4, a5, xs) A n c) 25)
  have hc2 := hc1.alloc (.cells (msV (b1, b2, b3, b4, b5, ys) B m d) 25)
  have HC2 := Lib.hid hc2
  have r1 := ((Chg.refl nob (w.alloc (.cells (msV (a1, a2, a3, a4, a5, xs) A n c) 25))).alloc (.cells (msV (b1, b2, b3, b4, b5, ys) B m d) 25)).heap (heap_alloc_new w (.cells (msV (a1, a2, a3, a4, a5, xs) A n c) 25)) (not_nob _)
  have r2 := heap_alloc_new (w.alloc (.cells (msV (a1, a2, a3, a4, a5, xs) A n c) 25)) (.cells (msV (b1, b2, b3, b4, b5, ys) B m d) 25)
  rw [show (w.alloc (.cells (msV (a1, a2, a3, a4, a5, xs) A n c) 25)).heap.size = w.heap.size + 1 from by simp] at r2
  obtain ⟨p0, p1, p2, p3, p4, p5⟩ := row6c r1
  obtain ⟨q0, q1, q2, q3, q4, q5⟩ := row6c r2
  have HX := Lib.hid (Kd.C_new hx hc2)
  have HY := Lib.hid (Kd.C_new hy hc2)
  have HN := Lib.hid hn
  have HM := Lib.hid hm
  have hno : (a1 ≠ b1 ∨ a2 ≠ b2 ∨ a3 ≠ b3 ∨ a4 ≠ b4 ∨ a5 ≠ b5 ∨ xs ≠ ys) → sameM (a1, a2, a3, a4, a5, xs) (b1, b2, b3, b4, b5, ys) = false := by
    intro h
    refine decide_eq_false (fun e => ?_)
    simp only [Prod.mk.injEq] at e
    obtain ⟨e1, e2, e3, e4, e5, e6⟩ := e
    rcases h with h | h | h | h | h | h
    · exact h e1
    · exact h e2
    · exact h e3
    · exact h e4
    · exact h e5
    · exact h e6
  have HNO := Lib.hid hno
  clear hx hy hn hm hc1 hc2 r1 r2 hno
  by_cases h1 : a1 = b1
  rotate_left
  · have HD := Lib.hid (HNO.out (.inl h1))
    have t1 : (a1 == b1) = false := by simpa using h1
    clear h1
    go_enter Try.func16, Try.ntmps16
    go_wp2
    go_ret
    rw [HD.out]
    exact ⟨rfl, HC2.out⟩
  by_cases h2 : a2 = b2
  rotate_left
  · have HD := Lib.hid (HNO.out (.inr (.inl h2)))
    have t1 : (a1 == b1) = true := by simpa using h1
    have t2 : (a2 == b2) = false := by simpa using h2
    clear h1 h2
    go_enter Try.func16, Try.ntmps16
    go_wp2
    go_ret
    rw [HD.out]
    exact ⟨rfl, HC2.out⟩
  by_cases h3 : a3 = b3
  rotate_left
  · have HD := Lib.hid (HNO.out (.inr (.inr (.inl h3))))
    have t1 : (a1 == b1) = true := by simpa using h1
    have t2 : (a2 == b2) = true := by simpa using h2
    have t3 : (a3 == b3) = false := by simpa using h3
    clear h1 h2 h3
    go_enter Try.func16, Try.ntmps16
    go_wp2
    go_ret
    rw [HD.out]
    exact ⟨rfl, HC2.out⟩
  by_cases h4 : a4 = b4
  rotate_left
  · have HD := Lib.hid (HNO.out (.inr (.inr (.inr (.inl h4)))))
    have t1 : (a1 == b1) = true := by simpa using h1
    have t2 : (a2 == b2) = true := by simpa using h2
    have t3 : (a3 == b3) = true := by simpa using h3
    have t4 : (a4 == b4) = false := by simpa using h4
    clear h1 h2 h3 h4
    go_enter Try.func16, Try.ntmps16
    go_wp2
    go_ret
    rw [HD.out]
    exact ⟨rfl, HC2.out⟩
  have t1 : (a1 == b1) = true := by simpa using h1
  have t2 : (a2 == b2) = true := by simpa using h2
  have t3 : (a3 == b3) = true := by simpa using h3
  have t4 : (a4 == b4) = true := by simpa using h4
  by_cases h5 : a5 = b5
  rotate_left
  · have HD := Lib.hid (HNO.out (.inr (.inr (.inr (.inr (.inl h5))))))
    have t5 : (a5 == b5) = false := by cases a5 <;> cases b5 <;> first | rfl | exact absurd rfl h5
    clear h1 h2 h3 h4 h5
    go_enter Try.func16, Try.ntmps16
    go_wp2
    go_ret
    rw [HD.out]
    exact ⟨rfl, HC2.out⟩
  have t5 : (a5 == b5) = true := by rw [h5]; cases b5 <;> rfl
  have HD : Hid (sameM (a1, a2, a3, a4, a5, xs) (b1, b2, b3, b4, b5, ys) = decide (xs = ys)) := by
    show _ = _
    rw [h1, h2, h3, h4, h5]
    simp [sameM]
  clear h1 h2 h3 h4 h5 HNO
  go_enter Try.func16, Try.ntmps16
  go_wp2_with fail
  refine (r_same08 HX.out HY.out HN.out HM.out).mono ?_
  rintro e w2 ⟨rfl, hc⟩
  have HF := Lib.hid (HC2.out.thenNew hc)
  obtain ⟨b, hb⟩ : ∃ b, decide (xs = ys) = b := ⟨_, rfl⟩
  rw [hb] at HD ⊢
  clear hc hb
  cases b
  all_goals
    go_wp2
    go_ret
    rw [HD.out]
    exact ⟨rfl, HF.out⟩
end Go.Proofs.Ytmahjeafoogamaa
