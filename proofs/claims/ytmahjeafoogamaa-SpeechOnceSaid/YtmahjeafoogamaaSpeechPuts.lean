/- Messages: the walk of SpeechPuts. -/
import Derived.Test.YtmahjeafoogamaaSpeechBody
namespace Go.Proofs.Ytmahjeafoogamaa
open Go.RowKit
set_option linter.unusedVariables false
set_option linter.unusedSimpArgs false
theorem works_body : rightM (1, 5, 1, 2, false, []) = true ∧ bodyL (1, 5, 1, 2, false, []) = [1, 5, 1, 1, 1, 2] := by
  refine ⟨by decide, ?_⟩
  simp [bodyL, layL, fieldsL, fieldB, numB, leB]
set_option maxRecDepth 100000 in
set_option maxHeartbeats 1000000 in
theorem speech_works (w : World) : Calls Try.prog 12 #[] w fun e w' => e = .returned (.bool true) ∧ Chg nob w w' := by
  go_enter Try.func12, Try.ntmps12
  go_wp2_with fail
  refine (s_put (m := (1, 5, 1, 2, false, [])) (ok := fun _ => False) (Kd.C_nil _ _ _ _) rfl ⟨⟨by decide, by decide⟩, by simp⟩).mono ?_
  rintro e w2 ⟨hc2, ⟨he, _⟩ | ⟨_, A, n, c, rfl, hn, hnc, hC⟩⟩
  · rw [works_body.1] at he; cases he
  rw [works_body.2] at hn hC
  obtain rfl : n = 6 := hn.symm
  have hca := (Chg.refl nob w2).alloc (.cells #[.int .u8 1, .slice A 6 c] 28)
  have hfin := hc2.thenNew hca
  obtain ⟨q0, q1⟩ := row2s (heap_alloc_new w2 (.cells #[.int .u8 1, .slice A 6 c] 28))
  have hcv := conv_any (Kd.C_new hC hca) (show ([1, 5, 1, 1, 1, 2] : List UInt8).length = 6 from rfl) c
  clear hca hC hc2
  go_wp2
  go_ret
  exact ⟨congrArg (fun b => Ending.returned (.bool b)) (show ((strOf [1, 5, 1, 1, 1, 2]).toList == [1, 5, 1, 1, 1, 2]) = true from by rw [strOf_list]; rfl), hfin⟩
/-- The message's place, the frame's place. -/
structure PtSt (w0 : World) (m : Ms) (ok : Nat → Prop) (B : Option Addr) (n d g2 : Nat) (kv : Int) (A : Option Addr) (bn bc : Nat) (body : List UInt8) (w : World) : Prop where
  ms : MsSt w0 w0.heap.size m ok B n d w
  fr : w.heap[g2]? = some (.cells #[.int .u8 kv, .slice A bn bc] 28 (0, 0))
  body : Kd.byte.C w (fun _ => True) A body
theorem PtSt.new {w0 : World} {m : Ms} {ok : Nat → Prop} {B : Option Addr} {n d g2 : Nat} {kv : Int} {A : Option Addr} {bn bc : Nat} {body : List UInt8} {w w' : World} (h : PtSt w0 m ok B n d g2 kv A bn bc body w) (hc : Chg nob w w') : PtSt w0 m ok B n d g2 kv A bn bc body w' :=
  ⟨h.ms.new hc, hc.heap h.fr (not_nob _), Kd.C_new h.body hc⟩
theorem quiet_one {P : Program} {ops : Array Oper} {C : World → Prop} {Q : Act → Prop} {o : Oper} {rest : List Oper} {a : Act} (hg : o.guard = none) (v : Value) (h1 : ∀ w, C w → o.quietAt P a C w v) (h2 : wpQuiet P ops C Q rest (a.put o.dst v)) : wpQuiet P ops C Q (o :: rest) a := by
  unfold wpQuiet
  rw [if_pos (by simp [Region.wanted, hg])]
  exact ⟨v, h1, h2⟩
set_option maxRecDepth 100000 in
set_option maxHeartbeats 1000000 in
theorem speechPuts_walk {w : World} {m : Ms} {B : Option Addr} {n d : Nat} (hb : updK.C w (fun b => b < w.heap.size) B m.2.2.2.2.2) (hn : m.2.2.2.2.2.length = n) (hw : wfM m) :
    Calls Try.prog 3 #[.agg (msV m B n d)] w fun e w' => e = .returned (.bool true) ∧ Chg nob w w' := by
  have hst := ms_start (n := n) (d := d) hb
  have hrow := row6c hst.row
  obtain ⟨kd, sq, fr, tg, rp, us⟩ := m
  have HN := Lib.hid hn
  have HW := Lib.hid hw
  have HST := Lib.hid hst
  obtain ⟨q0, q1, q2, q3, q4, q5⟩ := hrow
  clear hst hb hn hw
  go_enter Try.func3, Try.ntmps3
  go_wp2_with fail
  refine (s_put (m := (kd, sq, fr, tg, rp, us)) HST.out.us HN.out HW.out).mono ?_
  rintro e w2 ⟨hc2, hor⟩
  clear q0 q1 q2 q3 q4 q5
  rcases hor with ⟨hr, rfl⟩ | ⟨hr, A, bn, bc, rfl, hbn, hbc, hC⟩
  · have HR := Lib.hid hr
    have hca := (Chg.refl nob w2).alloc (.cells #[.int .u8 0, .slice none 0 0] 28)
    have HP : Hid (PtSt w (kd, sq, fr, tg, rp, us) (fun b => b < w.heap.size) B n d w2.heap.size 0 none 0 0 [] (w2.alloc (.cells #[.int .u8 0, .slice none 0 0] 28))) := ⟨HST.out.new (hc2.thenNew hca), heap_alloc_new w2 _, Kd.C_nil _ _ _ _⟩
    clear hr hc2 hca
    go_wp2
    refine wp_region_quiet (C := PtSt w (kd, sq, fr, tg, rp, us) (fun b => b < w.heap.size) B n d w2.heap.size 0 none 0 0 []) (by kernel_rfl) (by kernel_rfl) (HP.out.new ((Chg.refl _ _).drew)) ?_
    refine quiet_one rfl (.agg (msV (kd, sq, fr, tg, rp, us) B n d)) (fun wx hx => ?_) ?_
    · obtain ⟨q0, q1, q2, q3, q4, q5⟩ := row6c hx.ms.row
      go_simp
    refine quiet_one rfl (.bool false) (fun wx hx => ?_) ?_
    · go_simp
      refine (s_right (m := (kd, sq, fr, tg, rp, us)) hx.ms.us HN.out).mono ?_
      rintro e w' ⟨rfl, hc⟩
      exact ⟨by rw [HR.out], hx.new hc⟩
    refine quiet_one rfl (.agg (msV (kd, sq, fr, tg, rp, us) B n d)) (fun wx hx => ?_) ?_
    · obtain ⟨q0, q1, q2, q3, q4, q5⟩ := row6c hx.ms.row
      go_simp
    refine quiet_one rfl (.bool false) (fun wx hx => ?_) ?_
    · go_simp
      refine (r_rightM (m := (kd, sq, fr, tg, rp, us)) hx.ms.us HN.out).mono ?_
      rintro e w' ⟨rfl, hc⟩
      exact ⟨by rw [HR.out], hx.new hc⟩
    refine quiet_one rfl (.bool false) (fun wx hx => ?_) ?_
    · go_simp
    refine wpQuiet_nil ?_
    intro w4 hw4
    have HQ := Lib.hid hw4
    clear hw4
    try simp only [Act.put, List.setIfInBounds_toArray, List.set_cons_zero, List.set_cons_succ]
    obtain ⟨q0, q1, q2, q3, q4, q5⟩ := row6c HQ.out.ms.row
    go_wp2_with fail
    refine (r_rightM (m := (kd, sq, fr, tg, rp, us)) HQ.out.ms.us HN.out).mono ?_
    rintro e w5 ⟨rfl, hc5⟩
    rw [HR.out]
    have HQ5 := Lib.hid (HQ.out.new hc5)
    clear hc5 q0 q1 q2 q3 q4 q5
    obtain ⟨r0, r1⟩ := row2s HQ5.out.fr
    go_wp2_with fail
    refine (speech_works _).mono ?_
    rintro e w9 ⟨rfl, hc9⟩
    have hfin := (HQ5.out.new hc9).ms.chg
    clear hc9
    go_wp2
    go_ret
    exact ⟨rfl, hfin⟩
  · have HR := Lib.hid hr
    obtain ⟨⟨k1, k6⟩, _⟩ := rightM_parts hr
    dsimp only at k1 k6
    have hca := (Chg.refl nob w2).alloc (.cells #[.int .u8 kd, .slice A bn bc] 28)
    have HP : Hid (PtSt w (kd, sq, fr, tg, rp, us) (fun b => b < w.heap.size) B n d w2.heap.size kd A bn bc (bodyL (kd, sq, fr, tg, rp, us)) (w2.alloc (.cells #[.int .u8 kd, .slice A bn bc] 28))) := ⟨HST.out.new (hc2.thenNew hca), heap_alloc_new w2 _, Kd.C_mono (Kd.C_new hC hca) (fun _ _ => trivial)⟩
    have HBN := Lib.hid hbn
    clear hr hc2 hca hC hbn
    go_wp2
    refine wp_region_quiet (C := PtSt w (kd, sq, fr, tg, rp, us) (fun b => b < w.heap.size) B n d w2.heap.size kd A bn bc (bodyL (kd, sq, fr, tg, rp, us))) (by kernel_rfl) (by kernel_rfl) (HP.out.new ((Chg.refl _ _).drew)) ?_
    refine quiet_one rfl (.agg (msV (kd, sq, fr, tg, rp, us) B n d)) (fun wx hx => ?_) ?_
    · obtain ⟨q0, q1, q2, q3, q4, q5⟩ := row6c hx.ms.row
      go_simp
    refine quiet_one rfl (.bool true) (fun wx hx => ?_) ?_
    · go_simp
      refine (s_right (m := (kd, sq, fr, tg, rp, us)) hx.ms.us HN.out).mono ?_
      rintro e w' ⟨rfl, hc⟩
      exact ⟨by rw [HR.out], hx.new hc⟩
    refine quiet_one rfl (.agg (msV (kd, sq, fr, tg, rp, us) B n d)) (fun wx hx => ?_) ?_
    · obtain ⟨q0, q1, q2, q3, q4, q5⟩ := row6c hx.ms.row
      go_simp
    refine quiet_one rfl (.bool true) (fun wx hx => ?_) ?_
    · go_simp
      refine (r_rightM (m := (kd, sq, fr, tg, rp, us)) hx.ms.us HN.out).mono ?_
      rintro e w' ⟨rfl, hc⟩
      exact ⟨by rw [HR.out], hx.new hc⟩
    refine quiet_one rfl (.bool false) (fun wx hx => ?_) ?_
    · go_simp
    refine wpQuiet_nil ?_
    intro w4 hw4
    have HQ := Lib.hid hw4
    clear hw4
    try simp only [Act.put, List.setIfInBounds_toArray, List.set_cons_zero, List.set_cons_succ]
    obtain ⟨q0, q1, q2, q3, q4, q5⟩ := row6c HQ.out.ms.row
    go_wp2_with fail
    refine (r_rightM (m := (kd, sq, fr, tg, rp, us)) HQ.out.ms.us HN.out).mono ?_
    rintro e w5 ⟨rfl, hc5⟩
    rw [HR.out]
    have HQ5 := Lib.hid (HQ.out.new hc5)
    have HWK : Hid (IntKind.i64.wrap kd = kd) := IntWalk.i64_in _ (by omega)
    clear hc5 q0 q1 q2 q3 q4 q5
    go_wp2
    refine wp_region_held_drew (S := fun wx => PtSt w (kd, sq, fr, tg, rp, us) (fun b => b < w.heap.size) B n d w2.heap.size kd A bn bc (bodyL (kd, sq, fr, tg, rp, us)) wx) (by kernel_rfl) (HQ5.out.new ((Chg.refl _ _).drew)) (fun hHeld => ?_)
    refine wpAnyH_take (i := 0) (v := ?_) pick0 (by kernel_rfl) (by kernel_rfl) (by kernel_rfl) (fun _ _ _ h => h) (Or.inl ⟨by rfl, ?_⟩) (by assumption) ?_
    rotate_left 1
    · (intro wx hSw; go_simp; try with_reducible rfl)
    try simp only [Act.put, List.setIfInBounds_toArray, List.set_cons_zero, List.set_cons_succ]
    refine wpAnyH_take (i := 1) (v := ?_) (pickS pick0) (by kernel_rfl) (by kernel_rfl) (by kernel_rfl) (fun _ _ _ h => h) (Or.inl ⟨by rfl, ?_⟩) (by assumption) ?_
    rotate_left 1
    · (intro wx hSw; go_simp; try with_reducible rfl)
    try simp only [Act.put, List.setIfInBounds_toArray, List.set_cons_zero, List.set_cons_succ]
    refine wpAnyH_take (i := 2) (v := ?_) (pickS (pickS pick0)) (by kernel_rfl) (by kernel_rfl) (by kernel_rfl) (fun _ _ _ h => h) (Or.inl ⟨by rfl, ?_⟩) (by assumption) ?_
    rotate_left 1
    · (intro wx hSw; go_simp; try with_reducible rfl)
    try simp only [Act.put, List.setIfInBounds_toArray, List.set_cons_zero, List.set_cons_succ]
    refine wpAnyH_take (i := 3) (v := ?_) (pickS (pickS (pickS pick0))) (by kernel_rfl) (by kernel_rfl) (by kernel_rfl) (fun _ _ _ h => h) (Or.inl ⟨by rfl, ?_⟩) (by assumption) ?_
    rotate_left 1
    · (intro wx hSw; go_simp; try with_reducible rfl)
    try simp only [Act.put, List.setIfInBounds_toArray, List.set_cons_zero, List.set_cons_succ]
    refine wpAnyH_take (i := 4) (v := ?_) (pickS (pickS (pickS (pickS pick0)))) (by kernel_rfl) (by kernel_rfl) (by kernel_rfl) (fun _ _ _ h => h) (Or.inl ⟨by rfl, ?_⟩) (by assumption) ?_
    rotate_left 1
    · (intro wx hSw; obtain ⟨r0, r1⟩ := row2s hSw.fr; go_simp; try with_reducible rfl)
    try simp only [Act.put, List.setIfInBounds_toArray, List.set_cons_zero, List.set_cons_succ]
    refine wpAnyH_take (i := 5) (v := ?_) (pickS (pickS (pickS (pickS (pickS pick0))))) (by kernel_rfl) (by kernel_rfl) (by kernel_rfl) (fun _ _ _ h => h) (Or.inl ⟨by rfl, ?_⟩) (by assumption) ?_
    rotate_left 1
    · (intro wx hSw; have wk := HWK.out; go_simp; try with_reducible rfl)
    try simp only [Act.put, List.setIfInBounds_toArray, List.set_cons_zero, List.set_cons_succ]
    refine wpAnyH_take (i := 6) (v := ?_) (pickS (pickS (pickS (pickS (pickS (pickS pick0)))))) (by kernel_rfl) (by kernel_rfl) (by kernel_rfl) (fun _ _ _ h => h) (Or.inl ⟨by rfl, ?_⟩) (by assumption) ?_
    rotate_left 1
    · (intro wx hSw; go_simp; try with_reducible rfl)
    try simp only [Act.put, List.setIfInBounds_toArray, List.set_cons_zero, List.set_cons_succ]
    refine wpAnyH_take (i := 7) (v := ?_) (pickS (pickS (pickS (pickS (pickS (pickS (pickS pick0))))))) (by kernel_rfl) (by kernel_rfl) (by kernel_rfl) (fun _ _ _ h => h) (Or.inl ⟨by rfl, ?_⟩) (by assumption) ?_
    rotate_left 1
    · (intro wx hSw; obtain ⟨q0, q1, q2, q3, q4, q5⟩ := row6c hSw.ms.row; go_simp; try with_reducible rfl)
    try simp only [Act.put, List.setIfInBounds_toArray, List.set_cons_zero, List.set_cons_succ]
    refine wpAnyH_take (i := 8) (v := ?_) (pickS (pickS (pickS (pickS (pickS (pickS (pickS (pickS pick0)))))))) (by kernel_rfl) (by kernel_rfl) (by kernel_rfl) (fun _ _ _ h => h) (Or.inl ⟨by rfl, ?_⟩) (by assumption) ?_
    rotate_left 1
    · (intro wx hSw; go_simp; try with_reducible rfl)
    try simp only [Act.put, List.setIfInBounds_toArray, List.set_cons_zero, List.set_cons_succ]
    refine wpAnyH_take (i := 9) (v := ?_) (pickS (pickS (pickS (pickS (pickS (pickS (pickS (pickS (pickS pick0))))))))) (by kernel_rfl) (by kernel_rfl) (by kernel_rfl) (fun _ _ _ h => h) (Or.inl ⟨by rfl, ?_⟩) (by assumption) ?_
    rotate_left 1
    · (intro wx hSw; go_simp; try with_reducible rfl)
    try simp only [Act.put, List.setIfInBounds_toArray, List.set_cons_zero, List.set_cons_succ]
    refine wpAnyH_take (i := 10) (v := ?_) (pickS (pickS (pickS (pickS (pickS (pickS (pickS (pickS (pickS (pickS pick0)))))))))) (by kernel_rfl) (by kernel_rfl) (by kernel_rfl) (fun _ _ _ h => h) (Or.inl ⟨by rfl, ?_⟩) (by assumption) ?_
    rotate_left 1
    · (intro wx hSw; go_simp; try with_reducible rfl)
    try simp only [Act.put, List.setIfInBounds_toArray, List.set_cons_zero, List.set_cons_succ]
    refine wpAnyH_take (i := 11) (v := ?_) (pickS (pickS (pickS (pickS (pickS (pickS (pickS (pickS (pickS (pickS (pickS pick0))))))))))) (by kernel_rfl) (by kernel_rfl) (by kernel_rfl) (fun _ _ _ h => h) (Or.inl ⟨by rfl, ?_⟩) (by assumption) ?_
    rotate_left 1
    · (intro wx hSw; go_simp; try with_reducible rfl)
    try simp only [Act.put, List.setIfInBounds_toArray, List.set_cons_zero, List.set_cons_succ]
    refine wpAnyH_take (i := 12) (v := ?_) (pickS (pickS (pickS (pickS (pickS (pickS (pickS (pickS (pickS (pickS (pickS (pickS pick0)))))))))))) (by kernel_rfl) (by kernel_rfl) (by kernel_rfl) (fun _ _ _ h => h) (Or.inl ⟨by rfl, ?_⟩) (by assumption) ?_
    rotate_left 1
    · (intro wx hSw; obtain ⟨r0, r1⟩ := row2s hSw.fr; go_simp; try with_reducible rfl)
    try simp only [Act.put, List.setIfInBounds_toArray, List.set_cons_zero, List.set_cons_succ]
    refine wpAnyH_take (i := 13) (v := ?_) (pickS (pickS (pickS (pickS (pickS (pickS (pickS (pickS (pickS (pickS (pickS (pickS (pickS pick0))))))))))))) (by kernel_rfl) (by kernel_rfl) (by kernel_rfl) (fun _ _ _ h => h) (Or.inl ⟨by rfl, ?_⟩) (by assumption) ?_
    rotate_left 1
    · (intro wx hSw; have hcv := conv_any hSw.body HBN.out; go_simp; try with_reducible rfl)
    try simp only [Act.put, List.setIfInBounds_toArray, List.set_cons_zero, List.set_cons_succ]
    refine wpAnyH_take (i := 14) (v := ?_) (pickS (pickS (pickS (pickS (pickS (pickS (pickS (pickS (pickS (pickS (pickS (pickS (pickS (pickS pick0)))))))))))))) (by kernel_rfl) (by kernel_rfl) (by kernel_rfl) (fun _ _ _ h => h) (Or.inl ⟨by rfl, ?_⟩) (by assumption) ?_
    rotate_left 1
    · (intro wx hSw; obtain ⟨q0, q1, q2, q3, q4, q5⟩ := row6c hSw.ms.row; go_simp; try with_reducible rfl)
    try simp only [Act.put, List.setIfInBounds_toArray, List.set_cons_zero, List.set_cons_succ]
    refine wpAnyH_ready (rs := [15]) (by kernel_rfl) (by simp) ?_
    refine AllReadyH.cons (pickS (pickS (pickS (pickS (pickS (pickS (pickS (pickS (pickS (pickS (pickS (pickS (pickS (pickS (pickS pick0))))))))))))))) (fun K hK => ?_) AllReadyH.nil
    go_simp
    refine (r_body (m := (kd, sq, fr, tg, rp, us)) hHeld.ms.us (fun b hb => Nat.lt_of_lt_of_le hb hHeld.ms.chg.size) HN.out HR.out HW.out).mono ?_
    intro e w6 hL6
    obtain ⟨A6, c6, rfl, hL6'⟩ := laid_slice hL6
    have HN6 := Lib.hid (hHeld.new (laid_C hL6').2.2.2.2)
    have hcv := conv_any (laid_C hL6').1 HBN.out c6
    rw [HBN.out]
    clear hL6 hL6' hHeld
    go_wp2_with fail
    refine hK.out _ _ (HN6.out) (fun hHeld => ?_)
    clear hK K
    try simp only [Act.put, List.setIfInBounds_toArray, List.set_cons_zero, List.set_cons_succ]
    refine wpAnyH_ready (rs := [16]) (by kernel_rfl) (by simp) ?_
    refine AllReadyH.cons (pickS (pickS (pickS (pickS (pickS (pickS (pickS (pickS (pickS (pickS (pickS (pickS (pickS (pickS (pickS (pickS pick0)))))))))))))))) (fun K hK => ?_) AllReadyH.nil
    go_simp
    refine hK.out _ _ (HN6.out) (fun hHeld => ?_)
    clear hK K
    try simp only [Act.put, List.setIfInBounds_toArray, List.set_cons_zero, List.set_cons_succ]
    refine wpAnyH_take (i := 17) (v := ?_) (pickS (pickS (pickS (pickS (pickS (pickS (pickS (pickS (pickS (pickS (pickS (pickS (pickS (pickS (pickS (pickS (pickS pick0))))))))))))))))) (by kernel_rfl) (by kernel_rfl) (by kernel_rfl) (fun _ _ _ h => h) (Or.inl ⟨by rfl, ?_⟩) (by assumption) ?_
    rotate_left 1
    · (intro wx hSw; go_simp; try with_reducible rfl)
    try simp only [Act.put, List.setIfInBounds_toArray, List.set_cons_zero, List.set_cons_succ]
    refine wpAnyH_take (i := 18) (v := ?_) (pickS (pickS (pickS (pickS (pickS (pickS (pickS (pickS (pickS (pickS (pickS (pickS (pickS (pickS (pickS (pickS (pickS (pickS pick0)))))))))))))))))) (by kernel_rfl) (by kernel_rfl) (by kernel_rfl) (fun _ _ _ h => h) (Or.inl ⟨by rfl, ?_⟩) (by assumption) ?_
    rotate_left 1
    · (intro wx hSw; go_simp; try with_reducible rfl)
    try simp only [Act.put, List.setIfInBounds_toArray, List.set_cons_zero, List.set_cons_succ]
    refine wpAnyH_take (i := 19) (v := ?_) (pickS (pickS (pickS (pickS (pickS (pickS (pickS (pickS (pickS (pickS (pickS (pickS (pickS (pickS (pickS (pickS (pickS (pickS (pickS pick0))))))))))))))))))) (by kernel_rfl) (by kernel_rfl) (by kernel_rfl) (fun _ _ _ h => h) (Or.inl ⟨by rfl, ?_⟩) (by assumption) ?_
    rotate_left 1
    · (intro wx hSw; go_simp; try with_reducible rfl)
    try simp only [Act.put, List.setIfInBounds_toArray, List.set_cons_zero, List.set_cons_succ]
    refine wpAnyH_ready (rs := [20]) (by kernel_rfl) (by simp) ?_
    refine AllReadyH.cons (pickS (pickS (pickS (pickS (pickS (pickS (pickS (pickS (pickS (pickS (pickS (pickS (pickS (pickS (pickS (pickS (pickS (pickS (pickS (pickS pick0)))))))))))))))))))) (fun K hK => ?_) AllReadyH.nil
    go_simp
    refine (speech_works _).mono ?_
    rintro e w7 ⟨rfl, hc7⟩
    have HN7 := Lib.hid (HN6.out.new hc7)
    clear hc7 hHeld hcv
    go_wp2_with fail
    refine hK.out _ _ (HN7.out) (fun hHeld => ?_)
    clear hK K
    try simp only [Act.put, List.setIfInBounds_toArray, List.set_cons_zero, List.set_cons_succ]
    refine wpAnyH_take (i := 21) (v := ?_) (pickS (pickS (pickS (pickS (pickS (pickS (pickS (pickS (pickS (pickS (pickS (pickS (pickS (pickS (pickS (pickS (pickS (pickS (pickS (pickS (pickS pick0))))))))))))))))))))) (by kernel_rfl) (by kernel_rfl) (by kernel_rfl) (fun _ _ _ h => h) (Or.inl ⟨by rfl, ?_⟩) (by assumption) ?_
    rotate_left 1
    · (intro wx hSw; go_simp; try with_reducible rfl)
    try simp only [Act.put, List.setIfInBounds_toArray, List.set_cons_zero, List.set_cons_succ]
    refine wpAnyH_take (i := 22) (v := ?_) (pickS (pickS (pickS (pickS (pickS (pickS (pickS (pickS (pickS (pickS (pickS (pickS (pickS (pickS (pickS (pickS (pickS (pickS (pickS (pickS (pickS (pickS pick0)))))))))))))))))))))) (by kernel_rfl) (by kernel_rfl) (by kernel_rfl) (fun _ _ _ h => h) (Or.inl ⟨by rfl, ?_⟩) (by assumption) ?_
    rotate_left 1
    · (intro wx hSw; go_simp; try with_reducible rfl)
    try simp only [Act.put, List.setIfInBounds_toArray, List.set_cons_zero, List.set_cons_succ]
    refine wpAnyH_done (by kernel_rfl) ?_ _
    go_wp2
    go_ret
    exact ⟨rfl, HN7.out.ms.chg⟩
end Go.Proofs.Ytmahjeafoogamaa
