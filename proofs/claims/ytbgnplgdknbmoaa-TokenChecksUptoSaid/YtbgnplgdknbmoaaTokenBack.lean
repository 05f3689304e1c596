/- Tokens: the walks of TokenBack and TokenIssues. -/
import Derived.Test.YtbgnplgdknbmoaaTokenLaws
namespace Go.Proofs.Ytbgnplgdknbmoaa
open Go.RowKit
set_option linter.unusedVariables false
set_option linter.unusedSimpArgs false
theorem tokOk_parts {s : ByteArray} {nd : Int} (hok : tokOk s nd = true) : s.size ≤ 24 ∧ 0 ≤ nd ∧ nd ≤ 7 := by
  unfold tokOk nameB at hok
  rw [Bool.and_eq_true, Bool.and_eq_true, decide_eq_true_iff, decide_eq_true_iff, strL_len] at hok
  exact ⟨hok.1.1.2.1, hok.2.1, hok.2.2⟩
set_option maxRecDepth 100000 in
set_option maxHeartbeats 4000000 in
theorem tokenBack_walk {w : World} {k0 k1 : Nat} (h0 : k0 < 18446744073709551616) (h1 : k1 < 18446744073709551616) (s : ByteArray) (hs : s.size ≤ 9223372036854775807) (nd : Int) (inc idx : Nat) (h3 : inc < 4294967296) (h4 : idx < 18446744073709551616) :
    Calls Try.prog 6 #[.agg #[.int .u64 k0, .int .u64 k1], .agg #[.string s, .int .i64 nd, .int .u32 inc, .int .u64 idx]] w fun e w' => e = .returned (.bool true) ∧ Chg nob w w' := by
  have hc1 : Chg nob w ((w.alloc (.cells #[.int .u64 k0, .int .u64 k1] 23)).alloc (.cells #[.string s, .int .i64 nd, .int .u32 inc, .int .u64 idx] 26)) := ((Chg.refl _ _).alloc _).alloc _
  by_cases hok : tokOk s nd = true
  · obtain ⟨hs2, g1, g2⟩ := tokOk_parts hok
    obtain ⟨nd, rfl⟩ := Int.eq_ofNat_of_zero_le g1
    have hst := iss_start (w := w) 23 26 k0 k1 s nd inc idx
    obtain ⟨⟨d0, d1⟩, d2, d3, d4, d5⟩ := hst.c
    have HST := Lib.hid hst
    have HOK := Lib.hid hok
    have HR : Hid (chkR k0 k1 (sealed k0 k1 (tokB s nd inc idx)) = ((s, nd, inc, idx), 0)) := chkR_sealed hok h3 h4
    obtain ⟨q, hq⟩ : ∃ q, (tokB s nd inc idx).length = q := ⟨_, rfl⟩
    have HQ := Lib.hid hq
    have hq60 : q ≤ 60 := by rw [← hq]; exact (tok_len hs2 (by omega) (by omega) h4).2.2.2
    clear hst hok hq hc1
    go_enter Try.func6, Try.ntmps6
    go_wp2_with fail
    refine (t_issue h0 h1 s nd inc idx HOK.out h3 h4 HQ.out).mono ?_
    rintro e w2 ⟨A2, c2, rfl, ⟨hl2, hmc2, hC2⟩, hc2⟩
    have HK2 := Lib.hid (HST.out.new hc2)
    have HB := Lib.hid (Kd.C_mono (Kd.C_bound hC2) (fun b hb => hb.2))
    clear hC2 hc2 HST d0 d1 d2 d3 d4 d5
    obtain ⟨⟨d0, d1⟩, d2, d3, d4, d5⟩ := HK2.out.c
    go_wp2_with fail
    refine (c_check h0 h1 HB.out hl2.out hmc2 (by omega)).mono ?_
    rintro e w3 ⟨rfl, hc3⟩
    rw [HR.out]
    have hK4 := (HK2.out.new hc3).new ((Chg.refl nob w3).alloc (.cells (tokV (s, nd, inc, idx)) 26))
    have HA : Hid ((w3.alloc (.cells (tokV (s, nd, inc, idx)) 26)).heap[w3.heap.size]? = some (.cells (tokV (s, nd, inc, idx)) 26 (0, 0))) := heap_alloc_new _ _
    have HK4 := Lib.hid hK4
    clear hc3 hK4 d0 d1 d2 d3 d4 d5
    unfold tokV at HA HK4 ⊢
    simp only at HA HK4 ⊢
    obtain ⟨⟨d0, d1⟩, d2, d3, d4, d5⟩ := HK4.out.c
    obtain ⟨a0, a1, a2, a3⟩ := t_cells HA.out
    go_wp2_with fail
    refine (tok_works _).mono ?_
    rintro e w9 ⟨rfl, hc9⟩
    have hfin := HK4.out.chg.thenNew hc9
    clear hc9
    go_wp2
    go_ret
    exact ⟨rfl, hfin⟩
  · have HOK : Hid (tokOk s nd = false) := by show _ = _; simpa using hok
    clear hok
    go_enter Try.func6, Try.ntmps6
    go_wp2_with fail
    refine (t_refused s hs nd inc idx HOK.out).mono ?_
    rintro e w2 ⟨rfl, hc2⟩
    have hc3 := hc1.thenNew hc2
    clear hc1 hc2
    go_wp2_with fail
    refine (tok_works _).mono ?_
    rintro e w9 ⟨rfl, hc9⟩
    have hfin := hc3.thenNew hc9
    clear hc9
    go_wp2
    go_ret
    exact ⟨rfl, hfin⟩
/-- The key and the token, of any kind. -/
structure TkSt (w0 : World) (n k0 k1 : Nat) (s : ByteArray) (nd : Int) (inc idx : Nat) (w : World) : Prop where
  c : (w.cell? ⟨n, 0, none⟩ = some (.int .u64 k0) ∧ w.cell? ⟨n, 1, none⟩ = some (.int .u64 k1)) ∧ (w.cell? ⟨n + 1, 0, none⟩ = some (.string s) ∧ w.cell? ⟨n + 1, 1, none⟩ = some (.int .i64 nd) ∧ w.cell? ⟨n + 1, 2, none⟩ = some (.int .u32 inc) ∧ w.cell? ⟨n + 1, 3, none⟩ = some (.int .u64 idx))
  chg : Chg nob w0 w
theorem TkSt.new {w0 w w' : World} {n k0 k1 : Nat} {s : ByteArray} {nd : Int} {inc idx : Nat} (h : TkSt w0 n k0 k1 s nd inc idx w) (hc : Chg nob w w') : TkSt w0 n k0 k1 s nd inc idx w' := by
  obtain ⟨⟨⟨a0, a1⟩, b0, b1, b2, b3⟩, h2⟩ := h
  exact ⟨⟨⟨hc.cell a0 (not_nob _), hc.cell a1 (not_nob _)⟩, hc.cell b0 (not_nob _), hc.cell b1 (not_nob _), hc.cell b2 (not_nob _), hc.cell b3 (not_nob _)⟩, h2.thenNew hc⟩
theorem tk_start {w : World} (t1 t2 k0 k1 : Nat) (s : ByteArray) (nd : Int) (inc idx : Nat) : TkSt w w.heap.size k0 k1 s nd inc idx ((w.alloc (.cells #[.int .u64 k0, .int .u64 k1] t1)).alloc (.cells #[.string s, .int .i64 nd, .int .u32 inc, .int .u64 idx] t2)) := by
  have h5 := heap_alloc_new w (.cells #[.int .u64 k0, .int .u64 k1] t1)
  have h6 := ((Chg.refl nob (w.alloc (.cells #[.int .u64 k0, .int .u64 k1] t1))).alloc (.cells #[.string s, .int .i64 nd, .int .u32 inc, .int .u64 idx] t2)).heap h5 (not_nob _)
  have h7 := heap_alloc_new (w.alloc (.cells #[.int .u64 k0, .int .u64 k1] t1)) (.cells #[.string s, .int .i64 nd, .int .u32 inc, .int .u64 idx] t2)
  rw [show (w.alloc (.cells #[.int .u64 k0, .int .u64 k1] t1)).heap.size = w.heap.size + 1 from by simp] at h7
  exact ⟨⟨⟨by rw [cell_of_row _ _ 0 _ _ _ h6]; rfl, by rw [cell_of_row _ _ 1 _ _ _ h6]; rfl⟩, t_cells h7⟩, ((Chg.refl _ _).alloc _).alloc _⟩
/-- The same, and bytes of the call's own. -/
structure TkB (w0 : World) (n k0 k1 : Nat) (s : ByteArray) (nd : Int) (inc idx : Nat) (A : Option Addr) (L : List UInt8) (w : World) : Prop where
  t : TkSt w0 n k0 k1 s nd inc idx w
  b : Kd.byte.C w (fun b => w0.heap.size ≤ b) A L
theorem TkB.new {w0 w w' : World} {n k0 k1 : Nat} {s : ByteArray} {nd : Int} {inc idx : Nat} {A : Option Addr} {L : List UInt8} (h : TkB w0 n k0 k1 s nd inc idx A L w) (hc : Chg nob w w') : TkB w0 n k0 k1 s nd inc idx A L w' := ⟨h.t.new hc, Kd.C_new h.b hc⟩
theorem TkB.c {w0 w : World} {n k0 k1 : Nat} {s : ByteArray} {nd : Int} {inc idx : Nat} {A : Option Addr} {L : List UInt8} (h : TkB w0 n k0 k1 s nd inc idx A L w) : (w.cell? ⟨n, 0, none⟩ = some (.int .u64 k0) ∧ w.cell? ⟨n, 1, none⟩ = some (.int .u64 k1)) ∧ (w.cell? ⟨n + 1, 0, none⟩ = some (.string s) ∧ w.cell? ⟨n + 1, 1, none⟩ = some (.int .i64 nd) ∧ w.cell? ⟨n + 1, 2, none⟩ = some (.int .u32 inc) ∧ w.cell? ⟨n + 1, 3, none⟩ = some (.int .u64 idx)) := h.t.c
section
variable {w0 w : World} {n k0 k1 : Nat} {s : ByteArray} {nd : Int} {inc idx : Nat} {A : Option Addr} {L : List UInt8}
theorem tk_right (h : TkB w0 n k0 k1 s nd inc idx A L w) (hs : s.size ≤ 9223372036854775807) {q : Bool} (hq : Hid (tokOk s nd = q)) : Calls Try.prog 8 #[.agg #[.string s, .int .i64 nd, .int .u32 inc, .int .u64 idx]] w fun e w' => e = .returned (.bool q) ∧ TkB w0 n k0 k1 s nd inc idx A L w' :=
  (t_right s hs nd inc idx).mono fun e w' ⟨he, hc⟩ => ⟨by rw [← hq.out]; exact he, h.new hc⟩
theorem tk_rright (h : TkB w0 n k0 k1 s nd inc idx A L w) (hs : s.size ≤ 9223372036854775807) {q : Bool} (hq : Hid (tokOk s nd = q)) : Calls Try.prog 9 #[.agg #[.string s, .int .i64 nd, .int .u32 inc, .int .u64 idx]] w fun e w' => e = .returned (.bool q) ∧ TkB w0 n k0 k1 s nd inc idx A L w' :=
  (tr_right s hs nd inc idx).mono fun e w' ⟨he, hc⟩ => ⟨by rw [← hq.out]; exact he, h.new hc⟩
theorem tk_bytes (h : TkB w0 n k0 k1 s (nd : Int) inc idx A L w) (h0 : k0 < 18446744073709551616) (h1 : k1 < 18446744073709551616) (hs : s.size ≤ 24) {ndn : Nat} (hn : nd = (ndn : Int)) (n1 : ndn < 18446744073709551616) (n2 : inc < 18446744073709551616) (n3 : idx < 18446744073709551616) {m : Nat} (hm : Hid ((tokB s ndn inc idx).length = m)) :
    Calls Try.prog 11 #[.agg #[.int .u64 k0, .int .u64 k1], .agg #[.string s, .int .i64 nd, .int .u32 inc, .int .u64 idx]] w fun e w' => ∃ A' c, e = .returned (.slice A' (m + 8) c) ∧ Got w w' A' (m + 8) c (sealed k0 k1 (tokB s ndn inc idx)) ∧ TkB w0 n k0 k1 s nd inc idx A L w' := by
  subst hn
  exact (tr_bytes h0 h1 s ndn inc idx hs n1 n2 n3 hm.out).mono fun e w' ⟨A', c, he, hG, hc⟩ => ⟨A', c, he, hG, h.new hc⟩
end
set_option maxRecDepth 100000 in
set_option maxHeartbeats 4000000 in
theorem tokenIssues_walk {w : World} {k0 k1 : Nat} (h0 : k0 < 18446744073709551616) (h1 : k1 < 18446744073709551616) (s : ByteArray) (hs : s.size ≤ 9223372036854775807) (nd : Int) (inc idx : Nat) (h3 : inc < 4294967296) (h4 : idx < 18446744073709551616) :
    Calls Try.prog 3 #[.agg #[.int .u64 k0, .int .u64 k1], .agg #[.string s, .int .i64 nd, .int .u32 inc, .int .u64 idx]] w fun e w' => e = .returned (.bool true) ∧ Chg nob w w' := by
  have hst := tk_start (w := w) 23 26 k0 k1 s nd inc idx
  obtain ⟨⟨d0, d1⟩, d2, d3, d4, d5⟩ := hst.c
  have HST := Lib.hid hst
  clear hst
  by_cases hok : tokOk s nd = true
  · obtain ⟨hs2, g1, g2⟩ := tokOk_parts hok
    obtain ⟨nd, rfl⟩ := Int.eq_ofNat_of_zero_le g1
    have HOK := Lib.hid hok
    obtain ⟨q, hq⟩ : ∃ q, (tokB s nd inc idx).length = q := ⟨_, rfl⟩
    have HQ := Lib.hid hq
    have gn : nd < 18446744073709551616 := by omega
    have gi : inc < 18446744073709551616 := by omega
    clear hok hq
    go_enter Try.func3, Try.ntmps3
    go_wp2_with fail
    refine (t_issue h0 h1 s nd inc idx HOK.out h3 h4 HQ.out).mono ?_
    rintro e w2 ⟨A2, c2, rfl, ⟨hl2, hmc2, hC2⟩, hc2⟩
    have hst2 : TkB w w.heap.size k0 k1 s (nd : Int) inc idx A2 (sealed k0 k1 (tokB s nd inc idx)) w2 := ⟨HST.out.new hc2, Kd.C_mono hC2 (fun b hb => Nat.le_trans HST.out.chg.size hb)⟩
    have hst3 := hst2.new ((Chg.refl _ _).drew)
    clear hC2 hc2 HST d0 d1 d2 d3 d4 d5
    go_wp2
    go_region_held3 (fun w' => (w'.cell? ⟨w.heap.size, 0, none⟩ = some (.int .u64 k0) ∧ w'.cell? ⟨w.heap.size, 1, none⟩ = some (.int .u64 k1)) ∧ (w'.cell? ⟨w.heap.size + 1, 0, none⟩ = some (.string s) ∧ w'.cell? ⟨w.heap.size + 1, 1, none⟩ = some (.int .i64 nd) ∧ w'.cell? ⟨w.heap.size + 1, 2, none⟩ = some (.int .u32 inc) ∧ w'.cell? ⟨w.heap.size + 1, 3, none⟩ = some (.int .u64 idx))) (exact TkB.c (by assumption))
      (first | (go_at_call 8; with_reducible refine (tk_right (by assumption) hs HOK).mono ?_; rintro e w' ⟨rfl, hqa⟩) | (go_at_call 9; with_reducible refine (tk_rright (by assumption) hs HOK).mono ?_; rintro e w' ⟨rfl, hqa⟩))
    all_goals
      have HQA := Lib.hid hqa
      clear hst2 hst3
      obtain ⟨⟨d0, d1⟩, d2, d3, d4, d5⟩ := hqa.c
      clear hqa
      go_wp2_with fail
      refine (tk_rright HQA.out hs HOK).mono ?_
      rintro e w4 ⟨rfl, hq4⟩
      have HQ4 := Lib.hid hq4
      clear hq4 d0 d1 d2 d3 d4 d5
      go_wp2_with fail
      refine wp_region_held_drew (S := fun wx => TkB w w.heap.size k0 k1 s (nd : Int) inc idx A2 (sealed k0 k1 (tokB s nd inc idx)) wx) (by kernel_rfl) (HQ4.out.new ((Chg.refl _ _).drew)) (fun hHeld => ?_)
      refine wpAnyH_take (i := 0) (v := ?_) pick0 (by kernel_rfl) (by kernel_rfl) (by kernel_rfl) (fun _ _ _ h => h) (Or.inl ⟨by rfl, ?_⟩) (by assumption) ?_
      rotate_left 1
      · (intro wx hSw; go_simp; try with_reducible rfl)
      try simp only [Act.put, List.setIfInBounds_toArray, List.set_cons_zero, List.set_cons_succ]
      refine wpAnyH_take (i := 1) (v := ?_) (pickS pick0) (by kernel_rfl) (by kernel_rfl) (by kernel_rfl) (fun _ _ _ h => h) (Or.inl ⟨by rfl, ?_⟩) (by assumption) ?_
      rotate_left 1
      · (intro wx hSw; go_simp; try with_reducible rfl)
      try simp only [Act.put, List.setIfInBounds_toArray, List.set_cons_zero, List.set_cons_succ]
      refine wpAnyH_take (i := 2) (v := ?_) (pickS (pickS pick0)) (by kernel_rfl) (by kernel_rfl) (by kernel_rfl) (fun _ _ _ h => h) (Or.inl ⟨by rfl, ?_⟩) (by assumption) ?_
      rotate_left 1
      · (intro wx hSw; go_simp; try with_reducible rfl)
      try simp only [Act.put, List.setIfInBounds_toArray, List.set_cons_zero, List.set_cons_succ]
      refine wpAnyH_take (i := 3) (v := ?_) (pickS (pickS (pickS pick0))) (by kernel_rfl) (by kernel_rfl) (by kernel_rfl) (fun _ _ _ h => h) (Or.inl ⟨by rfl, ?_⟩) (by assumption) ?_
      rotate_left 1
      · (intro wx hSw; go_simp; try with_reducible rfl)
      try simp only [Act.put, List.setIfInBounds_toArray, List.set_cons_zero, List.set_cons_succ]
      refine wpAnyH_take (i := 4) (v := ?_) (pickS (pickS (pickS (pickS pick0)))) (by kernel_rfl) (by kernel_rfl) (by kernel_rfl) (fun _ _ _ h => h) (Or.inl ⟨by rfl, ?_⟩) (by assumption) ?_
      rotate_left 1
      · (intro wx hSw; have hcv := fun cx => run_conv (P := Try.prog) (src := 27) (dst := 9) (e := 5) (c := cx) hSw.b hl2.out (by kernel_rfl) (by kernel_rfl) (by kernel_rfl); go_simp; try with_reducible rfl)
      try simp only [Act.put, List.setIfInBounds_toArray, List.set_cons_zero, List.set_cons_succ]
      refine wpAnyH_take (i := 5) (v := ?_) (pickS (pickS (pickS (pickS (pickS pick0))))) (by kernel_rfl) (by kernel_rfl) (by kernel_rfl) (fun _ _ _ h => h) (Or.inl ⟨by rfl, ?_⟩) (by assumption) ?_
      rotate_left 1
      · (intro wx hSw; obtain ⟨⟨d0, d1⟩, d2, d3, d4, d5⟩ := hSw.t.c; go_simp; try with_reducible rfl)
      try simp only [Act.put, List.setIfInBounds_toArray, List.set_cons_zero, List.set_cons_succ]
      refine wpAnyH_take (i := 6) (v := ?_) (pickS (pickS (pickS (pickS (pickS (pickS pick0)))))) (by kernel_rfl) (by kernel_rfl) (by kernel_rfl) (fun _ _ _ h => h) (Or.inl ⟨by rfl, ?_⟩) (by assumption) ?_
      rotate_left 1
      · (intro wx hSw; obtain ⟨⟨d0, d1⟩, d2, d3, d4, d5⟩ := hSw.t.c; go_simp; try with_reducible rfl)
      try simp only [Act.put, List.setIfInBounds_toArray, List.set_cons_zero, List.set_cons_succ]
      refine wpAnyH_ready (rs := [7]) (by kernel_rfl) (by simp) ?_
      refine AllReadyH.cons (pickS (pickS (pickS (pickS (pickS (pickS (pickS pick0))))))) (fun K hK => ?_) AllReadyH.nil
      go_simp
      with_reducible refine (tk_bytes hHeld h0 h1 hs2 rfl gn gi h4 HQ).mono ?_
      rintro e w5 ⟨A5, c5, rfl, ⟨hl5, hmc5, hC5⟩, hq5⟩
      have HN5 := Lib.hid hq5
      have hcv := fun cx => run_conv (P := Try.prog) (src := 27) (dst := 9) (e := 5) (c := cx) hC5 hl5.out (by kernel_rfl) (by kernel_rfl) (by kernel_rfl)
      clear hC5 hl5 hmc5 hHeld hq5
      go_wp2_with fail
      refine hK.out _ _ (HN5.out) (fun hHeld => ?_)
      clear hK K
      try simp only [Act.put, List.setIfInBounds_toArray, List.set_cons_zero, List.set_cons_succ]
      refine wpAnyH_ready (rs := [8]) (by kernel_rfl) (by simp) ?_
      refine AllReadyH.cons (pickS (pickS (pickS (pickS (pickS (pickS (pickS (pickS pick0)))))))) (fun K hK => ?_) AllReadyH.nil
      go_simp
      refine hK.out _ _ (HN5.out) (fun hHeld => ?_)
      clear hK K
      try simp only [Act.put, List.setIfInBounds_toArray, List.set_cons_zero, List.set_cons_succ]
      refine wpAnyH_take (i := 9) (v := ?_) (pickS (pickS (pickS (pickS (pickS (pickS (pickS (pickS (pickS pick0))))))))) (by kernel_rfl) (by kernel_rfl) (by kernel_rfl) (fun _ _ _ h => h) (Or.inl ⟨by rfl, ?_⟩) (by assumption) ?_
      rotate_left 1
      · (intro wx hSw; go_simp; try with_reducible rfl)
      try simp only [Act.put, List.setIfInBounds_toArray, List.set_cons_zero, List.set_cons_succ]
      refine wpAnyH_take (i := 10) (v := ?_) (pickS (pickS (pickS (pickS (pickS (pickS (pickS (pickS (pickS (pickS pick0)))))))))) (by kernel_rfl) (by kernel_rfl) (by kernel_rfl) (fun _ _ _ h => h) (Or.inl ⟨by rfl, ?_⟩) (by assumption) ?_
      rotate_left 1
      · (intro wx hSw; go_simp; try with_reducible rfl)
      try simp only [Act.put, List.setIfInBounds_toArray, List.set_cons_zero, List.set_cons_succ]
      refine wpAnyH_take (i := 11) (v := ?_) (pickS (pickS (pickS (pickS (pickS (pickS (pickS (pickS (pickS (pickS (pickS pick0))))))))))) (by kernel_rfl) (by kernel_rfl) (by kernel_rfl) (fun _ _ _ h => h) (Or.inl ⟨by rfl, ?_⟩) (by assumption) ?_
      rotate_left 1
      · (intro wx hSw; go_simp; try with_reducible rfl)
      try simp only [Act.put, List.setIfInBounds_toArray, List.set_cons_zero, List.set_cons_succ]
      refine wpAnyH_ready (rs := [12]) (by kernel_rfl) (by simp) ?_
      refine AllReadyH.cons (pickS (pickS (pickS (pickS (pickS (pickS (pickS (pickS (pickS (pickS (pickS (pickS pick0)))))))))))) (fun K hK => ?_) AllReadyH.nil
      go_simp
      refine (tok_works _).mono ?_
      rintro e w6 ⟨rfl, hc6⟩
      have HN6 := Lib.hid (HN5.out.new hc6)
      clear hc6 hHeld hcv
      go_wp2_with fail
      refine hK.out _ _ (HN6.out) (fun hHeld => ?_)
      clear hK K
      try simp only [Act.put, List.setIfInBounds_toArray, List.set_cons_zero, List.set_cons_succ]
      refine wpAnyH_take (i := 13) (v := ?_) (pickS (pickS (pickS (pickS (pickS (pickS (pickS (pickS (pickS (pickS (pickS (pickS (pickS pick0))))))))))))) (by kernel_rfl) (by kernel_rfl) (by kernel_rfl) (fun _ _ _ h => h) (Or.inl ⟨by rfl, ?_⟩) (by assumption) ?_
      rotate_left 1
      · (intro wx hSw; go_simp; try with_reducible rfl)
      try simp only [Act.put, List.setIfInBounds_toArray, List.set_cons_zero, List.set_cons_succ]
      refine wpAnyH_take (i := 14) (v := ?_) (pickS (pickS (pickS (pickS (pickS (pickS (pickS (pickS (pickS (pickS (pickS (pickS (pickS (pickS pick0)))))))))))))) (by kernel_rfl) (by kernel_rfl) (by kernel_rfl) (fun _ _ _ h => h) (Or.inl ⟨by rfl, ?_⟩) (by assumption) ?_
      rotate_left 1
      · (intro wx hSw; go_simp; try with_reducible rfl)
      try simp only [Act.put, List.setIfInBounds_toArray, List.set_cons_zero, List.set_cons_succ]
      refine wpAnyH_done (by kernel_rfl) ?_ _
      go_wp2
      go_ret
      exact ⟨rfl, HN6.out.t.chg⟩
  · have HOK : Hid (tokOk s nd = false) := by show _ = _; simpa using hok
    clear hok
    go_enter Try.func3, Try.ntmps3
    go_wp2_with fail
    refine (t_refused s hs nd inc idx HOK.out).mono ?_
    rintro e w2 ⟨rfl, hc2⟩
    have hst2 : TkB w w.heap.size k0 k1 s nd inc idx none [] w2 := ⟨HST.out.new hc2, Kd.C_nil _ _ _ _⟩
    have hst3 := hst2.new ((Chg.refl _ _).drew)
    clear hc2 HST d0 d1 d2 d3 d4 d5
    go_wp2
    go_region_held3 (fun w' => (w'.cell? ⟨w.heap.size, 0, none⟩ = some (.int .u64 k0) ∧ w'.cell? ⟨w.heap.size, 1, none⟩ = some (.int .u64 k1)) ∧ (w'.cell? ⟨w.heap.size + 1, 0, none⟩ = some (.string s) ∧ w'.cell? ⟨w.heap.size + 1, 1, none⟩ = some (.int .i64 nd) ∧ w'.cell? ⟨w.heap.size + 1, 2, none⟩ = some (.int .u32 inc) ∧ w'.cell? ⟨w.heap.size + 1, 3, none⟩ = some (.int .u64 idx))) (exact TkB.c (by assumption))
      (first | (go_at_call 8; with_reducible refine (tk_right (by assumption) hs HOK).mono ?_; rintro e w' ⟨rfl, hqa⟩) | (go_at_call 9; with_reducible refine (tk_rright (by assumption) hs HOK).mono ?_; rintro e w' ⟨rfl, hqa⟩))
    all_goals
      have HQA := Lib.hid hqa
      clear hst2 hst3
      obtain ⟨⟨d0, d1⟩, d2, d3, d4, d5⟩ := hqa.c
      clear hqa
      go_wp2_with fail
      refine (tk_rright HQA.out hs HOK).mono ?_
      rintro e w4 ⟨rfl, hq4⟩
      have HQ4 := Lib.hid hq4
      clear hq4 d0 d1 d2 d3 d4 d5
      go_wp2_with fail
      refine (tok_works _).mono ?_
      rintro e w6 ⟨rfl, hc6⟩
      have hfin := HQ4.out.t.chg.thenNew hc6
      clear hc6
      go_wp2
      go_ret
      exact ⟨rfl, hfin⟩
end Go.Proofs.Ytbgnplgdknbmoaa
