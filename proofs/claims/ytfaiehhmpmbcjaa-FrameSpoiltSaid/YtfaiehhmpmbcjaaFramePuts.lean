/- Frames: the walk of FramePuts. -/
import Derived.Test.YtfaiehhmpmbcjaaFrameWorks
namespace Go.Proofs.Ytfaiehhmpmbcjaa
open Go.RowKit
set_option linter.unusedVariables false
set_option linter.unusedSimpArgs false
theorem sizeF_of (n : Int) : sizeF n = if 0 ≤ n ∧ n ≤ 1000 then n + 7 else 0 := rfl
set_option maxRecDepth 100000 in
set_option maxHeartbeats 4000000 in
theorem framePuts_walk {w : World} {A B : Option Addr} {n c m d : Nat} {bs body : List UInt8} {k : UInt8} (ha : Kd.byte.C w (fun b => b < w.heap.size) A bs) (hb : Kd.byte.C w (fun b => b < w.heap.size) B body) (hn : bs.length = n) (hm : body.length = m) (hmd : m ≤ d) (hl : n ≤ 900000000) (q : Int) (hq0 : -9223372036854775808 ≤ q) (hq1 : q ≤ 9223372036854775807) :
    Calls Try.prog 5 #[.slice A n c, .agg #[.int .u8 k.toNat, .slice B m d], .int .i64 q] w fun e w' => e = .returned (.bool true) ∧ Chg nob w w' := by
  have hsm := hb.small
  rw [hm] at hsm
  have hst := put_start (k := k) (m := m) (d := d) 24 ha hb
  obtain ⟨c0, c1⟩ := hst.c
  have HST := Lib.hid hst
  have HN := Lib.hid hn
  have HM := Lib.hid hm
  obtain ⟨S, hS⟩ : ∃ S, sizeF q = S := ⟨_, rfl⟩
  have HS := Lib.hid hS
  clear hst ha hb hn hm hS
  have HSQ : Hid (S = if 0 ≤ q ∧ q ≤ 1000 then q + 7 else 0) := by show _ = _; rw [← HS.out]; rfl
  have hcases : (0 ≤ q ∧ q ≤ 1000 ∧ S = q + 7) ∨ (q < 0 ∧ S = 0) ∨ (1000 < q ∧ 0 ≤ q ∧ S = 0) := by
    have := HSQ.out
    split at this <;> omega
  clear HSQ
  by_cases he : errF (k, body) = 0
  · have HE := Lib.hid he
    have hm1000 : m ≤ 1000 := by
      rw [errF] at he
      split at he
      · cases he
      · split at he
        · cases he
        · rename_i h; rw [HM.out] at h; omega
    clear he
    go_enter Try.func5, Try.ntmps5
    go_wp2_with fail
    refine (f_put HST.out.a HST.out.b HN.out HM.out hmd (by omega)).mono ?_
    rintro e w2 ⟨hc2, ⟨hn, _⟩ | ⟨_, A2, c2, rfl, hl2, hm2, hC2⟩⟩
    · exact absurd HE.out hn
    have HP2 := Lib.hid (HST.out.new hc2)
    have HC2 := Lib.hid (Kd.C_mono hC2 (ok' := fun b => w.heap.size ≤ b) (fun b hb => Nat.le_trans HST.out.chg.size hb))
    have HL2 := Lib.hid hl2
    have HSTR : Hid ((strOf (bs ++ frameB (k, body))) = strOf bs ++ strOf (frameB (k, body))) := strOf_append _ _
    have HSZ : Hid (¬ 9223372036854775807 < (strOf bs).size + (strOf (frameB (k, body))).size) := by
      show ¬ _
      rw [strOf_size, strOf_size, frameB_len, HN.out, HM.out]
      omega
    clear hc2 hC2 hl2 c0 c1
    obtain ⟨c0, c1⟩ := HP2.out.c
    rcases hcases with ⟨g1, g2, rfl⟩ | ⟨g1, rfl⟩ | ⟨g1, g2, rfl⟩
    all_goals
      go_wp2_with fail
      refine (f_size q hq0 hq1).mono ?_
      rintro e w3 ⟨rfl, rfl⟩
      rw [HS.out]
      go_wp2_with fail
      refine (fr_error k HM.out hsm).mono ?_
      rintro e w4 ⟨rfl, hc4⟩
      rw [HE.out]
      have HP4 := Lib.hid (HP2.out.new hc4)
      have HC4 := Lib.hid (Kd.C_new HC2.out hc4)
      clear hc4 c0 c1
      go_wp2_with fail
      refine wp_region_held_drew (S := fun wx => PutSt w w.heap.size (fun b => b < w.heap.size) (fun b => b < w.heap.size) A bs k B m d body wx ∧ Kd.byte.C wx (fun b => w.heap.size ≤ b) A2 (bs ++ frameB (k, body))) (by kernel_rfl) (⟨HP4.out.new ((Chg.refl _ _).drew), Kd.C_new HC4.out ((Chg.refl _ _).drew)⟩) (fun hHeld => ?_)
      refine wpAnyH_take (i := 0) (v := ?_) pick0 (by kernel_rfl) (by kernel_rfl) (by kernel_rfl) (fun _ _ _ h => h) (Or.inl ⟨by rfl, ?_⟩) (by assumption) ?_
      rotate_left 1
      · (intro wx hSw; go_simp; try with_reducible rfl)
      try simp only [Act.put, List.setIfInBounds_toArray, List.set_cons_zero, List.set_cons_succ]
      refine wpAnyH_take (i := 1) (v := ?_) (pickS pick0) (by kernel_rfl) (by kernel_rfl) (by kernel_rfl) (fun _ _ _ h => h) (Or.inl ⟨by rfl, ?_⟩) (by assumption) ?_
      rotate_left 1
      · (intro wx hSw; go_simp; try with_reducible rfl)
      try simp only [Act.put, List.setIfInBounds_toArray, List.set_cons_zero, List.set_cons_succ]
      refine wpAnyH_take (i := 2) (v := ?_) (pickS (pickS pick0)) (by kernel_rfl) (by kernel_rfl) (by kernel_rfl) (fun _ _ _ h => h) (Or.inl ⟨by rfl, ?_⟩) (by assumption) ?_
      rotate_left 1
      · (intro wx hSw; go_simp; try with_reducible rfl)
      try simp only [Act.put, List.setIfInBounds_toArray, List.set_cons_zero, List.set_cons_succ]
      refine wpAnyH_take (i := 3) (v := ?_) (pickS (pickS (pickS pick0))) (by kernel_rfl) (by kernel_rfl) (by kernel_rfl) (fun _ _ _ h => h) (Or.inl ⟨by rfl, ?_⟩) (by assumption) ?_
      rotate_left 1
      · (intro wx hSw; go_simp; try with_reducible rfl)
      try simp only [Act.put, List.setIfInBounds_toArray, List.set_cons_zero, List.set_cons_succ]
      refine wpAnyH_take (i := 4) (v := ?_) (pickS (pickS (pickS (pickS pick0)))) (by kernel_rfl) (by kernel_rfl) (by kernel_rfl) (fun _ _ _ h => h) (Or.inl ⟨by rfl, ?_⟩) (by assumption) ?_
      rotate_left 1
      · (intro wx hSw; have hcv := conv_any hSw.2 HL2.out; rw [HSTR.out] at hcv; go_simp; try with_reducible rfl)
      try simp only [Act.put, List.setIfInBounds_toArray, List.set_cons_zero, List.set_cons_succ]
      refine wpAnyH_take (i := 5) (v := ?_) (pickS (pickS (pickS (pickS (pickS pick0))))) (by kernel_rfl) (by kernel_rfl) (by kernel_rfl) (fun _ _ _ h => h) (Or.inl ⟨by rfl, ?_⟩) (by assumption) ?_
      rotate_left 1
      · (intro wx hSw; go_simp; try with_reducible rfl)
      try simp only [Act.put, List.setIfInBounds_toArray, List.set_cons_zero, List.set_cons_succ]
      refine wpAnyH_take (i := 6) (v := ?_) (pickS (pickS (pickS (pickS (pickS (pickS pick0)))))) (by kernel_rfl) (by kernel_rfl) (by kernel_rfl) (fun _ _ _ h => h) (Or.inl ⟨by rfl, ?_⟩) (by assumption) ?_
      rotate_left 1
      · (intro wx hSw; have hcv := conv_any hSw.1.a HN.out; go_simp; try with_reducible rfl)
      try simp only [Act.put, List.setIfInBounds_toArray, List.set_cons_zero, List.set_cons_succ]
      refine wpAnyH_take (i := 7) (v := ?_) (pickS (pickS (pickS (pickS (pickS (pickS (pickS pick0))))))) (by kernel_rfl) (by kernel_rfl) (by kernel_rfl) (fun _ _ _ h => h) (Or.inl ⟨by rfl, ?_⟩) (by assumption) ?_
      rotate_left 1
      · (intro wx hSw; obtain ⟨d0, d1⟩ := hSw.1.c; go_simp; try with_reducible rfl)
      try simp only [Act.put, List.setIfInBounds_toArray, List.set_cons_zero, List.set_cons_succ]
      refine wpAnyH_ready (rs := [8]) (by kernel_rfl) (by simp) ?_
      refine AllReadyH.cons (pickS (pickS (pickS (pickS (pickS (pickS (pickS (pickS pick0)))))))) (fun K hK => ?_) AllReadyH.nil
      go_simp
      refine (fr_bytes k hHeld.1.b HM.out hm1000).mono ?_
      rintro e w5 ⟨A5, c5, rfl, hl5, hm5, hC5, hc5⟩
      have HN5 : Hid (PutSt w w.heap.size (fun b => b < w.heap.size) (fun b => b < w.heap.size) A bs k B m d body w5 ∧ Kd.byte.C w5 (fun b => w.heap.size ≤ b) A2 (bs ++ frameB (k, body))) := ⟨hHeld.1.new hc5, Kd.C_new hHeld.2 hc5⟩
      have hcv := conv_any hC5 hl5
      clear hC5 hc5 hl5 hm5 hHeld
      go_wp2_with fail
      refine hK.out _ _ (HN5.out) (fun hHeld => ?_)
      clear hK K
      try simp only [Act.put, List.setIfInBounds_toArray, List.set_cons_zero, List.set_cons_succ]
      refine wpAnyH_ready (rs := [9]) (by kernel_rfl) (by simp) ?_
      refine AllReadyH.cons (pickS (pickS (pickS (pickS (pickS (pickS (pickS (pickS (pickS pick0))))))))) (fun K hK => ?_) AllReadyH.nil
      go_simp
      refine hK.out _ _ (HN5.out) (fun hHeld => ?_)
      clear hK K
      try simp only [Act.put, List.setIfInBounds_toArray, List.set_cons_zero, List.set_cons_succ]
      refine wpAnyH_take (i := 10) (v := ?_) (pickS (pickS (pickS (pickS (pickS (pickS (pickS (pickS (pickS (pickS pick0)))))))))) (by kernel_rfl) (by kernel_rfl) (by kernel_rfl) (fun _ _ _ h => h) (Or.inl ⟨by rfl, ?_⟩) (by assumption) ?_
      rotate_left 1
      · (intro wx hSw; have hz := HSZ.out; go_simp; try with_reducible rfl)
      try simp only [Act.put, List.setIfInBounds_toArray, List.set_cons_zero, List.set_cons_succ]
      refine wpAnyH_take (i := 11) (v := ?_) (pickS (pickS (pickS (pickS (pickS (pickS (pickS (pickS (pickS (pickS (pickS pick0))))))))))) (by kernel_rfl) (by kernel_rfl) (by kernel_rfl) (fun _ _ _ h => h) (Or.inl ⟨by rfl, ?_⟩) (by assumption) ?_
      rotate_left 1
      · (intro wx hSw; go_simp; try with_reducible rfl)
      try simp only [Act.put, List.setIfInBounds_toArray, List.set_cons_zero, List.set_cons_succ]
      refine wpAnyH_take (i := 12) (v := ?_) (pickS (pickS (pickS (pickS (pickS (pickS (pickS (pickS (pickS (pickS (pickS (pickS pick0)))))))))))) (by kernel_rfl) (by kernel_rfl) (by kernel_rfl) (fun _ _ _ h => h) (Or.inl ⟨by rfl, ?_⟩) (by assumption) ?_
      rotate_left 1
      · (intro wx hSw; go_simp; try with_reducible rfl)
      try simp only [Act.put, List.setIfInBounds_toArray, List.set_cons_zero, List.set_cons_succ]
      refine wpAnyH_take (i := 13) (v := ?_) (pickS (pickS (pickS (pickS (pickS (pickS (pickS (pickS (pickS (pickS (pickS (pickS (pickS pick0))))))))))))) (by kernel_rfl) (by kernel_rfl) (by kernel_rfl) (fun _ _ _ h => h) (Or.inl ⟨by rfl, ?_⟩) (by assumption) ?_
      rotate_left 1
      · (intro wx hSw; go_simp; try with_reducible rfl)
      try simp only [Act.put, List.setIfInBounds_toArray, List.set_cons_zero, List.set_cons_succ]
      refine wpAnyH_ready (rs := [14]) (by kernel_rfl) (by simp) ?_
      refine AllReadyH.cons (pickS (pickS (pickS (pickS (pickS (pickS (pickS (pickS (pickS (pickS (pickS (pickS (pickS (pickS pick0)))))))))))))) (fun K hK => ?_) AllReadyH.nil
      go_simp
      refine (frame_works _).mono ?_
      rintro e w6 ⟨rfl, hc6⟩
      have HN6 : Hid (PutSt w w.heap.size (fun b => b < w.heap.size) (fun b => b < w.heap.size) A bs k B m d body w6 ∧ Kd.byte.C w6 (fun b => w.heap.size ≤ b) A2 (bs ++ frameB (k, body))) := ⟨HN5.out.1.new hc6, Kd.C_new HN5.out.2 hc6⟩
      clear hc6 hHeld hcv
      go_wp2_with fail
      refine hK.out _ _ (HN6.out) (fun hHeld => ?_)
      clear hK K
      try simp only [Act.put, List.setIfInBounds_toArray, List.set_cons_zero, List.set_cons_succ]
      refine wpAnyH_take (i := 15) (v := ?_) (pickS (pickS (pickS (pickS (pickS (pickS (pickS (pickS (pickS (pickS (pickS (pickS (pickS (pickS (pickS pick0))))))))))))))) (by kernel_rfl) (by kernel_rfl) (by kernel_rfl) (fun _ _ _ h => h) (Or.inl ⟨by rfl, ?_⟩) (by assumption) ?_
      rotate_left 1
      · (intro wx hSw; go_simp; try with_reducible rfl)
      try simp only [Act.put, List.setIfInBounds_toArray, List.set_cons_zero, List.set_cons_succ]
      refine wpAnyH_take (i := 16) (v := ?_) (pickS (pickS (pickS (pickS (pickS (pickS (pickS (pickS (pickS (pickS (pickS (pickS (pickS (pickS (pickS (pickS pick0)))))))))))))))) (by kernel_rfl) (by kernel_rfl) (by kernel_rfl) (fun _ _ _ h => h) (Or.inl ⟨by rfl, ?_⟩) (by assumption) ?_
      rotate_left 1
      · (intro wx hSw; go_simp; try with_reducible rfl)
      try simp only [Act.put, List.setIfInBounds_toArray, List.set_cons_zero, List.set_cons_succ]
      refine wpAnyH_done (by kernel_rfl) ?_ _
      go_wp2
      go_ret
      exact ⟨rfl, HN6.out.1.chg⟩
  · have HE := Lib.hid he
    obtain ⟨E, hE⟩ : ∃ E, errF (k, body) = E := ⟨_, rfl⟩
    have hEn : ((E : Int) == 0) = false := by have : E ≠ 0 := by rw [← hE]; exact he
                                              simp; omega
    have HEE := Lib.hid hE
    clear he hE
    go_enter Try.func5, Try.ntmps5
    go_wp2_with fail
    refine (f_put HST.out.a HST.out.b HN.out HM.out hmd (by omega)).mono ?_
    rintro e w2 ⟨hc2, ⟨_, rfl⟩ | ⟨hn, _⟩⟩
    · rw [HEE.out]
      have HP2 := Lib.hid (HST.out.new hc2)
      clear hc2 c0 c1
      obtain ⟨c0, c1⟩ := HP2.out.c
      rcases hcases with ⟨g1, g2, rfl⟩ | ⟨g1, rfl⟩ | ⟨g1, g2, rfl⟩
      all_goals
        go_wp2_with fail
        refine (f_size q hq0 hq1).mono ?_
        rintro e w3 ⟨rfl, rfl⟩
        rw [HS.out]
        go_wp2_with fail
        refine (fr_error k HM.out hsm).mono ?_
        rintro e w4 ⟨rfl, hc4⟩
        rw [HEE.out]
        have HP4 := Lib.hid (HP2.out.new hc4)
        clear hc4 c0 c1
        go_wp2_with fail
        refine (frame_works _).mono ?_
        rintro e w6 ⟨rfl, hc6⟩
        have hfin := HP4.out.chg.thenNew hc6
        clear hc6
        go_wp2
        go_ret
        exact ⟨rfl, hfin⟩
    · exact absurd hn HE.out
end Go.Proofs.Ytfaiehhmpmbcjaa
