/- The law SealTakes: the walk. -/
import Derived.Test.YtpfibgfajobmaaaSealTake
import Derived.Test.YtpfibgfajobmaaaSealPutRef
namespace Go.Proofs.Ytpfibgfajobmaaa
open Go.RowKit
set_option linter.unusedVariables false
set_option linter.unusedSimpArgs false
theorem s_small {w : World} {k0 k1 : Nat} {A : Option Addr} {m c : Nat} (hm : m < 8) :
    Calls Try.prog 13 #[.agg #[.int .u64 k0, .int .u64 k1], .slice A m c] w fun e w' => e = .returned (.tuple #[.slice none 0 0, .bool false]) ∧ Chg nob w w' := by
  have hc0 : Chg nob w (w.alloc (.cells #[.int .u64 k0, .int .u64 k1] 41)) := (Chg.refl _ _).alloc _
  have b1 : decide ((m : Int) - 8 < 0) = true := by simp; omega
  have b2 : (m : Int) - 8 < 0 := by omega
  have b3 : (m : Int) < 8 := by omega
  go_enter Try.func13, Try.ntmps13
  go_wp2
  go_quiet (fail)
  go_wp2
  go_ret2
  exact ⟨rfl, hc0.drewN _⟩
set_option maxRecDepth 100000 in
set_option maxHeartbeats 4000000 in
theorem sealTakes_walk {w : World} {k0 k1 : Nat} (h0 : k0 < 18446744073709551616) (h1 : k1 < 18446744073709551616) {A : Option Addr} {m c : Nat} {bs : List UInt8} (hb : Kd.byte.C w (fun b => b < w.heap.size) A bs) (hm : bs.length = m) (hmc : m ≤ c) (hl : m ≤ 900000000) :
    Calls Try.prog 5 #[.agg #[.int .u64 k0, .int .u64 k1], .slice A m c] w fun e w' => e = .returned (.bool true) ∧ Chg nob w w' := by
  have hl0 : m ≤ 1000000000 := by omega
  have hl8 : m + 8 ≤ 1000000000 := by omega
  have hst := key_start 27 k0 k1 hb
  have HM := Lib.hid hm
  have HPL : Hid ((sealed k0 k1 bs).length = m + 8) := by show _ = _; rw [sealed, List.length_append, beB_len, hm]
  clear hb hm hl
  obtain ⟨d0, d1⟩ := hst.c
  have HST := Lib.hid hst
  clear hst
  go_enter Try.func5, Try.ntmps5
  go_wp2_with fail
  refine (s_put h0 h1 HST.out.b HST.out.lt HM.out hmc hl0).mono ?_
  rintro e w2 ⟨A1, c1, rfl, _, hmc1, hC1, hc2⟩
  have hst2 := HST.out.new hc2
  have HP := Lib.hid (Kd.C_mono hC1 (fun b hb => Nat.le_trans HST.out.chg.size hb))
  clear hC1 hc2 d0 d1
  go_wp2
  refine wp_region_held_drew (S := fun wx => KeySt w w.heap.size k0 k1 A bs wx ∧ Kd.byte.C wx (fun b => w.heap.size ≤ b) A1 (sealed k0 k1 bs)) (by kernel_rfl) (⟨hst2.new ((Chg.refl _ _).drew), Kd.C_new HP.out ((Chg.refl _ _).drew)⟩) (fun hHeld => ?_)
  refine wpAnyH_take (i := 0) (v := ?_) pick0 (by kernel_rfl) (by kernel_rfl) (by kernel_rfl) (fun _ _ _ h => h) (Or.inl ⟨by rfl, ?_⟩) (by assumption) ?_
  rotate_left 1
  · (intro wx hSw; go_simp; try with_reducible rfl)
  try simp only [Act.put, List.setIfInBounds_toArray, List.set_cons_zero, List.set_cons_succ]
  refine wpAnyH_take (i := 1) (v := ?_) (pickS pick0) (by kernel_rfl) (by kernel_rfl) (by kernel_rfl) (fun _ _ _ h => h) (Or.inl ⟨by rfl, ?_⟩) (by assumption) ?_
  rotate_left 1
  · (intro wx hSw; have hcv := fun cx => run_conv (P := Try.prog) (src := 28) (dst := 9) (e := 5) (c := cx) hSw.2 HPL.out (by kernel_rfl) (by kernel_rfl) (by kernel_rfl); go_simp; try with_reducible rfl)
  try simp only [Act.put, List.setIfInBounds_toArray, List.set_cons_zero, List.set_cons_succ]
  refine wpAnyH_take (i := 2) (v := ?_) (pickS (pickS pick0)) (by kernel_rfl) (by kernel_rfl) (by kernel_rfl) (fun _ _ _ h => h) (Or.inl ⟨by rfl, ?_⟩) (by assumption) ?_
  rotate_left 1
  · (intro wx hSw; go_simp; try with_reducible rfl)
  try simp only [Act.put, List.setIfInBounds_toArray, List.set_cons_zero, List.set_cons_succ]
  refine wpAnyH_take (i := 3) (v := ?_) (pickS (pickS (pickS pick0))) (by kernel_rfl) (by kernel_rfl) (by kernel_rfl) (fun _ _ _ h => h) (Or.inl ⟨by rfl, ?_⟩) (by assumption) ?_
  rotate_left 1
  · (intro wx hSw; obtain ⟨⟨⟨q0, q1⟩, _, _⟩, _⟩ := hSw; go_simp; try with_reducible rfl)
  try simp only [Act.put, List.setIfInBounds_toArray, List.set_cons_zero, List.set_cons_succ]
  refine wpAnyH_take (i := 4) (v := ?_) (pickS (pickS (pickS (pickS pick0)))) (by kernel_rfl) (by kernel_rfl) (by kernel_rfl) (fun _ _ _ h => h) (Or.inl ⟨by rfl, ?_⟩) (by assumption) ?_
  rotate_left 1
  · (intro wx hSw; go_simp; try with_reducible rfl)
  try simp only [Act.put, List.setIfInBounds_toArray, List.set_cons_zero, List.set_cons_succ]
  refine wpAnyH_take (i := 5) (v := ?_) (pickS (pickS (pickS (pickS (pickS pick0))))) (by kernel_rfl) (by kernel_rfl) (by kernel_rfl) (fun _ _ _ h => h) (Or.inl ⟨by rfl, ?_⟩) (by assumption) ?_
  rotate_left 1
  · (intro wx hSw; obtain ⟨⟨⟨q0, q1⟩, _, _⟩, _⟩ := hSw; go_simp; try with_reducible rfl)
  try simp only [Act.put, List.setIfInBounds_toArray, List.set_cons_zero, List.set_cons_succ]
  refine wpAnyH_take (i := 6) (v := ?_) (pickS (pickS (pickS (pickS (pickS (pickS pick0)))))) (by kernel_rfl) (by kernel_rfl) (by kernel_rfl) (fun _ _ _ h => h) (Or.inl ⟨by rfl, ?_⟩) (by assumption) ?_
  rotate_left 1
  · (intro wx hSw; go_simp; try with_reducible rfl)
  try simp only [Act.put, List.setIfInBounds_toArray, List.set_cons_zero, List.set_cons_succ]
  refine wpAnyH_ready (rs := [7]) (by kernel_rfl) (by simp) ?_
  refine AllReadyH.cons (pickS (pickS (pickS (pickS (pickS (pickS (pickS pick0))))))) (fun K hK => ?_) AllReadyH.nil
  go_simp
  refine (r_put h0 h1 hHeld.1.b hHeld.1.lt HM.out hl0).mono ?_
  rintro e w4 ⟨A4, c4, rfl, hl4, hmc4, hC4, hc4⟩
  have HN4 : Hid (KeySt w w.heap.size k0 k1 A bs w4 ∧ Kd.byte.C w4 (fun b => w.heap.size ≤ b) A1 (sealed k0 k1 bs)) := ⟨hHeld.1.new hc4, Kd.C_new hHeld.2 hc4⟩
  have hcv := fun cx => run_conv (P := Try.prog) (src := 28) (dst := 9) (e := 5) (c := cx) hC4 hl4 (by kernel_rfl) (by kernel_rfl) (by kernel_rfl)
  clear hC4 hc4 hl4 hmc4 hHeld
  go_wp2_with fail
  refine hK.out _ _ (HN4.out) (fun hHeld => ?_)
  clear hK K
  try simp only [Act.put, List.setIfInBounds_toArray, List.set_cons_zero, List.set_cons_succ]
  refine wpAnyH_ready (rs := [8]) (by kernel_rfl) (by simp) ?_
  refine AllReadyH.cons (pickS (pickS (pickS (pickS (pickS (pickS (pickS (pickS pick0)))))))) (fun K hK => ?_) AllReadyH.nil
  go_simp
  refine hK.out _ _ (HN4.out) (fun hHeld => ?_)
  clear hK K
  try simp only [Act.put, List.setIfInBounds_toArray, List.set_cons_zero, List.set_cons_succ]
  refine wpAnyH_take (i := 9) (v := ?_) (pickS (pickS (pickS (pickS (pickS (pickS (pickS (pickS (pickS pick0))))))))) (by kernel_rfl) (by kernel_rfl) (by kernel_rfl) (fun _ _ _ h => h) (Or.inl ⟨by rfl, ?_⟩) (by assumption) ?_
  rotate_left 1
  · (intro wx hSw; go_simp; try with_reducible rfl)
  try simp only [Act.put, List.setIfInBounds_toArray, List.set_cons_zero, List.set_cons_succ]
  refine wpAnyH_done (by kernel_rfl) ?_ _
  have hk4 := HN4.out.1
  have HC1 : Hid (Kd.byte.C w4 (fun b => b < w4.heap.size) A1 (sealed k0 k1 bs)) := Kd.C_mono (Kd.C_bound HN4.out.2) (fun b hb => hb.2)
  obtain ⟨d0, d1⟩ := hk4.c
  have HK4 := Lib.hid hk4
  have HSD : Hid ((sealed k0 k1 bs).drop m = beB (sumN k0 k1 ((sealed k0 k1 bs).take m)) ∧ (sealed k0 k1 bs).take m = bs) := by
    have h1 : (sealed k0 k1 bs).take m = bs := by rw [sealed, List.take_append_of_le_length (by rw [HM.out]; exact Nat.le_refl _), List.take_of_length_le (by rw [HM.out]; exact Nat.le_refl _)]
    refine ⟨?_, h1⟩
    rw [h1, sealed, List.drop_append_of_le_length (by rw [HM.out]; exact Nat.le_refl _), List.drop_of_length_le (by rw [HM.out]; exact Nat.le_refl _), List.nil_append]
  clear hcv hHeld hk4
  go_wp2_with fail
  refine (s_takes h0 h1 HC1.out HPL.out hmc1 hl8).mono ?_
  rintro e w5 ⟨hc5, ⟨_, A5, c5, rfl, hC5⟩ | ⟨hno, _⟩⟩
  · rw [HSD.out.2] at hC5
    have hk5 := HK4.out.new hc5
    have hcv1 := fun cx => run_conv (P := Try.prog) (src := 28) (dst := 9) (e := 5) (c := cx) hC5 HM.out (by kernel_rfl) (by kernel_rfl) (by kernel_rfl)
    have hcv2 := fun cx => run_conv (P := Try.prog) (src := 28) (dst := 9) (e := 5) (c := cx) hk5.b HM.out (by kernel_rfl) (by kernel_rfl) (by kernel_rfl)
    obtain ⟨d0, d1⟩ := hk5.c
    have HK5 := Lib.hid hk5
    clear hC5 hc5 hk5 HC1 HN4 HSD HK4
    go_wp2_with fail
    by_cases hlt : m < 8
    · have b1 : (m : Int) < 8 := by omega
      refine (s_small hlt).mono ?_
      rintro e w6 ⟨rfl, hc6⟩
      have hk6 := HK5.out.new hc6
      clear hcv1 hcv2 d0 d1 hc6
      go_wp2_with fail
      refine (seal_works _).mono ?_
      rintro e w7 ⟨rfl, hc7⟩
      have hfin := hk6.chg.thenNew hc7
      clear hc7 hk6
      go_wp2
      go_ret
      exact ⟨rfl, hfin⟩
    · have b1 : ¬ (m : Int) < 8 := by omega
      obtain ⟨p, rfl⟩ : ∃ p, m = p + 8 := ⟨m - 8, by omega⟩
      have HC5 : Hid (Kd.byte.C w5 (fun b => b < w5.heap.size) A bs) := Kd.C_mono HK5.out.b HK5.out.lt
      refine (s_takes h0 h1 HC5.out HM.out hmc hl0).mono ?_
      rintro e w6 ⟨hc6, hor⟩
      have HK6 : Hid (KeySt w w.heap.size k0 k1 A bs w6) := HK5.out.new hc6
      have hs56 := HK5.out.chg.size
      have HPB : Hid (p ≤ bs.length) := by show _ ≤ _; rw [HM.out]; omega
      have HTL : Hid ((bs.take p).length = p) := by show _ = _; rw [List.length_take, HM.out]; omega
      have hpl : p ≤ 1000000000 := by omega
      have g1 : (0 : Int) ≤ (p : Int) := by omega
      have g2 : (p : Int) ≤ (c : Int) := by omega
      have g3 : (p : Int) ≤ (p : Int) + 8 := by omega
      clear hcv1 hcv2 d0 d1 HC5 hlt
      rcases hor with ⟨heq, A6, c6, rfl, hC6⟩ | ⟨hneq, rfl⟩
      · have HD6 : Hid (Kd.byte.C w6 (fun b => w.heap.size ≤ b) A6 (bs.take p)) := Kd.C_mono hC6 (fun b hb => Nat.le_trans hs56 hb)
        have HSE : Hid (sealed k0 k1 (bs.take p) = bs) := by show _ = _; rw [sealed, ← heq, List.take_append_drop]
        clear hC6 hc6 heq HK5
        go_wp2
        refine wp_region_held_drew (S := fun wx => KeySt w w.heap.size k0 k1 A bs wx ∧ Kd.byte.C wx (fun b => w.heap.size ≤ b) A6 (bs.take p)) (by kernel_rfl) (⟨HK6.out.new ((Chg.refl _ _).drew), Kd.C_new HD6.out ((Chg.refl _ _).drew)⟩) (fun hHeld => ?_)
        refine wpAnyH_take (i := 0) (v := ?_) pick0 (by kernel_rfl) (by kernel_rfl) (by kernel_rfl) (fun _ _ _ h => h) (Or.inl ⟨by rfl, ?_⟩) (by assumption) ?_
        rotate_left 1
        · (intro wx hSw; go_simp; try with_reducible rfl)
        try simp only [Act.put, List.setIfInBounds_toArray, List.set_cons_zero, List.set_cons_succ]
        refine wpAnyH_take (i := 1) (v := ?_) (pickS pick0) (by kernel_rfl) (by kernel_rfl) (by kernel_rfl) (fun _ _ _ h => h) (Or.inl ⟨by rfl, ?_⟩) (by assumption) ?_
        rotate_left 1
        · (intro wx hSw; obtain ⟨⟨⟨q0, q1⟩, _, _⟩, _⟩ := hSw; go_simp; try with_reducible rfl)
        try simp only [Act.put, List.setIfInBounds_toArray, List.set_cons_zero, List.set_cons_succ]
        refine wpAnyH_take (i := 2) (v := ?_) (pickS (pickS pick0)) (by kernel_rfl) (by kernel_rfl) (by kernel_rfl) (fun _ _ _ h => h) (Or.inl ⟨by rfl, ?_⟩) (by assumption) ?_
        rotate_left 1
        · (intro wx hSw; go_simp; try with_reducible rfl)
        try simp only [Act.put, List.setIfInBounds_toArray, List.set_cons_zero, List.set_cons_succ]
        refine wpAnyH_take (i := 3) (v := ?_) (pickS (pickS (pickS pick0))) (by kernel_rfl) (by kernel_rfl) (by kernel_rfl) (fun _ _ _ h => h) (Or.inl ⟨by rfl, ?_⟩) (by assumption) ?_
        rotate_left 1
        · (intro wx hSw; obtain ⟨⟨⟨q0, q1⟩, _, _⟩, _⟩ := hSw; go_simp; try with_reducible rfl)
        try simp only [Act.put, List.setIfInBounds_toArray, List.set_cons_zero, List.set_cons_succ]
        refine wpAnyH_take (i := 4) (v := ?_) (pickS (pickS (pickS (pickS pick0)))) (by kernel_rfl) (by kernel_rfl) (by kernel_rfl) (fun _ _ _ h => h) (Or.inl ⟨by rfl, ?_⟩) (by assumption) ?_
        rotate_left 1
        · (intro wx hSw; go_simp; try with_reducible rfl)
        try simp only [Act.put, List.setIfInBounds_toArray, List.set_cons_zero, List.set_cons_succ]
        refine wpAnyH_take (i := 5) (v := ?_) (pickS (pickS (pickS (pickS (pickS pick0))))) (by kernel_rfl) (by kernel_rfl) (by kernel_rfl) (fun _ _ _ h => h) (Or.inl ⟨by rfl, ?_⟩) (by assumption) ?_
        rotate_left 1
        · (intro wx hSw; go_simp; try with_reducible rfl)
        try simp only [Act.put, List.setIfInBounds_toArray, List.set_cons_zero, List.set_cons_succ]
        refine wpAnyH_take (i := 6) (v := ?_) (pickS (pickS (pickS (pickS (pickS (pickS pick0)))))) (by kernel_rfl) (by kernel_rfl) (by kernel_rfl) (fun _ _ _ h => h) (Or.inl ⟨by rfl, ?_⟩) (by assumption) ?_
        rotate_left 1
        · (intro wx hSw; go_simp; try with_reducible rfl)
        try simp only [Act.put, List.setIfInBounds_toArray, List.set_cons_zero, List.set_cons_succ]
        refine wpAnyH_take (i := 9) (v := ?_) (pickS (pickS (pickS (pickS (pickS (pickS (pickS (pickS (pickS pick0))))))))) (by kernel_rfl) (by kernel_rfl) (by kernel_rfl) (fun _ _ _ h => h) (Or.inl ⟨by rfl, ?_⟩) (by assumption) ?_
        rotate_left 1
        · (intro wx hSw; go_simp; try with_reducible rfl)
        try simp only [Act.put, List.setIfInBounds_toArray, List.set_cons_zero, List.set_cons_succ]
        refine wpAnyH_take (i := 10) (v := ?_) (pickS (pickS (pickS (pickS (pickS (pickS (pickS (pickS (pickS (pickS pick0)))))))))) (by kernel_rfl) (by kernel_rfl) (by kernel_rfl) (fun _ _ _ h => h) (Or.inl ⟨by rfl, ?_⟩) (by assumption) ?_
        rotate_left 1
        · (intro wx hSw; have hcv := fun cx => run_conv (P := Try.prog) (src := 28) (dst := 9) (e := 5) (c := cx) hSw.1.b HM.out (by kernel_rfl) (by kernel_rfl) (by kernel_rfl); go_simp; try with_reducible rfl)
        try simp only [Act.put, List.setIfInBounds_toArray, List.set_cons_zero, List.set_cons_succ]
        refine wpAnyH_ready (rs := [7]) (by kernel_rfl) (by simp) ?_
        refine AllReadyH.cons (pickS (pickS (pickS (pickS (pickS (pickS (pickS pick0))))))) (fun K hK => ?_) AllReadyH.nil
        go_simp
        refine (r_put h0 h1 (Kd.C_take hHeld.1.b p HPB.out) hHeld.1.lt HTL.out hpl).mono ?_
        rintro e w7 ⟨A7, c7, rfl, hl7, hmc7, hC7, hc7⟩
        have HN7 : Hid (KeySt w w.heap.size k0 k1 A bs w7 ∧ Kd.byte.C w7 (fun b => w.heap.size ≤ b) A6 (bs.take p)) := ⟨hHeld.1.new hc7, Kd.C_new hHeld.2 hc7⟩
        have hcv := fun cx => run_conv (P := Try.prog) (src := 28) (dst := 9) (e := 5) (c := cx) hC7 hl7 (by kernel_rfl) (by kernel_rfl) (by kernel_rfl)
        rw [HSE.out] at hcv; clear hC7 hc7 hl7 hmc7 hHeld
        go_wp2_with fail
        refine hK.out _ _ (HN7.out) (fun hHeld => ?_)
        clear hK K
        try simp only [Act.put, List.setIfInBounds_toArray, List.set_cons_zero, List.set_cons_succ]
        refine wpAnyH_ready (rs := [8]) (by kernel_rfl) (by simp) ?_
        refine AllReadyH.cons (pickS (pickS (pickS (pickS (pickS (pickS (pickS (pickS pick0)))))))) (fun K hK => ?_) AllReadyH.nil
        go_simp
        refine hK.out _ _ (HN7.out) (fun hHeld => ?_)
        clear hK K
        try simp only [Act.put, List.setIfInBounds_toArray, List.set_cons_zero, List.set_cons_succ]
        refine wpAnyH_take (i := 11) (v := ?_) (pickS (pickS (pickS (pickS (pickS (pickS (pickS (pickS (pickS (pickS (pickS pick0))))))))))) (by kernel_rfl) (by kernel_rfl) (by kernel_rfl) (fun _ _ _ h => h) (Or.inl ⟨by rfl, ?_⟩) (by assumption) ?_
        rotate_left 1
        · (intro wx hSw; go_simp; try with_reducible rfl)
        try simp only [Act.put, List.setIfInBounds_toArray, List.set_cons_zero, List.set_cons_succ]
        refine wpAnyH_take (i := 12) (v := ?_) (pickS (pickS (pickS (pickS (pickS (pickS (pickS (pickS (pickS (pickS (pickS (pickS pick0)))))))))))) (by kernel_rfl) (by kernel_rfl) (by kernel_rfl) (fun _ _ _ h => h) (Or.inl ⟨by rfl, ?_⟩) (by assumption) ?_
        rotate_left 1
        · (intro wx hSw; go_simp; try with_reducible rfl)
        try simp only [Act.put, List.setIfInBounds_toArray, List.set_cons_zero, List.set_cons_succ]
        refine wpAnyH_done (by kernel_rfl) ?_ _
        clear hcv
        go_wp2
        refine wp_region_held_drew (S := fun wx => KeySt w w.heap.size k0 k1 A bs wx ∧ Kd.byte.C wx (fun b => w.heap.size ≤ b) A6 (bs.take p)) (by kernel_rfl) (⟨HN7.out.1.new ((Chg.refl _ _).drew), Kd.C_new HN7.out.2 ((Chg.refl _ _).drew)⟩) (fun hHeld => ?_)
        refine wpAnyH_take (i := 0) (v := ?_) pick0 (by kernel_rfl) (by kernel_rfl) (by kernel_rfl) (fun _ _ _ h => h) (Or.inl ⟨by rfl, ?_⟩) (by assumption) ?_
        rotate_left 1
        · (intro wx hSw; go_simp; try with_reducible rfl)
        try simp only [Act.put, List.setIfInBounds_toArray, List.set_cons_zero, List.set_cons_succ]
        refine wpAnyH_take (i := 1) (v := ?_) (pickS pick0) (by kernel_rfl) (by kernel_rfl) (by kernel_rfl) (fun _ _ _ h => h) (Or.inl ⟨by rfl, ?_⟩) (by assumption) ?_
        rotate_left 1
        · (intro wx hSw; go_simp; try with_reducible rfl)
        try simp only [Act.put, List.setIfInBounds_toArray, List.set_cons_zero, List.set_cons_succ]
        refine wpAnyH_take (i := 2) (v := ?_) (pickS (pickS pick0)) (by kernel_rfl) (by kernel_rfl) (by kernel_rfl) (fun _ _ _ h => h) (Or.inl ⟨by rfl, ?_⟩) (by assumption) ?_
        rotate_left 1
        · (intro wx hSw; go_simp; try with_reducible rfl)
        try simp only [Act.put, List.setIfInBounds_toArray, List.set_cons_zero, List.set_cons_succ]
        refine wpAnyH_take (i := 3) (v := ?_) (pickS (pickS (pickS pick0))) (by kernel_rfl) (by kernel_rfl) (by kernel_rfl) (fun _ _ _ h => h) (Or.inl ⟨by rfl, ?_⟩) (by assumption) ?_
        rotate_left 1
        · (intro wx hSw; have hcv := fun cx => run_conv (P := Try.prog) (src := 28) (dst := 9) (e := 5) (c := cx) hSw.2 HTL.out (by kernel_rfl) (by kernel_rfl) (by kernel_rfl); go_simp; try with_reducible rfl)
        try simp only [Act.put, List.setIfInBounds_toArray, List.set_cons_zero, List.set_cons_succ]
        refine wpAnyH_take (i := 4) (v := ?_) (pickS (pickS (pickS (pickS pick0)))) (by kernel_rfl) (by kernel_rfl) (by kernel_rfl) (fun _ _ _ h => h) (Or.inl ⟨by rfl, ?_⟩) (by assumption) ?_
        rotate_left 1
        · (intro wx hSw; go_simp; try with_reducible rfl)
        try simp only [Act.put, List.setIfInBounds_toArray, List.set_cons_zero, List.set_cons_succ]
        refine wpAnyH_take (i := 5) (v := ?_) (pickS (pickS (pickS (pickS (pickS pick0))))) (by kernel_rfl) (by kernel_rfl) (by kernel_rfl) (fun _ _ _ h => h) (Or.inl ⟨by rfl, ?_⟩) (by assumption) ?_
        rotate_left 1
        · (intro wx hSw; go_simp; try with_reducible rfl)
        try simp only [Act.put, List.setIfInBounds_toArray, List.set_cons_zero, List.set_cons_succ]
        refine wpAnyH_take (i := 6) (v := ?_) (pickS (pickS (pickS (pickS (pickS (pickS pick0)))))) (by kernel_rfl) (by kernel_rfl) (by kernel_rfl) (fun _ _ _ h => h) (Or.inl ⟨by rfl, ?_⟩) (by assumption) ?_
        rotate_left 1
        · (intro wx hSw; go_simp; try with_reducible rfl)
        try simp only [Act.put, List.setIfInBounds_toArray, List.set_cons_zero, List.set_cons_succ]
        refine wpAnyH_take (i := 7) (v := ?_) (pickS (pickS (pickS (pickS (pickS (pickS (pickS pick0))))))) (by kernel_rfl) (by kernel_rfl) (by kernel_rfl) (fun _ _ _ h => h) (Or.inl ⟨by rfl, ?_⟩) (by assumption) ?_
        rotate_left 1
        · (intro wx hSw; have hcv := fun cx => run_conv (P := Try.prog) (src := 28) (dst := 9) (e := 5) (c := cx) (Kd.C_take hSw.1.b p HPB.out) HTL.out (by kernel_rfl) (by kernel_rfl) (by kernel_rfl); go_simp; try with_reducible rfl)
        try simp only [Act.put, List.setIfInBounds_toArray, List.set_cons_zero, List.set_cons_succ]
        refine wpAnyH_take (i := 8) (v := ?_) (pickS (pickS (pickS (pickS (pickS (pickS (pickS (pickS pick0)))))))) (by kernel_rfl) (by kernel_rfl) (by kernel_rfl) (fun _ _ _ h => h) (Or.inl ⟨by rfl, ?_⟩) (by assumption) ?_
        rotate_left 1
        · (intro wx hSw; go_simp; try with_reducible rfl)
        try simp only [Act.put, List.setIfInBounds_toArray, List.set_cons_zero, List.set_cons_succ]
        refine wpAnyH_take (i := 9) (v := ?_) (pickS (pickS (pickS (pickS (pickS (pickS (pickS (pickS (pickS pick0))))))))) (by kernel_rfl) (by kernel_rfl) (by kernel_rfl) (fun _ _ _ h => h) (Or.inl ⟨by rfl, ?_⟩) (by assumption) ?_
        rotate_left 1
        · (intro wx hSw; go_simp; try with_reducible rfl)
        try simp only [Act.put, List.setIfInBounds_toArray, List.set_cons_zero, List.set_cons_succ]
        refine wpAnyH_take (i := 10) (v := ?_) (pickS (pickS (pickS (pickS (pickS (pickS (pickS (pickS (pickS (pickS pick0)))))))))) (by kernel_rfl) (by kernel_rfl) (by kernel_rfl) (fun _ _ _ h => h) (Or.inl ⟨by rfl, ?_⟩) (by assumption) ?_
        rotate_left 1
        · (intro wx hSw; go_simp; try with_reducible rfl)
        try simp only [Act.put, List.setIfInBounds_toArray, List.set_cons_zero, List.set_cons_succ]
        refine wpAnyH_ready (rs := [11]) (by kernel_rfl) (by simp) ?_
        refine AllReadyH.cons (pickS (pickS (pickS (pickS (pickS (pickS (pickS (pickS (pickS (pickS (pickS pick0))))))))))) (fun K hK => ?_) AllReadyH.nil
        go_simp
        refine (seal_works _).mono ?_
        rintro e w8 ⟨rfl, hc8⟩
        have HN8 : Hid (KeySt w w.heap.size k0 k1 A bs w8 ∧ Kd.byte.C w8 (fun b => w.heap.size ≤ b) A6 (bs.take p)) := ⟨hHeld.1.new hc8, Kd.C_new hHeld.2 hc8⟩
        clear hc8 hHeld
        go_wp2_with fail
        refine hK.out _ _ (HN8.out) (fun hHeld => ?_)
        clear hK K
        try simp only [Act.put, List.setIfInBounds_toArray, List.set_cons_zero, List.set_cons_succ]
        refine wpAnyH_take (i := 12) (v := ?_) (pickS (pickS (pickS (pickS (pickS (pickS (pickS (pickS (pickS (pickS (pickS (pickS pick0)))))))))))) (by kernel_rfl) (by kernel_rfl) (by kernel_rfl) (fun _ _ _ h => h) (Or.inl ⟨by rfl, ?_⟩) (by assumption) ?_
        rotate_left 1
        · (intro wx hSw; go_simp; try with_reducible rfl)
        try simp only [Act.put, List.setIfInBounds_toArray, List.set_cons_zero, List.set_cons_succ]
        refine wpAnyH_take (i := 13) (v := ?_) (pickS (pickS (pickS (pickS (pickS (pickS (pickS (pickS (pickS (pickS (pickS (pickS (pickS pick0))))))))))))) (by kernel_rfl) (by kernel_rfl) (by kernel_rfl) (fun _ _ _ h => h) (Or.inl ⟨by rfl, ?_⟩) (by assumption) ?_
        rotate_left 1
        · (intro wx hSw; go_simp; try with_reducible rfl)
        try simp only [Act.put, List.setIfInBounds_toArray, List.set_cons_zero, List.set_cons_succ]
        refine wpAnyH_done (by kernel_rfl) ?_ _
        go_wp2
        go_ret
        exact ⟨rfl, HN8.out.1.chg⟩
      · have HD6 : Hid (Kd.byte.C w6 (fun b => w.heap.size ≤ b) none ([] : List UInt8)) := Kd.C_nil _ _ _ _
        have hse : sealed k0 k1 (bs.take p) ≠ bs := by
          intro he
          have h2 := congrArg (List.drop p) he
          rw [sealed, List.drop_append_of_le_length (by rw [HTL.out]; exact Nat.le_refl _), List.drop_of_length_le (by rw [HTL.out]; exact Nat.le_refl _), List.nil_append] at h2
          exact hneq h2.symm
        have HSE := Lib.hid hse
        clear hc6 hneq HK5 hse
        go_wp2
        refine wp_region_held_drew (S := fun wx => KeySt w w.heap.size k0 k1 A bs wx ∧ Kd.byte.C wx (fun b => w.heap.size ≤ b) none ([] : List UInt8)) (by kernel_rfl) (⟨HK6.out.new ((Chg.refl _ _).drew), Kd.C_new HD6.out ((Chg.refl _ _).drew)⟩) (fun hHeld => ?_)
        refine wpAnyH_take (i := 0) (v := ?_) pick0 (by kernel_rfl) (by kernel_rfl) (by kernel_rfl) (fun _ _ _ h => h) (Or.inl ⟨by rfl, ?_⟩) (by assumption) ?_
        rotate_left 1
        · (intro wx hSw; go_simp; try with_reducible rfl)
        try simp only [Act.put, List.setIfInBounds_toArray, List.set_cons_zero, List.set_cons_succ]
        refine wpAnyH_take (i := 1) (v := ?_) (pickS pick0) (by kernel_rfl) (by kernel_rfl) (by kernel_rfl) (fun _ _ _ h => h) (Or.inl ⟨by rfl, ?_⟩) (by assumption) ?_
        rotate_left 1
        · (intro wx hSw; obtain ⟨⟨⟨q0, q1⟩, _, _⟩, _⟩ := hSw; go_simp; try with_reducible rfl)
        try simp only [Act.put, List.setIfInBounds_toArray, List.set_cons_zero, List.set_cons_succ]
        refine wpAnyH_take (i := 2) (v := ?_) (pickS (pickS pick0)) (by kernel_rfl) (by kernel_rfl) (by kernel_rfl) (fun _ _ _ h => h) (Or.inl ⟨by rfl, ?_⟩) (by assumption) ?_
        rotate_left 1
        · (intro wx hSw; go_simp; try with_reducible rfl)
        try simp only [Act.put, List.setIfInBounds_toArray, List.set_cons_zero, List.set_cons_succ]
        refine wpAnyH_take (i := 3) (v := ?_) (pickS (pickS (pickS pick0))) (by kernel_rfl) (by kernel_rfl) (by kernel_rfl) (fun _ _ _ h => h) (Or.inl ⟨by rfl, ?_⟩) (by assumption) ?_
        rotate_left 1
        · (intro wx hSw; obtain ⟨⟨⟨q0, q1⟩, _, _⟩, _⟩ := hSw; go_simp; try with_reducible rfl)
        try simp only [Act.put, List.setIfInBounds_toArray, List.set_cons_zero, List.set_cons_succ]
        refine wpAnyH_take (i := 4) (v := ?_) (pickS (pickS (pickS (pickS pick0)))) (by kernel_rfl) (by kernel_rfl) (by kernel_rfl) (fun _ _ _ h => h) (Or.inl ⟨by rfl, ?_⟩) (by assumption) ?_
        rotate_left 1
        · (intro wx hSw; go_simp; try with_reducible rfl)
        try simp only [Act.put, List.setIfInBounds_toArray, List.set_cons_zero, List.set_cons_succ]
        refine wpAnyH_take (i := 5) (v := ?_) (pickS (pickS (pickS (pickS (pickS pick0))))) (by kernel_rfl) (by kernel_rfl) (by kernel_rfl) (fun _ _ _ h => h) (Or.inl ⟨by rfl, ?_⟩) (by assumption) ?_
        rotate_left 1
        · (intro wx hSw; go_simp; try with_reducible rfl)
        try simp only [Act.put, List.setIfInBounds_toArray, List.set_cons_zero, List.set_cons_succ]
        refine wpAnyH_take (i := 6) (v := ?_) (pickS (pickS (pickS (pickS (pickS (pickS pick0)))))) (by kernel_rfl) (by kernel_rfl) (by kernel_rfl) (fun _ _ _ h => h) (Or.inl ⟨by rfl, ?_⟩) (by assumption) ?_
        rotate_left 1
        · (intro wx hSw; go_simp; try with_reducible rfl)
        try simp only [Act.put, List.setIfInBounds_toArray, List.set_cons_zero, List.set_cons_succ]
        refine wpAnyH_take (i := 9) (v := ?_) (pickS (pickS (pickS (pickS (pickS (pickS (pickS (pickS (pickS pick0))))))))) (by kernel_rfl) (by kernel_rfl) (by kernel_rfl) (fun _ _ _ h => h) (Or.inl ⟨by rfl, ?_⟩) (by assumption) ?_
        rotate_left 1
        · (intro wx hSw; go_simp; try with_reducible rfl)
        try simp only [Act.put, List.setIfInBounds_toArray, List.set_cons_zero, List.set_cons_succ]
        refine wpAnyH_take (i := 10) (v := ?_) (pickS (pickS (pickS (pickS (pickS (pickS (pickS (pickS (pickS (pickS pick0)))))))))) (by kernel_rfl) (by kernel_rfl) (by kernel_rfl) (fun _ _ _ h => h) (Or.inl ⟨by rfl, ?_⟩) (by assumption) ?_
        rotate_left 1
        · (intro wx hSw; have hcv := fun cx => run_conv (P := Try.prog) (src := 28) (dst := 9) (e := 5) (c := cx) hSw.1.b HM.out (by kernel_rfl) (by kernel_rfl) (by kernel_rfl); go_simp; try with_reducible rfl)
        try simp only [Act.put, List.setIfInBounds_toArray, List.set_cons_zero, List.set_cons_succ]
        refine wpAnyH_ready (rs := [7]) (by kernel_rfl) (by simp) ?_
        refine AllReadyH.cons (pickS (pickS (pickS (pickS (pickS (pickS (pickS pick0))))))) (fun K hK => ?_) AllReadyH.nil
        go_simp
        refine (r_put h0 h1 (Kd.C_take hHeld.1.b p HPB.out) hHeld.1.lt HTL.out hpl).mono ?_
        rintro e w7 ⟨A7, c7, rfl, hl7, hmc7, hC7, hc7⟩
        have HN7 : Hid (KeySt w w.heap.size k0 k1 A bs w7 ∧ Kd.byte.C w7 (fun b => w.heap.size ≤ b) none ([] : List UInt8)) := ⟨hHeld.1.new hc7, Kd.C_new hHeld.2 hc7⟩
        have hcv := fun cx => run_conv (P := Try.prog) (src := 28) (dst := 9) (e := 5) (c := cx) hC7 hl7 (by kernel_rfl) (by kernel_rfl) (by kernel_rfl)
        clear hC7 hc7 hl7 hmc7 hHeld
        go_wp2_with fail
        refine hK.out _ _ (HN7.out) (fun hHeld => ?_)
        clear hK K
        try simp only [Act.put, List.setIfInBounds_toArray, List.set_cons_zero, List.set_cons_succ]
        refine wpAnyH_ready (rs := [8]) (by kernel_rfl) (by simp) ?_
        refine AllReadyH.cons (pickS (pickS (pickS (pickS (pickS (pickS (pickS (pickS pick0)))))))) (fun K hK => ?_) AllReadyH.nil
        go_simp
        refine hK.out _ _ (HN7.out) (fun hHeld => ?_)
        clear hK K
        try simp only [Act.put, List.setIfInBounds_toArray, List.set_cons_zero, List.set_cons_succ]
        refine wpAnyH_take (i := 11) (v := ?_) (pickS (pickS (pickS (pickS (pickS (pickS (pickS (pickS (pickS (pickS (pickS pick0))))))))))) (by kernel_rfl) (by kernel_rfl) (by kernel_rfl) (fun _ _ _ h => h) (Or.inl ⟨by rfl, ?_⟩) (by assumption) ?_
        rotate_left 1
        · (intro wx hSw; go_simp; try with_reducible rfl)
        try simp only [Act.put, List.setIfInBounds_toArray, List.set_cons_zero, List.set_cons_succ]
        refine wpAnyH_take (i := 12) (v := ?_) (pickS (pickS (pickS (pickS (pickS (pickS (pickS (pickS (pickS (pickS (pickS (pickS pick0)))))))))))) (by kernel_rfl) (by kernel_rfl) (by kernel_rfl) (fun _ _ _ h => h) (Or.inl ⟨by rfl, ?_⟩) (by assumption) ?_
        rotate_left 1
        · (intro wx hSw; go_simp; try with_reducible rfl)
        try simp only [Act.put, List.setIfInBounds_toArray, List.set_cons_zero, List.set_cons_succ]
        refine wpAnyH_done (by kernel_rfl) ?_ _
        have hbf : ((strOf (sealed k0 k1 (bs.take p))).toList == (strOf bs).toList) = false := by
          rw [strOf_list, strOf_list]
          simpa using HSE.out
        clear hcv
        go_wp2_with fail
        refine (seal_works _).mono ?_
        rintro e w8 ⟨rfl, hc8⟩
        have hfin := HN7.out.1.chg.thenNew hc8
        clear hc8
        go_wp2
        go_ret
        exact ⟨rfl, hfin⟩
  · exact absurd HSD.out.1 hno
end Go.Proofs.Ytpfibgfajobmaaa
