/- Frames: what a call of the reference's Take does. -/
import Derived.Test.YtmahjeafoogamaaFrameRef
import Derived.Test.YtmahjeafoogamaaFrameTake
namespace Go.Proofs.Ytmahjeafoogamaa
open Go.RowKit
set_option linter.unusedVariables false
set_option linter.unusedSimpArgs false
theorem sealed_take {bs : List UInt8} {n : Nat} (h : n + 7 ≤ bs.length) : sealedL (bs.take (n + 7)) ↔ sealB (bs.take (n + 3)) = bs.take (n + 7) := by
  have hl : (bs.take (n + 7)).length = n + 7 := by rw [List.length_take]; omega
  have e : (bs.take (n + 7)).take (n + 3) = bs.take (n + 3) := by rw [List.take_take, Nat.min_eq_left (by omega)]
  constructor
  · intro hs
    have := sealed_is hs (by omega)
    rw [hl, show n + 7 - 4 = n + 3 from by omega, e] at this
    exact this.symm
  · intro hs
    rw [← hs]
    exact sealB_sealed _
set_option maxRecDepth 100000 in
set_option maxHeartbeats 4000000 in
theorem fr_take {w : World} {ok : Nat → Prop} {A : Option Addr} {m c : Nat} {bs : List UInt8} (hb : Kd.byte.C w ok A bs) (hok : ∀ b, ok b → b < w.heap.size) (hm : bs.length = m) (hmc : m ≤ c) (hl : m ≤ 9223372036854775807) :
    Calls Try.prog 68 #[.slice A m c] w (TakenR w ok bs) := by
  have hres := heap_alloc_new w (.cells #[.int .u8 0, .slice none 0 0] 28)
  have hc1 := (Chg.refl nob w).alloc (.cells #[.int .u8 0, .slice none 0 0] 28)
  have HB1 := Lib.hid (Kd.C_new hb hc1)
  have HC1 := Lib.hid hc1
  obtain ⟨r0, r1⟩ := row2c hres
  have f0 := row2_loose hres 0
  have f1 := row2_loose hres 1
  have HRES := Lib.hid hres
  have HROW := Lib.hid (set2_row hres (.int .u8 0) (.slice none 0 0))
  have HCHG := Lib.hid (set2_chg hc1 (r := w.heap.size) (.inr (Nat.le_refl _)) (.int .u8 0) (.slice none 0 0))
  have HM := Lib.hid hm
  have HOK := Lib.hid hok
  clear hb hm hok hc1 hres
  by_cases h3 : m < 3
  · have HE : Hid (takeE bs = 30) := by show _ = _; rw [takeE, HM.out, if_pos h3]
    have b1 : (m : Int) < 3 := by omega
    go_enter Try.func68, Try.ntmps68
    go_wp2
    refine bodyPost_ret (by simp [results, Try.results68, go_sem, r0, r1]; rfl) rfl ?_
    exact ⟨HC1.out, .inl ⟨by rw [HE.out]; decide, by rw [HE.out]; rfl⟩⟩
  · have b1 : ¬ (m : Int) < 3 := by omega
    obtain ⟨x, hx⟩ : ∃ x, bs[0]? = some x := ⟨_, List.getElem?_eq_getElem (by rw [HM.out]; omega)⟩
    obtain ⟨y, hy⟩ : ∃ y, bs[1]? = some y := ⟨_, List.getElem?_eq_getElem (by rw [HM.out]; omega)⟩
    obtain ⟨z, hz⟩ : ∃ z, bs[2]? = some z := ⟨_, List.getElem?_eq_getElem (by rw [HM.out]; omega)⟩
    obtain ⟨ab, ao, rfl, c0⟩ := byte_at HB1.out hx
    obtain ⟨_, _, e, c1⟩ := byte_at HB1.out hy
    cases e
    obtain ⟨_, _, e, c2⟩ := byte_at HB1.out hz
    cases e
    rw [Nat.add_zero] at c0
    have hT : told bs = y.toNat * 256 + z.toNat := by rw [told, hy, hz]; rfl
    have hX0 : bs[0]?.getD 0 = x := by rw [hx]; rfl
    have HX := Lib.hid hx
    have g0 : 0 < m := by omega
    have g1 : (1 : Int) < (m : Int) := by omega
    have g2 : (2 : Int) < (m : Int) := by omega
    have hxl := x.toNat_lt
    have hyl := y.toNat_lt
    have hzl := z.toNat_lt
    clear hx hy hz
    by_cases hx0 : x = 0
    · have HE : Hid (takeE bs = 31) := by show _ = _; rw [takeE, HM.out, if_neg h3, hX0, if_pos hx0]
      have hxb : ((x.toNat : Int) == 0) = true := by subst hx0; rfl
      clear hX0 hx0 hT
      go_enter Try.func68, Try.ntmps68
      go_wp2
      refine bodyPost_ret (by simp [results, Try.results68, go_sem, r0, r1]; rfl) rfl ?_
      exact ⟨HC1.out, .inl ⟨by rw [HE.out]; decide, by rw [HE.out]; rfl⟩⟩
    · have hxb : ((x.toNat : Int) == 0) = false := by
        have : x.toNat ≠ 0 := fun h => hx0 (UInt8.toNat_inj.1 h)
        simp; omega
      have HTE : Hid (takeE bs = if 1000 < told bs then 3 else if m < told bs + 7 then 30 else if sealedL (bs.take (told bs + 7)) then 0 else 32) := by show _ = _; rw [takeE, HM.out, if_neg h3, hX0, if_neg hx0]
      have HT := Lib.hid hT
      have HX0 := Lib.hid hX0
      clear hX0 hT hx0
      go_enter Try.func68, Try.ntmps68
      go_wp2
      go_quiet (fail)
      have HTB : Hid (told bs ≤ 65535) := by show _ ≤ _; rw [HT.out]; omega
      have hTI : (y.toNat : Int) * 256 + (z.toNat : Int) = ((told bs : Nat) : Int) := by rw [HT.out]; omega
      rw [hTI]
      have HRES2 : Hid (((w.alloc (.cells #[.int .u8 0, .slice none 0 0] 28)).drewN nq).heap[w.heap.size]? = some (.cells #[.int .u8 0, .slice none 0 0] 28 (0, 0))) := HRES.out
      have HC2 : Hid (Chg nob w ((w.alloc (.cells #[.int .u8 0, .slice none 0 0] 28)).drewN nq)) := HC1.out.drewN _
      have HB2 := Lib.hid (Kd.C_new HB1.out ((Chg.refl nob (w.alloc (.cells #[.int .u8 0, .slice none 0 0] 28))).drewN nq))
      generalize hw2 : (World.alloc w _).drewN nq = w2 at HRES2 HC2 HB2 ⊢
      have HY0 : Hid ((frOf bs).1 = x) := HX0.out
      have HY2 : Hid ((frOf bs).2 = (bs.drop 3).take (told bs)) := rfl
      have HSC : Hid (told bs + 7 ≤ bs.length → (sealedL (bs.take (told bs + 7)) ↔ sealB (bs.take (told bs + 3)) = bs.take (told bs + 7))) := fun h => sealed_take h
      clear hw2 r0 r1 f0 f1 c0 c1 c2 hTI HT HRES HROW HCHG HC1 HB1 hxb
      obtain ⟨r0, r1⟩ := row2c HRES2.out
      have f0 := row2_loose HRES2.out 0
      have f1 := row2_loose HRES2.out 1
      obtain ⟨T, hT⟩ : ∃ T, told bs = T := ⟨_, rfl⟩
      rw [hT] at HTE HY2 HSC ⊢
      have HT := Lib.hid hT
      clear hT
      have hTb : (T : Int) ≤ 65535 := by have := HTB.out; rw [HT.out] at this; omega
      by_cases h1000 : 1000 < T
      · have b2 : (1000 : Int) < (T : Int) := by omega
        have HE : Hid (takeE bs = 3) := by show _ = _; rw [HTE.out, if_pos h1000]
        have HROW := Lib.hid (set2_row HRES2.out (.int .u8 0) (.slice none 0 0))
        have HCHG := Lib.hid (set2_chg HC2.out (r := w.heap.size) (.inr (Nat.le_refl _)) (.int .u8 0) (.slice none 0 0))
        go_wp2
        have hrow := HROW.out
        have hchg := HCHG.out
        unfold set2 at hrow hchg
        generalize (World.setCell _ (⟨w.heap.size, 1, none⟩ : Addr) _) = w9 at hrow hchg ⊢
        obtain ⟨q0, q1⟩ := row2c hrow
        refine bodyPost_ret (by simp [results, Try.results68, go_sem, q0, q1]; rfl) rfl ?_
        exact ⟨hchg, .inl ⟨by rw [HE.out]; decide, by rw [HE.out]; rfl⟩⟩
      · have b2 : ¬ (1000 : Int) < (T : Int) := by omega
        by_cases h7 : m < T + 7
        · have b3 : (m : Int) < (T : Int) + 7 := by omega
          have HE : Hid (takeE bs = 30) := by show _ = _; rw [HTE.out, if_neg h1000, if_pos h7]
          have HROW := Lib.hid (set2_row HRES2.out (.int .u8 0) (.slice none 0 0))
          have HCHG := Lib.hid (set2_chg HC2.out (r := w.heap.size) (.inr (Nat.le_refl _)) (.int .u8 0) (.slice none 0 0))
          go_wp2
          have hrow := HROW.out
          have hchg := HCHG.out
          unfold set2 at hrow hchg
          generalize (World.setCell _ (⟨w.heap.size, 1, none⟩ : Addr) _) = w9 at hrow hchg ⊢
          obtain ⟨q0, q1⟩ := row2c hrow
          refine bodyPost_ret (by simp [results, Try.results68, go_sem, q0, q1]; rfl) rfl ?_
          exact ⟨hchg, .inl ⟨by rw [HE.out]; decide, by rw [HE.out]; rfl⟩⟩
        · have b3 : ¬ (m : Int) < (T : Int) + 7 := by omega
          have b4 : (0 : Int) ≤ (T : Int) + 3 := by omega
          have b5 : (T : Int) + 3 ≤ (c : Int) := by omega
          have b6 : (0 : Int) ≤ (T : Int) + 7 := by omega
          have b7 : (T : Int) + 7 ≤ (c : Int) := by omega
          have h7' : T + 7 ≤ m := by omega
          have HSEAL : Hid (sealedL (bs.take (T + 7)) ↔ sealB (bs.take (T + 3)) = bs.take (T + 7)) := HSC.out (by rw [HM.out]; exact h7')
          have HWA : Hid (IntKind.i64.wrap ((T : Int) + 3) = (T : Int) + 3) := IntWalk.i64_in _ (by omega)
          have HWB : Hid (IntKind.i64.wrap ((T : Int) + 7) = (T : Int) + 7) := IntWalk.i64_in _ (by omega)
          have HTL3 : Hid ((bs.take (T + 3)).length = T + 3) := by show _ = _; rw [List.length_take, HM.out]; omega
          have HTL7 : Hid ((bs.take (T + 7)).length = T + 7) := by show _ = _; rw [List.length_take, HM.out]; omega
          have HB3 : Hid (T + 3 ≤ bs.length) := by show _ ≤ _; rw [HM.out]; omega
          have HB7 : Hid (T + 7 ≤ bs.length) := by show _ ≤ _; rw [HM.out]; omega
          have hl3 : T + 3 ≤ 1000000000 := by omega
          go_wp2
          refine wp_region_held_drew (S := fun wx => Kd.byte.C wx ok (some ⟨ab, ao, none⟩) bs ∧ Chg nob w2 wx) (by kernel_rfl) (⟨Kd.C_new HB2.out ((Chg.refl _ _).drew), (Chg.refl _ _).drew⟩) (fun hHeld => ?_)
          refine wpAnyH_take (i := 0) (v := ?_) pick0 (by kernel_rfl) (by kernel_rfl) (by kernel_rfl) (fun _ _ _ h => h) (Or.inl ⟨by rfl, ?_⟩) (by assumption) ?_
          rotate_left 1
          · (intro wx hSw; go_simp; try with_reducible rfl)
          try simp only [Act.put, List.setIfInBounds_toArray, List.set_cons_zero, List.set_cons_succ]
          refine wpAnyH_take (i := 1) (v := ?_) (pickS pick0) (by kernel_rfl) (by kernel_rfl) (by kernel_rfl) (fun _ _ _ h => h) (Or.inl ⟨by rfl, ?_⟩) (by assumption) ?_
          rotate_left 1
          · (intro wx hSw; go_simp; try with_reducible rfl)
          try simp only [Act.put, List.setIfInBounds_toArray, List.set_cons_zero, List.set_cons_succ]
          refine wpAnyH_take (i := 2) (v := ?_) (pickS (pickS pick0)) (by kernel_rfl) (by kernel_rfl) (by kernel_rfl) (fun _ _ _ h => h) (Or.inl ⟨by rfl, ?_⟩) (by assumption) ?_
          rotate_left 1
          · (intro wx hSw; have wp := HWA.out; go_simp; try with_reducible rfl)
          try simp only [Act.put, List.setIfInBounds_toArray, List.set_cons_zero, List.set_cons_succ]
          refine wpAnyH_take (i := 3) (v := ?_) (pickS (pickS (pickS pick0))) (by kernel_rfl) (by kernel_rfl) (by kernel_rfl) (fun _ _ _ h => h) (Or.inl ⟨by rfl, ?_⟩) (by assumption) ?_
          rotate_left 1
          · (intro wx hSw; have e1 : ((T : Int) + 3).toNat = T + 3 := (by omega); go_simp; try with_reducible rfl)
          try simp only [Act.put, List.setIfInBounds_toArray, List.set_cons_zero, List.set_cons_succ]
          refine wpAnyH_take (i := 6) (v := ?_) (pickS (pickS (pickS (pickS (pickS (pickS pick0)))))) (by kernel_rfl) (by kernel_rfl) (by kernel_rfl) (fun _ _ _ h => h) (Or.inl ⟨by rfl, ?_⟩) (by assumption) ?_
          rotate_left 1
          · (intro wx hSw; go_simp; try with_reducible rfl)
          try simp only [Act.put, List.setIfInBounds_toArray, List.set_cons_zero, List.set_cons_succ]
          refine wpAnyH_take (i := 7) (v := ?_) (pickS (pickS (pickS (pickS (pickS (pickS (pickS pick0))))))) (by kernel_rfl) (by kernel_rfl) (by kernel_rfl) (fun _ _ _ h => h) (Or.inl ⟨by rfl, ?_⟩) (by assumption) ?_
          rotate_left 1
          · (intro wx hSw; go_simp; try with_reducible rfl)
          try simp only [Act.put, List.setIfInBounds_toArray, List.set_cons_zero, List.set_cons_succ]
          refine wpAnyH_take (i := 8) (v := ?_) (pickS (pickS (pickS (pickS (pickS (pickS (pickS (pickS pick0)))))))) (by kernel_rfl) (by kernel_rfl) (by kernel_rfl) (fun _ _ _ h => h) (Or.inl ⟨by rfl, ?_⟩) (by assumption) ?_
          rotate_left 1
          · (intro wx hSw; have wp := HWB.out; go_simp; try with_reducible rfl)
          try simp only [Act.put, List.setIfInBounds_toArray, List.set_cons_zero, List.set_cons_succ]
          refine wpAnyH_take (i := 9) (v := ?_) (pickS (pickS (pickS (pickS (pickS (pickS (pickS (pickS (pickS pick0))))))))) (by kernel_rfl) (by kernel_rfl) (by kernel_rfl) (fun _ _ _ h => h) (Or.inl ⟨by rfl, ?_⟩) (by assumption) ?_
          rotate_left 1
          · (intro wx hSw; have e1 : ((T : Int) + 7).toNat = T + 7 := (by omega); go_simp; try with_reducible rfl)
          try simp only [Act.put, List.setIfInBounds_toArray, List.set_cons_zero, List.set_cons_succ]
          refine wpAnyH_take (i := 10) (v := ?_) (pickS (pickS (pickS (pickS (pickS (pickS (pickS (pickS (pickS (pickS pick0)))))))))) (by kernel_rfl) (by kernel_rfl) (by kernel_rfl) (fun _ _ _ h => h) (Or.inl ⟨by rfl, ?_⟩) (by assumption) ?_
          rotate_left 1
          · (intro wx hSw; have hcv := conv_any (Kd.C_take hSw.1 _ HB7.out) HTL7.out; go_simp; try with_reducible rfl)
          try simp only [Act.put, List.setIfInBounds_toArray, List.set_cons_zero, List.set_cons_succ]
          refine wpAnyH_ready (rs := [4]) (by kernel_rfl) (by simp) ?_
          refine AllReadyH.cons (pickS (pickS (pickS (pickS pick0)))) (fun K hK => ?_) AllReadyH.nil
          go_simp
          refine (rs_sealed (Kd.C_take hHeld.1 _ HB3.out) HTL3.out hl3).mono ?_
          rintro e w3 ⟨A3, c3, rfl, hl3', hmc3, hC3, hc3⟩
          have HN : Hid (Kd.byte.C w3 ok (some ⟨ab, ao, none⟩) bs ∧ Chg nob w2 w3) := ⟨Kd.C_new hHeld.1 hc3, hHeld.2.thenNew hc3⟩
          have hcv := conv_any hC3 hl3'
          clear hC3 hc3 hl3' hmc3
          go_wp2_with fail
          refine hK.out _ _ (HN.out) (fun hHeld => ?_)
          clear hK K
          try simp only [Act.put, List.setIfInBounds_toArray, List.set_cons_zero, List.set_cons_succ]
          refine wpAnyH_ready (rs := [5]) (by kernel_rfl) (by simp) ?_
          refine AllReadyH.cons (pickS (pickS (pickS (pickS (pickS pick0))))) (fun K hK => ?_) AllReadyH.nil
          go_simp
          refine hK.out _ _ (HN.out) (fun hHeld => ?_)
          clear hK K
          try simp only [Act.put, List.setIfInBounds_toArray, List.set_cons_zero, List.set_cons_succ]
          refine wpAnyH_take (i := 11) (v := ?_) (pickS (pickS (pickS (pickS (pickS (pickS (pickS (pickS (pickS (pickS (pickS pick0))))))))))) (by kernel_rfl) (by kernel_rfl) (by kernel_rfl) (fun _ _ _ h => h) (Or.inl ⟨by rfl, ?_⟩) (by assumption) ?_
          rotate_left 1
          · (intro wx hSw; go_simp; try with_reducible rfl)
          try simp only [Act.put, List.setIfInBounds_toArray, List.set_cons_zero, List.set_cons_succ]
          refine wpAnyH_done (by kernel_rfl) ?_ _
          have HRES3 : Hid (w3.heap[w.heap.size]? = some (.cells #[.int .u8 0, .slice none 0 0] 28 (0, 0))) := HN.out.2.heap HRES2.out (not_nob _)
          have HC3 : Hid (Chg nob w w3) := HC2.out.thenNew HN.out.2
          have HB3' : Hid (Kd.byte.C w3 ok (some ⟨ab, ao, none⟩) bs) := HN.out.1
          clear hHeld hcv r0 r1 f0 f1 HN
          obtain ⟨r0, r1⟩ := row2c HRES3.out
          have f0 := row2_loose HRES3.out 0
          have f1 := row2_loose HRES3.out 1
          by_cases hsl : sealedL (bs.take (T + 7))
          · have hbt : ((strOf (sealB (bs.take (T + 3)))).toList == (strOf (bs.take (T + 7))).toList) = true := by
              rw [strOf_list, strOf_list]
              simpa using HSEAL.out.1 hsl
            rw [hbt]
            have HE : Hid (takeE bs = 0) := by show _ = _; rw [HTE.out, if_neg h1000, if_neg h7, if_pos hsl]
            have HSL : Hid (Kd.byte.C w3 ok (some ⟨ab, ao + 3, none⟩) ((bs.drop 3).take T)) := by
              have := C_dropB HB3'.out 3 (3 + 1 + m) (by rw [HM.out]; omega) (by rw [HM.out]; omega)
              rw [if_neg (by omega), Option.map_some, add_at] at this
              exact Kd.C_take this _ (by rw [List.length_drop, HM.out]; omega)
            have hc3n : ¬ c = 3 := by omega
            have b8 : (3 : Int) ≤ (T : Int) + 3 := by omega
            have HOKB : Hid (∀ b, ok b → b ≠ w.heap.size) := fun b hb e => by have := HOK.out b hb; omega
            clear hsl hbt
            go_wp2
            refine wp_region_held_drew (S := fun wx => Kd.byte.C wx ok (some ⟨ab, ao, none⟩) bs) (by kernel_rfl) (Kd.C_new HB3'.out ((Chg.refl _ _).drew)) (fun hHeld => ?_)
            refine wpAnyH_take (i := 0) (v := ?_) pick0 (by kernel_rfl) (by kernel_rfl) (by kernel_rfl) (fun _ _ _ h => h) (Or.inl ⟨by rfl, ?_⟩) (by assumption) ?_
            rotate_left 1
            · (intro wx hSw; go_simp; try with_reducible rfl)
            try simp only [Act.put, List.setIfInBounds_toArray, List.set_cons_zero, List.set_cons_succ]
            refine wpAnyH_take (i := 1) (v := ?_) (pickS pick0) (by kernel_rfl) (by kernel_rfl) (by kernel_rfl) (fun _ _ _ h => h) (Or.inl ⟨by rfl, ?_⟩) (by assumption) ?_
            rotate_left 1
            · (intro wx hSw; go_simp; try with_reducible rfl)
            try simp only [Act.put, List.setIfInBounds_toArray, List.set_cons_zero, List.set_cons_succ]
            refine wpAnyH_take (i := 2) (v := ?_) (pickS (pickS pick0)) (by kernel_rfl) (by kernel_rfl) (by kernel_rfl) (fun _ _ _ h => h) (Or.inl ⟨by rfl, ?_⟩) (by assumption) ?_
            rotate_left 1
            · (intro wx hSw; obtain ⟨_, _, e, c1⟩ := byte_at hSw HX.out; cases e; rw [Nat.add_zero] at c1; go_simp; try with_reducible rfl)
            try simp only [Act.put, List.setIfInBounds_toArray, List.set_cons_zero, List.set_cons_succ]
            refine wpAnyH_take (i := 3) (v := ?_) (pickS (pickS (pickS pick0))) (by kernel_rfl) (by kernel_rfl) (by kernel_rfl) (fun _ _ _ h => h) (Or.inl ⟨by rfl, ?_⟩) (by assumption) ?_
            rotate_left 1
            · (intro wx hSw; go_simp; try with_reducible rfl)
            try simp only [Act.put, List.setIfInBounds_toArray, List.set_cons_zero, List.set_cons_succ]
            refine wpAnyH_take (i := 4) (v := ?_) (pickS (pickS (pickS (pickS pick0)))) (by kernel_rfl) (by kernel_rfl) (by kernel_rfl) (fun _ _ _ h => h) (Or.inl ⟨by rfl, ?_⟩) (by assumption) ?_
            rotate_left 1
            · (intro wx hSw; go_simp; try with_reducible rfl)
            try simp only [Act.put, List.setIfInBounds_toArray, List.set_cons_zero, List.set_cons_succ]
            refine wpAnyH_take (i := 5) (v := ?_) (pickS (pickS (pickS (pickS (pickS pick0))))) (by kernel_rfl) (by kernel_rfl) (by kernel_rfl) (fun _ _ _ h => h) (Or.inl ⟨by rfl, ?_⟩) (by assumption) ?_
            rotate_left 1
            · (intro wx hSw; have wp := HWA.out; go_simp; try with_reducible rfl)
            try simp only [Act.put, List.setIfInBounds_toArray, List.set_cons_zero, List.set_cons_succ]
            refine wpAnyH_take (i := 6) (v := ?_) (pickS (pickS (pickS (pickS (pickS (pickS pick0)))))) (by kernel_rfl) (by kernel_rfl) (by kernel_rfl) (fun _ _ _ h => h) (Or.inl ⟨by rfl, ?_⟩) (by assumption) ?_
            rotate_left 1
            · (intro wx hSw; have e1 : ((T : Int) + 3).toNat = T + 3 := (by omega); go_simp; try with_reducible rfl)
            try simp only [Act.put, List.setIfInBounds_toArray, List.set_cons_zero, List.set_cons_succ]
            refine wpAnyH_take (i := 7) (v := ?_) (pickS (pickS (pickS (pickS (pickS (pickS (pickS pick0))))))) (by kernel_rfl) (by kernel_rfl) (by kernel_rfl) (fun _ _ _ h => h) (Or.inl ⟨by rfl, ?_⟩) (by assumption) ?_
            rotate_left 1
            · (intro wx hSw; go_simp; try with_reducible rfl)
            try simp only [Act.put, List.setIfInBounds_toArray, List.set_cons_zero, List.set_cons_succ]
            refine wpAnyH_take (i := 8) (v := ?_) (pickS (pickS (pickS (pickS (pickS (pickS (pickS (pickS pick0)))))))) (by kernel_rfl) (by kernel_rfl) (by kernel_rfl) (fun _ _ _ h => h) (Or.inl ⟨by rfl, ?_⟩) (by assumption) ?_
            rotate_left 1
            · (intro wx hSw; go_simp; try with_reducible rfl)
            try simp only [Act.put, List.setIfInBounds_toArray, List.set_cons_zero, List.set_cons_succ]
            refine wpAnyH_take (i := 9) (v := ?_) (pickS (pickS (pickS (pickS (pickS (pickS (pickS (pickS (pickS pick0))))))))) (by kernel_rfl) (by kernel_rfl) (by kernel_rfl) (fun _ _ _ h => h) (Or.inl ⟨by rfl, ?_⟩) (by assumption) ?_
            rotate_left 1
            · (intro wx hSw; have wp := HWB.out; go_simp; try with_reducible rfl)
            try simp only [Act.put, List.setIfInBounds_toArray, List.set_cons_zero, List.set_cons_succ]
            refine wpAnyH_ready (rs := [10]) (by kernel_rfl) (by simp) ?_
            refine AllReadyH.cons (pickS (pickS (pickS (pickS (pickS (pickS (pickS (pickS (pickS (pickS pick0)))))))))) (fun K hK => ?_) AllReadyH.nil
            have hC7 : Chg (fun b => b = w.heap.size) w3 (set2 w3 w.heap.size (.int .u8 x.toNat) (.slice (some ⟨ab, ao + 3, none⟩) T (c - 3))).drew := (set2_chg (S := fun b => b = w.heap.size) (Chg.refl _ _) (.inl rfl) _ _).drew
            have HC7 := Lib.hid hC7
            have HROW : Hid ((set2 w3 w.heap.size (.int .u8 x.toNat) (.slice (some ⟨ab, ao + 3, none⟩) T (c - 3))).drew.heap[w.heap.size]? = some (.cells #[.int .u8 x.toNat, .slice (some ⟨ab, ao + 3, none⟩) T (c - 3)] 28 (0, 0))) := set2_row HRES3.out _ _
            clear hC7
            go_simp
            refine hK.out _ _ (Kd.C_chg HB3'.out HC7.out (fun b hb e => HOKB.out b hb e)) (fun hHeld => ?_)
            clear hK K
            try simp only [Act.put, List.setIfInBounds_toArray, List.set_cons_zero, List.set_cons_succ]
            refine wpAnyH_take (i := 11) (v := ?_) (pickS (pickS (pickS (pickS (pickS (pickS (pickS (pickS (pickS (pickS (pickS pick0))))))))))) (by kernel_rfl) (by kernel_rfl) (by kernel_rfl) (fun _ _ _ h => h) (Or.inl ⟨by rfl, ?_⟩) (by assumption) ?_
            rotate_left 1
            · (intro wx hSw; go_simp; try with_reducible rfl)
            try simp only [Act.put, List.setIfInBounds_toArray, List.set_cons_zero, List.set_cons_succ]
            refine wpAnyH_take (i := 12) (v := ?_) (pickS (pickS (pickS (pickS (pickS (pickS (pickS (pickS (pickS (pickS (pickS (pickS pick0)))))))))))) (by kernel_rfl) (by kernel_rfl) (by kernel_rfl) (fun _ _ _ h => h) (Or.inl ⟨by rfl, ?_⟩) (by assumption) ?_
            rotate_left 1
            · (intro wx hSw; go_simp; try with_reducible rfl)
            try simp only [Act.put, List.setIfInBounds_toArray, List.set_cons_zero, List.set_cons_succ]
            refine wpAnyH_done (by kernel_rfl) ?_ _
            clear hHeld
            have HFIN : Hid (∀ e w', w' = (set2 w3 w.heap.size (.int .u8 x.toNat) (.slice (some ⟨ab, ao + 3, none⟩) T (c - 3))).drew → e = .returned (.tuple #[.agg #[.int .u8 x.toNat, .slice (some ⟨ab, ao + 3, none⟩) T (c - 3)], .int .i64 ((T : Int) + 7), .int .i64 0]) → TakenR w ok bs e w') := by
              rintro e w' rfl rfl
              refine ⟨HC3.out.trans HC7.out (fun i hi => .inr (Nat.le_of_eq (hi : i = w.heap.size).symm)), .inr ⟨HE.out, some ⟨ab, ao + 3, none⟩, c - 3, ?_, ?_, ?_⟩⟩
              · rw [HT.out]
                have : (frOf bs).1 = x := HY0.out
                rw [this]
                rfl
              · rw [HT.out]; omega
              · have : (frOf bs).2 = (bs.drop 3).take T := HY2.out
                rw [this]
                exact Kd.C_chg HSL.out HC7.out (fun b hb e => HOKB.out b hb e)
            go_wp2
            have hrow := HROW.out
            have hfin := HFIN.out
            unfold set2 at hrow hfin
            generalize (World.setCell _ (⟨w.heap.size, 1, none⟩ : Addr) _).drew = w9 at hrow hfin ⊢
            obtain ⟨q0, q1⟩ := row2c hrow
            refine bodyPost_ret (by simp [results, Try.results68, go_sem, q0, q1]; rfl) rfl ?_
            exact hfin _ _ rfl rfl
          · have hbt : ((strOf (sealB (bs.take (T + 3)))).toList == (strOf (bs.take (T + 7))).toList) = false := by
              rw [strOf_list, strOf_list]
              simpa using fun h => hsl (HSEAL.out.2 h)
            rw [hbt]
            have HE : Hid (takeE bs = 32) := by show _ = _; rw [HTE.out, if_neg h1000, if_neg h7, if_neg hsl]
            clear hsl hbt
            have HROW := Lib.hid (set2_row HRES3.out (.int .u8 0) (.slice none 0 0))
            have HCHG := Lib.hid (set2_chg HC3.out (r := w.heap.size) (.inr (Nat.le_refl _)) (.int .u8 0) (.slice none 0 0))
            go_wp2
            have hrow := HROW.out
            have hchg := HCHG.out
            unfold set2 at hrow hchg
            generalize (World.setCell _ (⟨w.heap.size, 1, none⟩ : Addr) _) = w9 at hrow hchg ⊢
            obtain ⟨q0, q1⟩ := row2c hrow
            refine bodyPost_ret (by simp [results, Try.results68, go_sem, q0, q1]; rfl) rfl ?_
            exact ⟨hchg, .inl ⟨by rw [HE.out]; decide, by rw [HE.out]; rfl⟩⟩

end Go.Proofs.Ytmahjeafoogamaa
