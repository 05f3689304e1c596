import Derived.Test.YthleagjnhpjhiaaFold20
import Derived.Test.YthleagjnhpjhiaaFold19
import Derived.Test.YthleagjnhpjhiaaFold21
/- Orders: the reference's Put; the law OrderPuts. -/
namespace Go.Proofs.Ythleagjnhpjhiaa
open Go.RowKit
set_option linter.unusedVariables false
set_option linter.unusedSimpArgs false
set_option maxRecDepth 100000
set_option maxHeartbeats 4000000 in
theorem r_put {w : World} {ok : Nat → Prop} {o : Ord} {cs : Array Value} (hx : ordK.K w ok o cs.toList) : Calls Try.prog 12 #[.agg cs] w (BytesE w (putE o)) := by
  obtain ⟨T, tc, A, n, c, hcs, hK, hc1, hs1⟩ := ord_list hx
  have hcs' : cs = (ordL o T tc A n c).toArray := Array.toList_inj.1 hcs
  subst hcs'
  obtain ⟨cl, hcl⟩ : ∃ cl, o.1 = cl := ⟨_, rfl⟩
  obtain ⟨sq, hsq⟩ : ∃ sq, o.2.1 = sq := ⟨_, rfl⟩
  obtain ⟨x, hxx⟩ : ∃ x, o.2.2 = x := ⟨_, rfl⟩
  have hpe : putE o = if rightB x && cliOk cl then (numB cl.toNat ++ numB sq.toNat ++ layB x, 0) else ([], 2) := by unfold putE; rw [hcl, hsq, hxx]
  obtain ⟨R, hR⟩ : ∃ R, putE o = R := ⟨_, rfl⟩
  rw [hR] at hpe ⊢
  have HYES : Hid (rightB x = true → cliOk cl = true → R = (numB cl.toNat ++ numB sq.toNat ++ layB x, 0)) := fun h k => by rw [hpe, h, k]; rfl
  have HNO : Hid ((rightB x && cliOk cl) = false → R = ([], 2)) := fun h => by rw [hpe, h]; rfl
  rw [hcl] at hc1
  rw [hsq] at hs1
  rw [hxx] at hK
  obtain ⟨w1, hw1⟩ : ∃ w1, w.alloc (.cells (ordL o T tc A n c).toArray 31) = w1 := ⟨_, rfl⟩
  have hb1 := heap_alloc_new w (.cells (ordL o T tc A n c).toArray 31)
  have h1 : Chg nob w w1 := by rw [← hw1]; exact (Chg.refl nob w).alloc _
  obtain ⟨gb, hgb⟩ : ∃ gb, w.heap.size = gb := ⟨_, rfl⟩
  rw [hw1, hgb] at hb1
  have HROW := Lib.hid hb1
  have HCELL : Hid (w1.cell? ⟨gb, 0, none⟩ = some (.int .i64 cl) ∧ w1.cell? ⟨gb, 1, none⟩ = some (.int .u32 sq)) := ⟨by rw [cell_of_row _ _ _ _ _ _ hb1, ← hcl]; rfl, by rw [cell_of_row _ _ _ _ _ _ hb1, ← hsq]; rfl⟩
  have HRNG : Hid (w1.rangeAt gb 2 (cmL x T tc (.slice A n c))) := by
    have := rng_part (rng_row hb1) 2 17
    rw [← hxx]
    exact this
  have HC1 := Lib.hid h1
  have HW1 := Lib.hid hw1
  have HGB := Lib.hid hgb
  have HK0 : Hid (comK.K w (fun b => ok b ∧ b < w.heap.size) x (cmL x T tc (.slice A n c))) := comK.bound hK
  have HK := Lib.hid (Kd.chg hK h1 (fun b _ => not_nob b))
  obtain ⟨V, hV⟩ : ∃ V, (ordL o T tc A n c).toArray = V := ⟨_, rfl⟩
  rw [hV] at HW1 ⊢
  clear hb1 h1 hw1 hK hx hV hcs hcl hsq hxx hpe hR
  go_enter Try.func12, Try.ntmps12
  go_upto_region 1 with fail
  rw [HW1.out]
  clear hgb
  go_wp2_with (first
    | (refine wpList_load_mid rfl 26 (.tmp 5) rfl gb 2 rfl (cmL x T tc (.slice A n c)) _ HRNG.out Try.underlying26 rfl (by kernel_rfl) ?_; try simp only [Act.put, List.setIfInBounds_toArray, List.set_cons_zero, List.set_cons_succ])
    | fail)
  refine (r_right20 (x := x) HK.out).mono ?_
  rintro e w2 ⟨rfl, hc2⟩
  have HC12 := Lib.hid hc2
  have HC2 := Lib.hid (HC1.out.thenNew hc2)
  have HK2 := Lib.hid (Kd.chg HK.out hc2 (fun b _ => not_nob b))
  obtain ⟨rb, hrb⟩ : ∃ rb, rightB x = rb := ⟨_, rfl⟩
  rw [hrb]
  have HRB := Lib.hid hrb
  clear hc2 hrb
  cases rb with
  | false =>
    go_wp2
    go_ret2
    rw [HNO.out (by rw [HRB.out]; rfl)]
    exact bytesE_no _ _ 2 HC2.out
  | true =>
    have x0 := HC12.out.cell HCELL.out.1 (not_nob _)
    by_cases h0 : 0 ≤ cl
    · by_cases h15 : cl ≤ 15
      · have a1 : ¬ cl < 0 := by omega
        have a2 : ¬ cl > 15 := by omega
        have HRE := Lib.hid (HYES.out HRB.out (by unfold cliOk; rw [decide_eq_true h0, decide_eq_true h15]; rfl))
        go_upto_region 3 with fail
        have HUP : Hid (∀ wx, Chg nob w2 wx → wx.cell? ⟨gb, 0, none⟩ = some (.int .i64 cl) ∧ wx.cell? ⟨gb, 1, none⟩ = some (.int .u32 sq) ∧ wx.rangeAt gb 2 (cmL x T tc (.slice A n c))) := fun wx hc => ⟨(HC12.out.thenNew hc).cell HCELL.out.1 (not_nob _), (HC12.out.thenNew hc).cell HCELL.out.2 (not_nob _), rng_chg HRNG.out (HC12.out.thenNew hc) (not_nob _)⟩
        have hwc : IntKind.u64.wrap cl = cl := by rw [IntKind.wrap_u64]; omega
        have hws : IntKind.u64.wrap sq = sq := by rw [IntKind.wrap_u64]; omega
        have hl1 := numB_len (n := cl.toNat) (by omega)
        have hl2 := numB_len (n := sq.toNat) (by omega)
        refine wp_region_held_drew (S := fun wx => Chg (fun k => w.heap.size ≤ k ∧ ¬ k = gb) w2 wx) (by kernel_rfl) (((Chg.refl _ w2).drew)) (fun hHeld => ?_)
        refine wpAnyH_take (i := 0) (v := ?_) pick0 (by kernel_rfl) (by kernel_rfl) (by kernel_rfl) (fun _ _ _ h => h) (Or.inl ⟨by rfl, ?_⟩) (by assumption) ?_
        rotate_left 1
        · (intro wx hSw; go_simp; try with_reducible rfl)
        try simp only [Act.put, List.setIfInBounds_toArray, List.set_cons_zero, List.set_cons_succ]
        refine wpAnyH_take (i := 1) (v := ?_) (pickS pick0) (by kernel_rfl) (by kernel_rfl) (by kernel_rfl) (fun _ _ _ h => h) (Or.inl ⟨by rfl, ?_⟩) (by assumption) ?_
        rotate_left 1
        · (intro wx hSw; have e0 := hSw.cell (HUP.out w2 (Chg.refl nob w2)).1 (fun e => e.2 rfl); go_simp; try with_reducible rfl)
        try simp only [Act.put, List.setIfInBounds_toArray, List.set_cons_zero, List.set_cons_succ]
        refine wpAnyH_take (i := 2) (v := ?_) (pickS (pickS pick0)) (by kernel_rfl) (by kernel_rfl) (by kernel_rfl) (fun _ _ _ h => h) (Or.inl ⟨by rfl, ?_⟩) (by assumption) ?_
        rotate_left 1
        · (intro wx hSw; go_simp; try with_reducible rfl)
        try simp only [Act.put, List.setIfInBounds_toArray, List.set_cons_zero, List.set_cons_succ]
        refine wpAnyH_take (i := 4) (v := ?_) (pickS (pickS (pickS (pickS pick0)))) (by kernel_rfl) (by kernel_rfl) (by kernel_rfl) (fun _ _ _ h => h) (Or.inl ⟨by rfl, ?_⟩) (by assumption) ?_
        rotate_left 1
        · (intro wx hSw; go_simp; try with_reducible rfl)
        try simp only [Act.put, List.setIfInBounds_toArray, List.set_cons_zero, List.set_cons_succ]
        refine wpAnyH_take (i := 5) (v := ?_) (pickS (pickS (pickS (pickS (pickS pick0))))) (by kernel_rfl) (by kernel_rfl) (by kernel_rfl) (fun _ _ _ h => h) (Or.inl ⟨by rfl, ?_⟩) (by assumption) ?_
        rotate_left 1
        · (intro wx hSw; have e0 := hSw.cell (HUP.out w2 (Chg.refl nob w2)).2.1 (fun e => e.2 rfl); go_simp; try with_reducible rfl)
        try simp only [Act.put, List.setIfInBounds_toArray, List.set_cons_zero, List.set_cons_succ]
        refine wpAnyH_take (i := 6) (v := ?_) (pickS (pickS (pickS (pickS (pickS (pickS pick0)))))) (by kernel_rfl) (by kernel_rfl) (by kernel_rfl) (fun _ _ _ h => h) (Or.inl ⟨by rfl, ?_⟩) (by assumption) ?_
        rotate_left 1
        · (intro wx hSw; go_simp; try with_reducible rfl)
        try simp only [Act.put, List.setIfInBounds_toArray, List.set_cons_zero, List.set_cons_succ]
        refine wpAnyH_ready (rs := [3]) (by kernel_rfl) (by simp) ?_
        refine AllReadyH.cons (pickS (pickS (pickS pick0))) (fun K hK => ?_) AllReadyH.nil
        go_simp
        refine (ref_num cl h0 (by omega)).mono ?_
        intro e w3 hL
        obtain ⟨B3, c3, rfl, hS3, hc3⟩ := ByS.of (w := w) (X := fun b => b = gb) hL (by have := HC2.out.size; exact this) (fun k hk => by rw [show k = gb from hk]; have h2 := heap_lt HROW.out; have := HC12.out.size; show gb < w2.heap.size; omega)
        have HC3 : Hid (Chg nob w2 w3) := ((Chg.refl nob w2).drew).thenNew hc3
        obtain ⟨G1, hG1⟩ : ∃ G1, numB cl.toNat = G1 := ⟨_, rfl⟩
        rw [hG1] at hS3 hl1 ⊢
        obtain ⟨m3, hm3⟩ : ∃ m3, G1.length = m3 := ⟨_, rfl⟩
        rw [hm3] at hS3 hl1 ⊢
        have HG1 := Lib.hid hG1
        have HM3 := Lib.hid hm3
        have HS3 := Lib.hid hS3
        clear hm3 hS3 hc3 hL hG1
        go_wp2_with fail
        refine hK.out _ _ (HC3.out.ofNew) (fun hHeld => ?_)
        clear hK K
        try simp only [Act.put, List.setIfInBounds_toArray, List.set_cons_zero, List.set_cons_succ]
        refine wpAnyH_ready (rs := [7]) (by kernel_rfl) (by simp) ?_
        refine AllReadyH.cons (pickS (pickS (pickS (pickS (pickS (pickS (pickS pick0))))))) (fun K hK => ?_) AllReadyH.nil
        go_simp
        refine (ref_num sq hs1.1 (by omega)).mono ?_
        intro e w4 hL
        obtain ⟨Y, y, rfl, _, hY, hCy⟩ := hL.slice
        have HC4 : Hid (Chg nob w2 w4) := HC3.out.thenNew hCy
        obtain ⟨G2, hG2⟩ : ∃ G2, numB sq.toNat = G2 := ⟨_, rfl⟩
        rw [hG2] at hY hl2 ⊢
        obtain ⟨r, hr⟩ : ∃ r, G2.length = r := ⟨_, rfl⟩
        rw [hr] at hY hl2 ⊢
        have HG2 := Lib.hid hG2
        have HLR := Lib.hid hr
        have HY := Lib.hid (Kd.R_read hY).1
        have HS4 := Lib.hid (HS3.out.new hCy)
        obtain ⟨mt, hmt⟩ : ∃ mt, (G1 ++ G2).length = mt := ⟨_, rfl⟩
        have HMT := Lib.hid hmt
        have hpn : G1.length + r = mt := by rw [← hmt, List.length_append, hr]
        have HPN := Lib.hid hpn
        have hbd : mt ≤ 140737488355328 := by rw [← hpn, HM3.out]; omega
        clear hY hCy hr hG2 hL hmt hpn
        go_wp2_with fail
        refine hK.out _ _ (HC4.out.ofNew) (fun hHeld => ?_)
        clear hK K
        try simp only [Act.put, List.setIfInBounds_toArray, List.set_cons_zero, List.set_cons_succ]
        refine wpAnyH_ready (rs := [8]) (by kernel_rfl) (by simp) ?_
        refine AllReadyH.cons (pickS (pickS (pickS (pickS (pickS (pickS (pickS (pickS pick0)))))))) (fun K hK => ?_) AllReadyH.nil
        refine step_appB rfl _ _ rfl w.heap.size _ _ (.slice B3 m3 c3) G1 G2 Y r y rfl rfl HLR.out HS4.out.row HY.out HS4.out.base mt HPN.out hbd ?_
        intro B5 c5 w5 hR hC ho
        have HS5 := Lib.hid (HS4.out.app (fun k hk => by rw [show k = gb from hk]; have h2 := heap_lt HROW.out; have := HC12.out.size; have := HC3.out.size; show gb < w3.heap.size; omega) HMT.out hR hC ho)
        have HC5 : Hid (Chg (fun k => w.heap.size ≤ k ∧ ¬ k = gb) w2 w5) := HC4.out.ofNew.trans hC (fun i hi => .inl ⟨(Kd.R_own HS4.out.row i hi.symm).1, HS4.out.own i hi.symm⟩)
        clear hR hC ho
        refine hK.out _ _ (HC5.out) (fun hHeld => ?_)
        clear hK K
        try simp only [Act.put, List.setIfInBounds_toArray, List.set_cons_zero, List.set_cons_succ]
        refine wpAnyH_take (i := 9) (v := ?_) (pickS (pickS (pickS (pickS (pickS (pickS (pickS (pickS (pickS pick0))))))))) (by kernel_rfl) (by kernel_rfl) (by kernel_rfl) (fun _ _ _ h => h) (Or.inl ⟨by rfl, ?_⟩) (by assumption) ?_
        rotate_left 1
        · (intro wx hSw; go_simp; try with_reducible rfl)
        try simp only [Act.put, List.setIfInBounds_toArray, List.set_cons_zero, List.set_cons_succ]
        refine wpAnyH_done (by kernel_rfl) ?_ _
        have HRN5 : Hid (w5.rangeAt gb 2 (cmL x T tc (.slice A n c))) := rng_chg (HUP.out w2 (Chg.refl nob w2)).2.2 HC5.out (fun e => e.2 rfl)
        have HC25 : Hid (Chg nob w w5) := HC2.out.trans HC5.out (fun i hi => .inr hi.1)
        have HK5 : Hid (comK.K w5 (fun b => ok b ∧ b < w.heap.size) x (cmL x T tc (.slice A n c))) := Kd.chg (HK0.out) HC25.out (fun b _ => not_nob b)
        clear hHeld hwc hws x0
        go_wp2_with (first
          | (refine wpList_load_mid rfl 26 (.tmp 29) rfl gb 2 rfl (cmL x T tc (.slice A n c)) _ HRN5.out Try.underlying26 rfl (by kernel_rfl) ?_; try simp only [Act.put, List.setIfInBounds_toArray, List.set_cons_zero, List.set_cons_succ])
          | fail)
        refine (r_bytes (x := x) HK5.out HRB.out).mono ?_
        intro e w6 hL
        obtain ⟨Z, z, rfl, _, hZ, hCz⟩ := hL.slice
        obtain ⟨G3, hG3⟩ : ∃ G3, layB x = G3 := ⟨_, rfl⟩
        rw [hG3] at hZ ⊢
        obtain ⟨r3, hr3⟩ : ∃ r3, G3.length = r3 := ⟨_, rfl⟩
        rw [hr3] at hZ ⊢
        obtain ⟨GG, hGG⟩ : ∃ GG, G1 ++ G2 = GG := ⟨_, rfl⟩
        have HGG := Lib.hid hGG
        have HS6 := Lib.hid ((HS5.out.new hCz).is hGG)
        have HZ := Lib.hid (Kd.R_read hZ).1
        have HLR3 := Lib.hid hr3
        obtain ⟨m6, hm6⟩ : ∃ m6, (GG ++ G3).length = m6 := ⟨_, rfl⟩
        have HM6 := Lib.hid hm6
        have hpn : GG.length + r3 = m6 := by rw [← hm6, List.length_append, hr3]
        have HPN6 := Lib.hid hpn
        have HEQ : Hid (numB cl.toNat ++ numB sq.toNat ++ layB x = GG ++ G3) := by show _ = _; rw [← hGG, ← hG3, HG1.out, HG2.out]
        have HC26 := Lib.hid (HC25.out.thenNew hCz)
        have hbd6 : m6 ≤ 140737488355328 := by
          have h5 := layTo_le (x := x) (cmd_cells (d := subsK) rfl HK5.out).choose_spec.choose_spec.choose_spec.2.2.2.2 (few_of HK5.out HRB.out) HRB.out (L := 200000) rfl 16 (by decide)
          have h6 : (layB x).length ≤ 3300000 := by unfold layB; omega
          rw [hG3, hr3] at h6
          have h7 : GG.length = mt := by rw [← hGG]; exact HMT.out
          have h8 := HPN.out
          have h9 := HM3.out
          omega
        clear hL hZ hCz hr3 hG3 hGG hm6 hpn
        go_wp2_with (at_builtin; refine wp_appB rfl _ _ rfl w.heap.size _ _ (.slice B5 mt c5) GG G3 Z r3 z rfl rfl HLR3.out HS6.out.row HZ.out HS6.out.base m6 HPN6.out hbd6 ?_)
        intro B7 c7 w7 hR hC ho
        have HR7 := Lib.hid (Kd.R_read hR)
        have HC7 : Hid (Chg nob w w7) := HC26.out.trans hC (fun i hi => .inr (Kd.R_own HS6.out.row i hi.symm).1)
        have HOW : Hid (∀ k, (Value.slice B7 m6 c7).ownBlock = some k → w.heap.size ≤ k) := fun k hk => (Kd.R_own hR k hk).1
        clear hR hC ho
        go_wp2
        go_ret2
        rw [HRE.out]
        refine ⟨B7, c7, ?_, ?_, ?_, HC7.out⟩
        · show _ = Ending.returned (.tuple #[.slice B7 (numB cl.toNat ++ numB sq.toNat ++ layB x).length c7, .int .i64 0])
          rw [HEQ.out, HM6.out]
          rfl
        · show Kd.byte.C _ _ _ (numB cl.toNat ++ numB sq.toNat ++ layB x)
          rw [HEQ.out]
          exact Kd.C_mono HR7.out.1 (fun k hk => HOW.out k hk.symm)
        · show (numB cl.toNat ++ numB sq.toNat ++ layB x).length ≤ c7
          rw [HEQ.out, HM6.out]
          exact HR7.out.2.2
      · have a1 : ¬ cl < 0 := by omega
        have a2 : cl > 15 := by omega
        have HRE := Lib.hid (HNO.out (by unfold cliOk; rw [decide_eq_false h15, Bool.and_false, Bool.and_false]))
        go_wp2
        go_ret2
        rw [HRE.out]
        exact bytesE_no _ _ 2 HC2.out
    · have a1 : cl < 0 := by omega
      have HRE := Lib.hid (HNO.out (by unfold cliOk; rw [decide_eq_false h0, Bool.false_and, Bool.and_false]))
      go_wp2
      go_ret2
      rw [HRE.out]
      exact bytesE_no _ _ 2 HC2.out
#print axioms r_put
set_option maxHeartbeats 4000000 in
theorem orderPuts_walk {w : World} {ok : Nat → Prop} {o : Ord} {cs : Array Value} (hx : ordK.K w ok o cs.toList) : Calls Try.prog 4 #[.agg cs] w (ToldN w true) := by
  obtain ⟨T, tc, A, n, c, hcs, -⟩ := ord_list hx
  have hcs' : cs = (ordL o T tc A n c).toArray := Array.toList_inj.1 hcs
  subst hcs'
  obtain ⟨w1, hw1⟩ : ∃ w1, w.alloc (.cells (ordL o T tc A n c).toArray 31) = w1 := ⟨_, rfl⟩
  have hb1 := heap_alloc_new w (.cells (ordL o T tc A n c).toArray 31)
  have h1 : Chg nob w w1 := by rw [← hw1]; exact (Chg.refl nob w).alloc _
  obtain ⟨gb, hgb⟩ : ∃ gb, w.heap.size = gb := ⟨_, rfl⟩
  rw [hw1, hgb] at hb1
  have HROW := Lib.hid hb1
  have HC1 := Lib.hid h1
  have HW1 := Lib.hid hw1
  have HX := Lib.hid (Kd.chg hx h1 (fun b _ => not_nob b))
  have HRN : Hid (∀ wx, Chg nob w1 wx → wx.rangeAt gb 0 (ordL o T tc A n c)) := fun wx hc => rng_row (hc.heap HROW.out (not_nob _))
  obtain ⟨R, hR⟩ : ∃ R, putE o = R := ⟨_, rfl⟩
  have HR := Lib.hid hR
  obtain ⟨V, hV⟩ : ∃ V, (ordL o T tc A n c).toArray = V := ⟨_, rfl⟩
  rw [hV] at HW1 ⊢
  clear hb1 h1 hw1 hx hV hcs hR
  go_enter Try.func4, Try.ntmps4
  go_upto_region 1 with fail
  rw [HW1.out]
  have HRA := Lib.hid (HRN.out w1 (Chg.refl nob w1))
  go_wp2_with (first
    | (refine wpList_load_mid rfl 31 (.tmp 1) rfl gb 0 rfl (ordL o T tc A n c) _ HRA.out Try.underlying31 rfl (by kernel_rfl) ?_; try simp only [Act.put, List.setIfInBounds_toArray, List.set_cons_zero, List.set_cons_succ])
    | fail)
  refine (o_put (o := o) HX.out).mono ?_
  rw [HR.out]
  rintro e w2 ⟨B, c2, rfl, hC2, hl2, hc2⟩
  have HC2 := Lib.hid hc2
  have HX2 := Lib.hid (Kd.chg HX.out hc2 (fun b _ => not_nob b))
  have HRB := Lib.hid (HRN.out w2 hc2)
  have HB2 := Lib.hid hC2
  obtain ⟨m, hm⟩ : ∃ m, R.1.length = m := ⟨_, rfl⟩
  have HM := Lib.hid hm
  rw [hm]
  clear hC2 hl2 hc2 hm HRA
  go_wp2_with (first
    | (refine wpList_load_mid rfl 31 (.tmp 1) rfl gb 0 rfl (ordL o T tc A n c) _ HRB.out Try.underlying31 rfl (by kernel_rfl) ?_; try simp only [Act.put, List.setIfInBounds_toArray, List.set_cons_zero, List.set_cons_succ])
    | fail)
  refine (r_put (o := o) HX2.out).mono ?_
  rw [HR.out]
  rintro e w3 ⟨B', c3, rfl, hC3, hl3, hc3⟩
  have HC3 := Lib.hid ((HC1.out.thenNew HC2.out).thenNew hc3)
  have hcv1 := conv_any (Kd.C_new HB2.out hc3) HM.out c2
  have hcv2 := conv_any hC3 HM.out c3
  rw [HM.out]
  clear hC3 hl3 hc3
  go_wp2_with fail
  refine (ord_works _).mono ?_
  rintro e w4 ⟨rfl, hc4⟩
  have HC4 := Lib.hid (HC3.out.thenNew hc4)
  clear hc4
  go_wp2
  go_ret
  exact ⟨rfl, HC4.out⟩
#print axioms orderPuts_walk
end Go.Proofs.Ythleagjnhpjhiaa

/- The law OrderPuts of what is read. -/
namespace Go.Proofs.Ythleagjnhpjhiaa
open Go.RowKit
theorem orderPuts_row {w : World} {o : Ord} {cs : Array Value} (h : ordK.K w (fun b => b < w.heap.size) o cs.toList) :
    Calls Try.prog 4 #[.agg cs] w fun e w' => e = .returned (.bool true) ∧ Chg nob w w' := orderPuts_walk h
end Go.Proofs.Ythleagjnhpjhiaa
