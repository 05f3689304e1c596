import Derived.Test.YthleagjnhpjhiaaFold16
import Derived.Test.YthleagjnhpjhiaaFold17
/- Orders: the program's Put. -/
namespace Go.Proofs.Ythleagjnhpjhiaa
open Go.RowKit
set_option linter.unusedVariables false
set_option linter.unusedSimpArgs false
set_option maxRecDepth 100000
/-- An order: whose, its number, the command. -/
abbrev Ord := Int × Int × Cmd
abbrev ordK : Kd Ord := Kd.pair (intW .i64) (Kd.pair (intW .u32) comK)
def ordL (o : Ord) (T : Option Addr) (tc : Nat) (A : Option Addr) (n c : Nat) : List Value := .int .i64 o.1 :: .int .u32 o.2.1 :: cmL o.2.2 T tc (.slice A n c)
theorem ord_list {w : World} {ok : Nat → Prop} {o : Ord} {cs : List Value} (h : ordK.K w ok o cs) : ∃ T tc A n c, cs = ordL o T tc A n c ∧ comK.K w ok o.2.2 (cmL o.2.2 T tc (.slice A n c)) ∧ (-9223372036854775808 ≤ o.1 ∧ o.1 ≤ 9223372036854775807) ∧ (0 ≤ o.2.1 ∧ o.2.1 < 4294967296) := by
  obtain ⟨c0, _, e, ⟨h0, w0⟩, c1, c2, rfl, ⟨h1, w1⟩, h2⟩ := h
  have e0 : c0 = [.int .i64 o.1] := h0
  have e1 : c1 = [.int .u32 o.2.1] := h1
  subst e0 e1
  obtain ⟨T, tc, A, n, c, rfl⟩ := cm_list subs_sub h2
  exact ⟨T, tc, A, n, c, e, h2, wf_i64 w0, wf_u32 w1⟩
def cliOk (c : Int) : Bool := decide (0 ≤ c) && decide (c ≤ 15)
/-- What Put answers: the bytes, the error. -/
def putE (o : Ord) : List UInt8 × Nat := if rightB o.2.2 && cliOk o.1 then (numB o.1.toNat ++ numB o.2.1.toNat ++ layB o.2.2, 0) else ([], 2)
def BytesE (w : World) (R : List UInt8 × Nat) (e : Ending) (w' : World) : Prop := ∃ A c, e = .returned (.tuple #[.slice A R.1.length c, .int .i64 R.2]) ∧ Kd.byte.C w' (fun b => w.heap.size ≤ b) A R.1 ∧ R.1.length ≤ c ∧ Chg nob w w'
theorem bytesE_no (w w' : World) (n : Nat) (hc : Chg nob w w') : BytesE w ([], n) (.returned (.tuple #[.slice none 0 0, .int .i64 n])) w' := ⟨none, 0, rfl, Kd.C_nil _ _ _ _, Nat.le_refl _, hc⟩
set_option maxHeartbeats 4000000 in
theorem o_put {w : World} {ok : Nat → Prop} {o : Ord} {cs : Array Value} (hx : ordK.K w ok o cs.toList) : Calls Try.prog 11 #[.agg cs] w (BytesE w (putE o)) := by
  obtain ⟨T, tc, A, n, c, hcs, hK, hc1, hs1⟩ := ord_list hx
  have hcs' : cs = (ordL o T tc A n c).toArray := Array.toList_inj.1 hcs
  subst hcs'
  obtain ⟨cl, hcl⟩ : ∃ cl, o.1 = cl := ⟨_, rfl⟩
  obtain ⟨sq, hsq⟩ : ∃ sq, o.2.1 = sq := ⟨_, rfl⟩
  obtain ⟨x, hxx⟩ : ∃ x, o.2.2 = x := ⟨_, rfl⟩
  have hpe : putE o = if rightB x && cliOk cl then (numB cl.toNat ++ numB sq.toNat ++ layB x, 0) else ([], 2) := by unfold putE; rw [hcl, hsq, hxx]
  obtain ⟨R, hR⟩ : ∃ R, putE o = R := ⟨_, rfl⟩
  rw [hR] at hpe ⊢
  have HYES : Hid (rightB x = true → cliOk cl = true → R = (numB cl.toNat ++ numB sq.toNat ++ layB x, 0)) := fun h k => by rw [hpe, h, k]; rfl
  have HNO : Hid ((rightB x && cliOk cl) = false → R = ([], 2)) := fun h => by rw [hpe, h]; rfl
  rw [hcl] at hc1
  rw [hsq] at hs1
  rw [hxx] at hK
  obtain ⟨w1, hw1⟩ : ∃ w1, w.alloc (.cells (ordL o T tc A n c).toArray 31) = w1 := ⟨_, rfl⟩
  have hb1 := heap_alloc_new w (.cells (ordL o T tc A n c).toArray 31)
  have h1 : Chg nob w w1 := by rw [← hw1]; exact (Chg.refl nob w).alloc _
  obtain ⟨gb, hgb⟩ : ∃ gb, w.heap.size = gb := ⟨_, rfl⟩
  rw [hw1, hgb] at hb1
  have HROW := Lib.hid hb1
  have HCELL : Hid (w1.cell? ⟨gb, 0, none⟩ = some (.int .i64 cl) ∧ w1.cell? ⟨gb, 1, none⟩ = some (.int .u32 sq)) := ⟨by rw [cell_of_row _ _ _ _ _ _ hb1, ← hcl]; rfl, by rw [cell_of_row _ _ _ _ _ _ hb1, ← hsq]; rfl⟩
  have HRNG : Hid (w1.rangeAt gb 2 (cmL x T tc (.slice A n c))) := by
    have := rng_part (rng_row hb1) 2 17
    rw [← hxx]
    exact this
  have HC1 := Lib.hid h1
  have HW1 := Lib.hid hw1
  have HK := Lib.hid (Kd.chg hK h1 (fun b _ => not_nob b))
  obtain ⟨V, hV⟩ : ∃ V, (ordL o T tc A n c).toArray = V := ⟨_, rfl⟩
  rw [hV] at HW1 ⊢
  clear hb1 h1 hw1 hK hx hV hcs hcl hsq hxx hpe hR
  go_enter Try.func11, Try.ntmps11
  go_upto_region 1 with fail
  rw [HW1.out]
  go_wp2_with (first
    | (refine wpList_load_mid rfl 26 (.tmp 4) rfl gb 2 rfl (cmL x T tc (.slice A n c)) _ HRNG.out Try.underlying26 rfl (by kernel_rfl) ?_; try simp only [Act.put, List.setIfInBounds_toArray, List.set_cons_zero, List.set_cons_succ])
    | fail)
  refine (o_right (x := x) HK.out).mono ?_
  rintro e w2 ⟨rfl, hc2⟩
  have HC12 := Lib.hid hc2
  have HC2 := Lib.hid (HC1.out.thenNew hc2)
  have HK2 := Lib.hid (Kd.chg HK.out hc2 (fun b _ => not_nob b))
  obtain ⟨rb, hrb⟩ : ∃ rb, rightB x = rb := ⟨_, rfl⟩
  rw [hrb]
  have HRB := Lib.hid hrb
  clear hc2 hrb
  cases rb with
  | false =>
    go_wp2
    go_ret2
    rw [HNO.out (by rw [HRB.out]; rfl)]
    exact bytesE_no _ _ 2 HC2.out
  | true =>
    have x0 := HC12.out.cell HCELL.out.1 (not_nob _)
    by_cases h0 : 0 ≤ cl
    · by_cases h15 : cl ≤ 15
      · have a1 : ¬ cl < 0 := by omega
        have a2 : ¬ cl > 15 := by omega
        have HRE := Lib.hid (HYES.out HRB.out (by unfold cliOk; rw [decide_eq_true h0, decide_eq_true h15]; rfl))
        go_upto_region 3 with fail
        have HUP : Hid (∀ wx, Chg nob w2 wx → wx.cell? ⟨gb, 0, none⟩ = some (.int .i64 cl) ∧ wx.cell? ⟨gb, 1, none⟩ = some (.int .u32 sq) ∧ wx.rangeAt gb 2 (cmL x T tc (.slice A n c))) := fun wx hc => ⟨(HC12.out.thenNew hc).cell HCELL.out.1 (not_nob _), (HC12.out.thenNew hc).cell HCELL.out.2 (not_nob _), rng_chg HRNG.out (HC12.out.thenNew hc) (not_nob _)⟩
        have hwc : IntKind.u64.wrap cl = cl := by rw [IntKind.wrap_u64]; omega
        have hws : IntKind.u64.wrap sq = sq := by rw [IntKind.wrap_u64]; omega
        refine wp_region_held_drew (S := fun wx => Chg nob w2 wx) (by kernel_rfl) (((Chg.refl nob w2).drew)) (fun hHeld => ?_)
        refine wpAnyH_take (i := 0) (v := ?_) pick0 (by kernel_rfl) (by kernel_rfl) (by kernel_rfl) (fun _ _ _ h => h) (Or.inl ⟨by rfl, ?_⟩) (by assumption) ?_
        rotate_left 1
        · (intro wx hSw; go_simp; try with_reducible rfl)
        try simp only [Act.put, List.setIfInBounds_toArray, List.set_cons_zero, List.set_cons_succ]
        refine wpAnyH_take (i := 1) (v := ?_) (pickS pick0) (by kernel_rfl) (by kernel_rfl) (by kernel_rfl) (fun _ _ _ h => h) (Or.inl ⟨by rfl, ?_⟩) (by assumption) ?_
        rotate_left 1
        · (intro wx hSw; have e0 := (HUP.out _ hSw).1; go_simp; try with_reducible rfl)
        try simp only [Act.put, List.setIfInBounds_toArray, List.set_cons_zero, List.set_cons_succ]
        refine wpAnyH_take (i := 2) (v := ?_) (pickS (pickS pick0)) (by kernel_rfl) (by kernel_rfl) (by kernel_rfl) (fun _ _ _ h => h) (Or.inl ⟨by rfl, ?_⟩) (by assumption) ?_
        rotate_left 1
        · (intro wx hSw; go_simp; try with_reducible rfl)
        try simp only [Act.put, List.setIfInBounds_toArray, List.set_cons_zero, List.set_cons_succ]
        refine wpAnyH_take (i := 4) (v := ?_) (pickS (pickS (pickS (pickS pick0)))) (by kernel_rfl) (by kernel_rfl) (by kernel_rfl) (fun _ _ _ h => h) (Or.inl ⟨by rfl, ?_⟩) (by assumption) ?_
        rotate_left 1
        · (intro wx hSw; go_simp; try with_reducible rfl)
        try simp only [Act.put, List.setIfInBounds_toArray, List.set_cons_zero, List.set_cons_succ]
        refine wpAnyH_take (i := 5) (v := ?_) (pickS (pickS (pickS (pickS (pickS pick0))))) (by kernel_rfl) (by kernel_rfl) (by kernel_rfl) (fun _ _ _ h => h) (Or.inl ⟨by rfl, ?_⟩) (by assumption) ?_
        rotate_left 1
        · (intro wx hSw; have e0 := (HUP.out _ hSw).2.1; go_simp; try with_reducible rfl)
        try simp only [Act.put, List.setIfInBounds_toArray, List.set_cons_zero, List.set_cons_succ]
        refine wpAnyH_take (i := 6) (v := ?_) (pickS (pickS (pickS (pickS (pickS (pickS pick0)))))) (by kernel_rfl) (by kernel_rfl) (by kernel_rfl) (fun _ _ _ h => h) (Or.inl ⟨by rfl, ?_⟩) (by assumption) ?_
        rotate_left 1
        · (intro wx hSw; go_simp; try with_reducible rfl)
        try simp only [Act.put, List.setIfInBounds_toArray, List.set_cons_zero, List.set_cons_succ]
        refine wpAnyH_take (i := 8) (v := ?_) (pickS (pickS (pickS (pickS (pickS (pickS (pickS (pickS pick0)))))))) (by kernel_rfl) (by kernel_rfl) (by kernel_rfl) (fun _ _ _ h => h) (Or.inl ⟨by rfl, ?_⟩) (by assumption) ?_
        rotate_left 1
        · (intro wx hSw; go_simp; try with_reducible rfl)
        try simp only [Act.put, List.setIfInBounds_toArray, List.set_cons_zero, List.set_cons_succ]
        refine wpAnyH_take (i := 9) (v := ?_) (pickS (pickS (pickS (pickS (pickS (pickS (pickS (pickS (pickS pick0))))))))) (by kernel_rfl) (by kernel_rfl) (by kernel_rfl) (fun _ _ _ h => h) (Or.inl ⟨by rfl, ?_⟩) (by assumption) ?_
        rotate_left 1
        · (intro wx hSw; obtain ⟨e0, e1, e2, e3, e4, e5, e6, e7, e8, e9, e10, e11, e12, e13, e14, e15, e16⟩ := rng17 (HUP.out _ hSw).2.2; go_simp; try with_reducible rfl)
        try simp only [Act.put, List.setIfInBounds_toArray, List.set_cons_zero, List.set_cons_succ]
        refine wpAnyH_ready (rs := [3]) (by kernel_rfl) (by simp) ?_
        refine AllReadyH.cons (pickS (pickS (pickS pick0))) (fun K hK => ?_) AllReadyH.nil
        go_simp
        refine (field_num (ok := nob) (A := none) (c := 0) (bs := []) (Kd.C_nil _ _ _ _) rfl (by simp) cl h0 (by omega)).mono ?_
        intro e w3 hL
        obtain ⟨B3, c3, rfl, hR3, hc3⟩ := RowB.of hL (HC2.out.thenNew hHeld)
        have HC3 : Hid (Chg nob w2 w3) := hHeld.thenNew hc3
        rw [List.nil_append] at hR3 ⊢
        obtain ⟨m3, hm3⟩ : ∃ m3, (numB cl.toNat).length = m3 := ⟨_, rfl⟩
        rw [hm3] at hR3 ⊢
        have HM3 := Lib.hid hm3
        have HR3 := Lib.hid (Kd.R_read hR3)
        have hl3 := numB_len (n := cl.toNat) (by omega)
        clear hm3 hR3 hc3 hL
        go_wp2_with fail
        refine hK.out _ _ (HC3.out) (fun hHeld => ?_)
        clear hK K
        try simp only [Act.put, List.setIfInBounds_toArray, List.set_cons_zero, List.set_cons_succ]
        refine wpAnyH_ready (rs := [7]) (by kernel_rfl) (by simp) ?_
        refine AllReadyH.cons (pickS (pickS (pickS (pickS (pickS (pickS (pickS pick0))))))) (fun K hK => ?_) AllReadyH.nil
        go_simp
        refine (field_num (c := c3) HR3.out.1 HM3.out (by have := HM3.out; omega) sq hs1.1 (by omega)).mono ?_
        intro e w4 hL
        obtain ⟨B4, c4, rfl, hR4, hc4⟩ := RowB.of hL (HC2.out.thenNew HC3.out)
        have HC4 : Hid (Chg nob w2 w4) := HC3.out.thenNew hc4
        obtain ⟨m4, hm4⟩ : ∃ m4, (numB cl.toNat ++ numB sq.toNat).length = m4 := ⟨_, rfl⟩
        rw [hm4] at hR4 ⊢
        have HM4 := Lib.hid hm4
        have HR4 := Lib.hid (Kd.R_read hR4)
        have hl4 := numB_len (n := sq.toNat) (by omega)
        have hl5 : m4 ≤ 18 := by rw [← hm4, List.length_append]; omega
        clear hm4 hR4 hc4 hL
        go_wp2_with fail
        refine hK.out _ _ (HC4.out) (fun hHeld => ?_)
        clear hK K
        try simp only [Act.put, List.setIfInBounds_toArray, List.set_cons_zero, List.set_cons_succ]
        refine wpAnyH_ready (rs := [10]) (by kernel_rfl) (by simp) ?_
        refine AllReadyH.cons (pickS (pickS (pickS (pickS (pickS (pickS (pickS (pickS (pickS (pickS pick0)))))))))) (fun K hK => ?_) AllReadyH.nil
        go_simp
        refine (o_lay (x := x) (cc := c4) (Kd.chg HK2.out HC4.out (fun b _ => not_nob b)) HRB.out HR4.out.1 HM4.out (by omega)).mono ?_
        intro e w5 hL
        obtain ⟨B5, c5, rfl, hR5, hc5⟩ := RowB.of hL (HC2.out.thenNew HC4.out)
        have HC5 : Hid (Chg nob w2 w5) := HC4.out.thenNew hc5
        obtain ⟨m5, hm5⟩ : ∃ m5, (numB cl.toNat ++ numB sq.toNat ++ layB x).length = m5 := ⟨_, rfl⟩
        rw [hm5] at hR5 ⊢
        have HM5 := Lib.hid hm5
        have HR5 := Lib.hid (Kd.R_read hR5)
        clear hR5 hc5 hL hm5
        go_wp2_with fail
        refine hK.out _ _ (HC5.out) (fun hHeld => ?_)
        clear hK K
        try simp only [Act.put, List.setIfInBounds_toArray, List.set_cons_zero, List.set_cons_succ]
        refine wpAnyH_take (i := 11) (v := ?_) (pickS (pickS (pickS (pickS (pickS (pickS (pickS (pickS (pickS (pickS (pickS pick0))))))))))) (by kernel_rfl) (by kernel_rfl) (by kernel_rfl) (fun _ _ _ h => h) (Or.inl ⟨by rfl, ?_⟩) (by assumption) ?_
        rotate_left 1
        · (intro wx hSw; go_simp; try with_reducible rfl)
        try simp only [Act.put, List.setIfInBounds_toArray, List.set_cons_zero, List.set_cons_succ]
        refine wpAnyH_take (i := 12) (v := ?_) (pickS (pickS (pickS (pickS (pickS (pickS (pickS (pickS (pickS (pickS (pickS (pickS pick0)))))))))))) (by kernel_rfl) (by kernel_rfl) (by kernel_rfl) (fun _ _ _ h => h) (Or.inl ⟨by rfl, ?_⟩) (by assumption) ?_
        rotate_left 1
        · (intro wx hSw; go_simp; try with_reducible rfl)
        try simp only [Act.put, List.setIfInBounds_toArray, List.set_cons_zero, List.set_cons_succ]
        refine wpAnyH_done (by kernel_rfl) ?_ _
        have HCE := Lib.hid (HC2.out.thenNew HC5.out)
        go_wp2
        go_ret2
        rw [HRE.out]
        refine ⟨B5, c5, ?_, HR5.out.1, ?_, HCE.out⟩
        · show _ = Ending.returned (.tuple #[.slice B5 (numB cl.toNat ++ numB sq.toNat ++ layB x).length c5, .int .i64 0])
          rw [HM5.out]
          rfl
        · show (numB cl.toNat ++ numB sq.toNat ++ layB x).length ≤ c5
          rw [HM5.out]
          exact HR5.out.2.2
      · have a1 : ¬ cl < 0 := by omega
        have a2 : cl > 15 := by omega
        have HRE := Lib.hid (HNO.out (by unfold cliOk; rw [decide_eq_false h15, Bool.and_false, Bool.and_false]))
        go_wp2
        go_ret2
        rw [HRE.out]
        exact bytesE_no _ _ 2 HC2.out
    · have a1 : cl < 0 := by omega
      have HRE := Lib.hid (HNO.out (by unfold cliOk; rw [decide_eq_false h0, Bool.false_and, Bool.and_false]))
      go_wp2
      go_ret2
      rw [HRE.out]
      exact bytesE_no _ _ 2 HC2.out
#print axioms o_put
end Go.Proofs.Ythleagjnhpjhiaa
