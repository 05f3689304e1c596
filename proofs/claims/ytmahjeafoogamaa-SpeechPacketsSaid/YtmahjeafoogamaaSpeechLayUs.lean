/- Messages: what a call of lay lays of updates. -/
import Derived.Test.YtmahjeafoogamaaSpeechLay
namespace Go.Proofs.Ytmahjeafoogamaa
open Go.RowKit
set_option linter.unusedVariables false
set_option linter.unusedSimpArgs false
theorem updB_len {u : Upd} (h : (0 ≤ u.1 ∧ u.1 < 8) ∧ (0 ≤ u.2.1 ∧ u.2.1 < 4294967296) ∧ (0 ≤ u.2.2 ∧ u.2.2 ≤ 3)) : (updB u).length ≤ 27 := by
  unfold updB
  have h1 := numB_len (n := u.1.toNat) (by omega)
  have h2 := numB_len (n := u.2.1.toNat) (by omega)
  have h3 := numB_len (n := u.2.2.toNat) (by omega)
  simp only [List.length_append]
  omega
theorem laid_C {w w' : World} {l : List UInt8} {A : Option Addr} {n c : Nat} (h : Laid w l (.returned (.slice A n c)) w') : Kd.byte.C w' (fun b => w.heap.size ≤ b) A l ∧ l.length = n ∧ n ≤ c ∧ Kd.byte.R 5 w' w.heap.size (fun b => w.heap.size ≤ b) (.slice A n c) l ∧ Chg nob w w' := by
  obtain ⟨v, he, hR, hc⟩ := h
  cases he
  obtain ⟨k1, k2, k3⟩ := Kd.R_read hR
  exact ⟨k1, k2, k3, hR, hc⟩
theorem laid_slice {w w' : World} {l : List UInt8} {e : Ending} (h : Laid w l e w') : ∃ A c, e = .returned (.slice A l.length c) ∧ Laid w l (.returned (.slice A l.length c)) w' := by
  obtain ⟨A, c, rfl, _, _, _⟩ := h.slice
  exact ⟨A, c, rfl, h⟩
theorem laid_up {w0 w w' : World} {l : List UInt8} {e : Ending} (h : Laid w l e w') (h0 : Chg nob w0 w) : Laid w0 l e w' := by
  obtain ⟨v, rfl, hR, hc⟩ := h
  exact Laid.of hR h0.size (h0.thenNew hc)
theorem laid_new {w w' w'' : World} {l : List UInt8} {e : Ending} (h : Laid w l e w') (hc : Chg nob w' w'') : Laid w l e w'' := by
  obtain ⟨v, rfl, hR, h0⟩ := h
  exact ⟨v, rfl, Kd.R_new hR hc, h0.thenNew hc⟩
set_option maxRecDepth 100000 in
set_option maxHeartbeats 1000000 in
theorem s_lay_us {w : World} {m : Ms} {ok okb : Nat → Prop} {B A : Option Addr} {n d mb cb : Nat} {bs : List UInt8} (hb : updK.C w ok B m.2.2.2.2.2) (hn : m.2.2.2.2.2.length = n) (hA : Kd.byte.C w okb A bs) (hm : bs.length = mb) (hmb : mb ≤ 1000000) (hin : inM m) :
    Calls Try.prog 24 #[.slice A mb cb, .agg (msV m B n d), .int .i64 4] w (Laid w (bs ++ fieldB m 4)) := by
  have hst := ms_start (n := n) (d := d) hb
  have hA1 := Kd.C_new hA ((Chg.refl nob w).alloc (.cells (msV m B n d) 25))
  have hcm := (Chg.refl nob w).alloc (.cells (msV m B n d) 25)
  have hrow := row6c hst.row
  obtain ⟨mv, hmv⟩ : ∃ mv, msV m B n d = mv := ⟨_, rfl⟩
  rw [hmv] at hst hrow hA1 hcm ⊢
  clear hmv
  obtain ⟨kd, sq, fr, tg, rp, us⟩ := m
  obtain ⟨_, _, _, hl16, hus⟩ := hin
  dsimp only at hl16 hus hn
  have HN := Lib.hid hn
  rw [hn] at hl16
  have HUS := Lib.hid hus
  have HM := Lib.hid hm
  have HA := Lib.hid hA1
  have HC := Lib.hid hcm
  have HST := Lib.hid hst
  obtain ⟨q0, q1, q2, q3, q4, q5⟩ := hrow
  have wn : IntKind.u64.wrap (n : Int) = (n : Int) := u64_same (by omega) (by omega)
  clear hst hb hA hm hA1 hcm hn hus
  go_enter Try.func24, Try.ntmps24
  go_wp2_with fail
  refine (field_num HA.out HM.out (by omega) _ (by omega) (by omega)).mono ?_
  intro e w3 hL
  obtain ⟨Y, y, rfl, hL2⟩ := laid_slice hL
  rw [Int.toNat_natCast] at hL2 ⊢
  obtain ⟨Z, hZ⟩ : ∃ Z, (bs ++ numB n).length = Z := ⟨_, rfl⟩
  rw [hZ] at hL2 ⊢
  have hZ2 : Z ≤ mb + 9 := by
    have := numB_len (n := n) (by omega)
    rw [← hZ, List.length_append, HM.out]
    omega
  have HS3 := Lib.hid (HST.out.new (laid_C hL2).2.2.2.2)
  have HL0 : Hid (Laid w (bs ++ numB n ++ updsB (us.take 0)) (.returned (.slice Y Z y)) w3) := by
    show Laid _ _ _ _
    rw [show us.take 0 = [] from rfl, show updsB [] = [] from rfl, List.append_nil]
    exact laid_up hL2 HC.out
  clear hL hL2 hZ q0 q1 q2 q3 q4 q5
  obtain ⟨q0, q1, q2, q3, q4, q5⟩ := row6c HS3.out.row
  go_wp2
  go_loopw [0, 46] (fun vb i wr => ∃ (k Z : Nat) (Y : Option Addr) (y : Nat), k ≤ n ∧ vb = .slice Y Z y ∧ i = .int .i64 k ∧ Z ≤ mb + 9 + 27 * k ∧ Hid (Laid w (bs ++ numB n ++ updsB (us.take k)) (.returned (.slice Y Z y)) wr) ∧ Hid (MsSt w w.heap.size (kd, sq, fr, tg, rp, us) ok B n d wr)) (fun _ i _ => n - (intOf i).toNat)
  case atStart => exact ⟨0, Z, Y, y, Nat.zero_le _, rfl, rfl, hZ2, HL0, HS3⟩
  case round =>
    obtain ⟨k, Z, Y, y, hk1, rfl, rfl, hZ, HL, HS⟩ := hrel
    clear q0 q1 q2 q3 q4 q5 HL0 HS3
    by_cases hlt : k < n
    · have b1 : (k : Int) < (n : Int) := by omega
      have b3 : (0 : Int) ≤ (k : Int) := by omega
      obtain ⟨u, hu⟩ : ∃ u, us[k]? = some u := ⟨_, List.getElem?_eq_getElem (by rw [HN.out]; exact hlt)⟩
      obtain ⟨ub, uo, rfl, _, c0, c1, c2⟩ := upd_at HS.out.us hu
      have HTK : Hid (us.take (k + 1) = us.take k ++ [u]) := by
        obtain ⟨hj, he⟩ := List.getElem?_eq_some_iff.1 hu
        show _ = _
        rw [List.take_succ_eq_append_getElem hj, he]
      have hun := HUS.out u (List.mem_of_getElem? hu)
      have HULEN := Lib.hid (updB_len hun)
      obtain ⟨⟨u0, u1⟩, ⟨u2, u3⟩, ⟨u4', u5'⟩⟩ := hun
      have x0 := u64_same u0 (by omega)
      have x1 := u64_same u2 u3
      have x2 := u64_same u4' (by omega)
      obtain ⟨ua, ui, ust⟩ := u
      dsimp only at u0 u1 u2 u3 u4' u5' x0 x1 x2 c0 c1 c2
      have X0 := Lib.hid x0
      have X1 := Lib.hid x1
      have X2 := Lib.hid x2
      have U := Lib.hid (And.intro (And.intro u0 u1) (And.intro (And.intro u2 u3) (And.intro u4' u5')))
      have hcA := (Chg.refl nob wr).alloc (.cells #[.int .i64 ua, .int .u32 ui, .int .i64 ust] 62)
      have HCA := Lib.hid hcA
      have HROW := Lib.hid (row3c (heap_alloc_new wr (.cells #[.int .i64 ua, .int .u32 ui, .int .i64 ust] 62)))
      have HL1 := Lib.hid (laid_new HL.out (hcA.drew))
      clear hu hcA x0 x1 x2 u0 u1 u2 u3 u4' u5' HL
      go_wp2
      refine wp_region_held_drew (S := fun wx => wx.cell? ⟨wr.heap.size, 0, none⟩ = some (.int .i64 ua) ∧ wx.cell? ⟨wr.heap.size, 1, none⟩ = some (.int .u32 ui) ∧ wx.cell? ⟨wr.heap.size, 2, none⟩ = some (.int .i64 ust)) (by kernel_rfl) (HROW.out) (fun hHeld => ?_)
      refine wpAnyH_take (i := 0) (v := ?_) pick0 (by kernel_rfl) (by kernel_rfl) (by kernel_rfl) (fun _ _ _ h => h) (Or.inl ⟨by rfl, ?_⟩) (by assumption) ?_
      rotate_left 1
      · (intro wx hSw; go_simp; try with_reducible rfl)
      try simp only [Act.put, List.setIfInBounds_toArray, List.set_cons_zero, List.set_cons_succ]
      refine wpAnyH_take (i := 1) (v := ?_) (pickS pick0) (by kernel_rfl) (by kernel_rfl) (by kernel_rfl) (fun _ _ _ h => h) (Or.inl ⟨by rfl, ?_⟩) (by assumption) ?_
      rotate_left 1
      · (intro wx hSw; go_simp; try with_reducible rfl)
      try simp only [Act.put, List.setIfInBounds_toArray, List.set_cons_zero, List.set_cons_succ]
      refine wpAnyH_take (i := 2) (v := ?_) (pickS (pickS pick0)) (by kernel_rfl) (by kernel_rfl) (by kernel_rfl) (fun _ _ _ h => h) (Or.inl ⟨by rfl, ?_⟩) (by assumption) ?_
      rotate_left 1
      · (intro wx hSw; have q := hSw.1; go_simp; try with_reducible rfl)
      try simp only [Act.put, List.setIfInBounds_toArray, List.set_cons_zero, List.set_cons_succ]
      refine wpAnyH_take (i := 3) (v := ?_) (pickS (pickS (pickS pick0))) (by kernel_rfl) (by kernel_rfl) (by kernel_rfl) (fun _ _ _ h => h) (Or.inl ⟨by rfl, ?_⟩) (by assumption) ?_
      rotate_left 1
      · (intro wx hSw; have xx := X0.out; go_simp; try with_reducible rfl)
      try simp only [Act.put, List.setIfInBounds_toArray, List.set_cons_zero, List.set_cons_succ]
      refine wpAnyH_take (i := 5) (v := ?_) (pickS (pickS (pickS (pickS (pickS pick0))))) (by kernel_rfl) (by kernel_rfl) (by kernel_rfl) (fun _ _ _ h => h) (Or.inl ⟨by rfl, ?_⟩) (by assumption) ?_
      rotate_left 1
      · (intro wx hSw; go_simp; try with_reducible rfl)
      try simp only [Act.put, List.setIfInBounds_toArray, List.set_cons_zero, List.set_cons_succ]
      refine wpAnyH_take (i := 6) (v := ?_) (pickS (pickS (pickS (pickS (pickS (pickS pick0)))))) (by kernel_rfl) (by kernel_rfl) (by kernel_rfl) (fun _ _ _ h => h) (Or.inl ⟨by rfl, ?_⟩) (by assumption) ?_
      rotate_left 1
      · (intro wx hSw; have q := hSw.2.1; go_simp; try with_reducible rfl)
      try simp only [Act.put, List.setIfInBounds_toArray, List.set_cons_zero, List.set_cons_succ]
      refine wpAnyH_take (i := 7) (v := ?_) (pickS (pickS (pickS (pickS (pickS (pickS (pickS pick0))))))) (by kernel_rfl) (by kernel_rfl) (by kernel_rfl) (fun _ _ _ h => h) (Or.inl ⟨by rfl, ?_⟩) (by assumption) ?_
      rotate_left 1
      · (intro wx hSw; have xx := X1.out; go_simp; try with_reducible rfl)
      try simp only [Act.put, List.setIfInBounds_toArray, List.set_cons_zero, List.set_cons_succ]
      refine wpAnyH_take (i := 9) (v := ?_) (pickS (pickS (pickS (pickS (pickS (pickS (pickS (pickS (pickS pick0))))))))) (by kernel_rfl) (by kernel_rfl) (by kernel_rfl) (fun _ _ _ h => h) (Or.inl ⟨by rfl, ?_⟩) (by assumption) ?_
      rotate_left 1
      · (intro wx hSw; go_simp; try with_reducible rfl)
      try simp only [Act.put, List.setIfInBounds_toArray, List.set_cons_zero, List.set_cons_succ]
      refine wpAnyH_take (i := 10) (v := ?_) (pickS (pickS (pickS (pickS (pickS (pickS (pickS (pickS (pickS (pickS pick0)))))))))) (by kernel_rfl) (by kernel_rfl) (by kernel_rfl) (fun _ _ _ h => h) (Or.inl ⟨by rfl, ?_⟩) (by assumption) ?_
      rotate_left 1
      · (intro wx hSw; have q := hSw.2.2; go_simp; try with_reducible rfl)
      try simp only [Act.put, List.setIfInBounds_toArray, List.set_cons_zero, List.set_cons_succ]
      refine wpAnyH_take (i := 11) (v := ?_) (pickS (pickS (pickS (pickS (pickS (pickS (pickS (pickS (pickS (pickS (pickS pick0))))))))))) (by kernel_rfl) (by kernel_rfl) (by kernel_rfl) (fun _ _ _ h => h) (Or.inl ⟨by rfl, ?_⟩) (by assumption) ?_
      rotate_left 1
      · (intro wx hSw; have xx := X2.out; go_simp; try with_reducible rfl)
      try simp only [Act.put, List.setIfInBounds_toArray, List.set_cons_zero, List.set_cons_succ]
      refine wpAnyH_ready (rs := [4]) (by kernel_rfl) (by simp) ?_
      refine AllReadyH.cons (pickS (pickS (pickS (pickS pick0)))) (fun K hK => ?_) AllReadyH.nil
      go_simp
      refine (field_num (laid_C HL1.out).1 (laid_C HL1.out).2.1 (by omega) _ U.out.1.1 (by have := U.out.1.2; omega)).mono ?_
      intro e w5 hL5
      obtain ⟨Y5, y5, rfl, hL5'⟩ := laid_slice hL5
      have HC5 := Lib.hid (laid_C hL5').2.2.2.2
      have hz5 := numB_len (n := ua.toNat) (by have := U.out.1; omega)
      obtain ⟨Z5, hZ5⟩ : ∃ Z5, (bs ++ numB n ++ updsB (us.take k) ++ numB ua.toNat).length = Z5 := ⟨_, rfl⟩
      have hZ5' : Z5 ≤ Z + 9 := by rw [← hZ5, List.length_append, (laid_C HL1.out).2.1]; omega
      rw [hZ5] at hL5' ⊢
      have HL5 := Lib.hid hL5'
      clear hL5 hL5' hZ5 hz5
      go_wp2_with fail
      refine hK.out _ _ (⟨HC5.out.cell hHeld.1 (not_nob _), HC5.out.cell hHeld.2.1 (not_nob _), HC5.out.cell hHeld.2.2 (not_nob _)⟩) (fun hHeld => ?_)
      clear hK K
      try simp only [Act.put, List.setIfInBounds_toArray, List.set_cons_zero, List.set_cons_succ]
      refine wpAnyH_ready (rs := [8]) (by kernel_rfl) (by simp) ?_
      refine AllReadyH.cons (pickS (pickS (pickS (pickS (pickS (pickS (pickS (pickS pick0)))))))) (fun K hK => ?_) AllReadyH.nil
      go_simp
      refine (field_num (laid_C HL5.out).1 (laid_C HL5.out).2.1 (by omega) _ U.out.2.1.1 (by have := U.out.2.1.2; omega)).mono ?_
      intro e w6 hL6
      obtain ⟨Y6, y6, rfl, hL6'⟩ := laid_slice hL6
      have HC6 := Lib.hid (laid_C hL6').2.2.2.2
      have hz6 := numB_len (n := ui.toNat) (by have := U.out.2.1; omega)
      obtain ⟨Z6, hZ6⟩ : ∃ Z6, (bs ++ numB n ++ updsB (us.take k) ++ numB ua.toNat ++ numB ui.toNat).length = Z6 := ⟨_, rfl⟩
      have hZ6' : Z6 ≤ Z5 + 9 := by rw [← hZ6, List.length_append, (laid_C HL5.out).2.1]; omega
      rw [hZ6] at hL6' ⊢
      have HL6 := Lib.hid hL6'
      clear hL6 hL6' hZ6 hz6
      go_wp2_with fail
      refine hK.out _ _ (⟨HC6.out.cell hHeld.1 (not_nob _), HC6.out.cell hHeld.2.1 (not_nob _), HC6.out.cell hHeld.2.2 (not_nob _)⟩) (fun hHeld => ?_)
      clear hK K
      try simp only [Act.put, List.setIfInBounds_toArray, List.set_cons_zero, List.set_cons_succ]
      refine wpAnyH_ready (rs := [12]) (by kernel_rfl) (by simp) ?_
      refine AllReadyH.cons (pickS (pickS (pickS (pickS (pickS (pickS (pickS (pickS (pickS (pickS (pickS (pickS pick0)))))))))))) (fun K hK => ?_) AllReadyH.nil
      go_simp
      refine (field_num (laid_C HL6.out).1 (laid_C HL6.out).2.1 (by omega) _ U.out.2.2.1 (by have := U.out.2.2.2; omega)).mono ?_
      intro e w7 hL7
      obtain ⟨Y7, y7, rfl, hL7'⟩ := laid_slice hL7
      have HC7 := Lib.hid (laid_C hL7').2.2.2.2
      have hz7 := numB_len (n := ust.toNat) (by have := U.out.2.2; omega)
      obtain ⟨Z7, hZ7⟩ : ∃ Z7, (bs ++ numB n ++ updsB (us.take k) ++ numB ua.toNat ++ numB ui.toNat ++ numB ust.toNat).length = Z7 := ⟨_, rfl⟩
      have hZ7' : Z7 ≤ Z6 + 9 := by rw [← hZ7, List.length_append, (laid_C HL6.out).2.1]; omega
      rw [hZ7] at hL7' ⊢
      have HL7 := Lib.hid hL7'
      clear hL7 hL7' hZ7 hz7
      go_wp2_with fail
      refine hK.out _ _ (⟨HC7.out.cell hHeld.1 (not_nob _), HC7.out.cell hHeld.2.1 (not_nob _), HC7.out.cell hHeld.2.2 (not_nob _)⟩) (fun hHeld => ?_)
      clear hK K
      try simp only [Act.put, List.setIfInBounds_toArray, List.set_cons_zero, List.set_cons_succ]
      refine wpAnyH_take (i := 13) (v := ?_) (pickS (pickS (pickS (pickS (pickS (pickS (pickS (pickS (pickS (pickS (pickS (pickS (pickS pick0))))))))))))) (by kernel_rfl) (by kernel_rfl) (by kernel_rfl) (fun _ _ _ h => h) (Or.inl ⟨by rfl, ?_⟩) (by assumption) ?_
      rotate_left 1
      · (intro wx hSw; go_simp; try with_reducible rfl)
      try simp only [Act.put, List.setIfInBounds_toArray, List.set_cons_zero, List.set_cons_succ]
      refine wpAnyH_done (by kernel_rfl) ?_ _
      have HCT : Hid (Chg nob wr w7) := (((HCA.out.drew).thenNew HC5.out).thenNew HC6.out).thenNew HC7.out
      have HLN : Hid (Laid w (bs ++ numB n ++ updsB (us.take (k + 1))) (.returned (.slice Y7 Z7 y7)) w7) := by
        show Laid _ _ _ _
        have h1 : bs ++ numB n ++ updsB (us.take (k + 1)) = bs ++ numB n ++ updsB (us.take k) ++ numB ua.toNat ++ numB ui.toNat ++ numB ust.toNat := by
          rw [HTK.out, updsB_snoc, updB]
          simp only [List.append_assoc]
        rw [h1]
        exact laid_up HL7.out (HS.out.chg.thenNew (((HCA.out.drew).thenNew HC5.out).thenNew HC6.out))
      have HSN := Lib.hid (HS.out.new HCT.out)
      go_wp2
      exact ⟨⟨k + 1, Z7, Y7, y7, by omega, rfl, by go_num, by omega, HLN, HSN⟩, by simp [intOf]; omega⟩
    · obtain rfl : k = n := by omega
      have b1 : ¬ (k : Int) < (k : Int) := by omega
      have HF : Hid (Laid w (bs ++ fieldB (kd, sq, fr, tg, rp, us) 4) (.returned (.slice Y Z y)) wr) := by
        show Laid _ _ _ _
        have := HL.out
        rw [show us.take k = us from by rw [← HN.out, List.take_length], List.append_assoc] at this
        rw [show fieldB (kd, sq, fr, tg, rp, us) 4 = numB us.length ++ updsB us from rfl, HN.out]
        exact this
      go_wp2
      go_ret
      exact HF.out
end Go.Proofs.Ytmahjeafoogamaa
