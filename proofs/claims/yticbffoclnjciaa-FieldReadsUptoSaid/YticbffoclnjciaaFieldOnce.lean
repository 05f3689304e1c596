/- The law FieldOnce: the walk. -/
import Derived.Test.YticbffoclnjciaaReadBack
namespace Go.Proofs.Yticbffoclnjciaa
open Go.RowKit
set_option linter.unusedVariables false
theorem rNum_stick {st : Bool} {bs : List UInt8} {e most : Nat} (h : (rNum st bs e most).2.2 = 0) : e = 0 := by
  unfold rNum at h
  split at h
  · rename_i h1; exact h1.2
  · exact h
theorem rText_stick {st : Bool} {bs : List UInt8} {e : Nat} {most : Int} (h : (rText st bs e most).2.2 = 0) : e = 0 := by
  unfold rText at h
  split at h
  · rename_i h1; exact h1.2
  · exact h
theorem rFlag_stick {st : Bool} {bs : List UInt8} {e : Nat} (h : (rFlag st bs e).2.2 = 0) : e = 0 := by
  unfold rFlag at h
  split at h
  · rename_i h1; exact h1.2
  · exact h
theorem rList_stick {α : Type} {f : List UInt8 → Nat → α × List UInt8 × Nat} {st : Bool} {bs : List UInt8} {e : Nat} {many : Int} (h : (rList f st bs e many).2.2 = 0) : e = 0 := by
  unfold rList at h
  split at h
  · rename_i h1; exact h1.2
  · exact h
theorem rFlag_rest (st : Bool) (bs : List UInt8) (e : Nat) : Rest bs (rFlag st bs e).2.1 := by
  unfold rFlag
  split
  · split
    · exact ⟨_, rfl⟩
    · exact .refl _
  · exact .refl _
theorem rList_rest {α : Type} {f : List UInt8 → Nat → α × List UInt8 × Nat} (hf : ∀ bs e, Rest bs (f bs e).2.1) (st : Bool) (bs : List UInt8) (e : Nat) (many : Int) : Rest bs (rList f st bs e many).2.1 := by
  unfold rList
  split
  · simp only
    have h1 := rNum_rest true bs 0 (max many 0).toNat
    have h2 := rItems_rest hf (rNum true bs 0 (max many 0).toNat).1 (rNum true bs 0 (max many 0).toNat).2.1 (rNum true bs 0 (max many 0).toNat).2.2
    split
    · exact h1.trans h2
    · exact h1.trans h2
  · exact .refl _
theorem rItems_nums (most : Nat) : ∀ (n : Nat) (bs : List UInt8) (e : Nat), ∀ x ∈ (rItems (rU most) n bs e).1, 0 ≤ x ∧ x < 18446744073709551616
  | 0, bs, e => by simp [rItems]
  | n + 1, bs, e => by
    unfold rItems
    split
    · intro x hx
      rcases List.mem_cons.1 hx with rfl | hx
      · have := rNum_lt true bs e most
        unfold rU
        simp only
        omega
      · exact rItems_nums most n _ _ x hx
    · simp
theorem rList_nums (most : Nat) (st : Bool) (bs : List UInt8) (e : Nat) (many : Int) : ∀ x ∈ (rList (rU most) st bs e many).1, 0 ≤ x ∧ x < 18446744073709551616 := by
  unfold rList
  split
  · simp only
    split
    · exact rItems_nums most _ _ _
    · simp
  · simp
/-- Any bytes that are read whole are these. -/
theorem once_plain {bs : List UInt8} {n : Nat} {s : ByteArray} {fl : Bool} {l : List ByteArray} {m : List Int} {b1 b2 b3 b4 b5 : List UInt8} {e1 e2 e3 e4 e5 m0 m5 : Nat} {m1 m2 m3 m4 : Int}
    (h1 : rNum true bs 0 m0 = (n, b1, e1)) (h2 : rText true b1 e1 m1 = (s, b2, e2)) (h3 : rFlag true b2 e2 = (fl, b3, e3)) (h4 : rList (rT m2) true b3 e3 m3 = (l, b4, e4)) (h5 : rList (rU m5) true b4 e4 m4 = (m, b5, e5)) (hd : rDone b5 e5 = 0) :
    bs = numB n ++ (txtB s ++ (numB (if fl then 1 else 0) ++ (listB txtB l ++ listB numX m))) ∧ s.size ≤ bs.length := by
  have z5 : e5 = 0 ∧ b5 = [] := by
    unfold rDone at hd
    split at hd
    · rename_i h; exact absurd hd h
    · rename_i h
      split at hd
      · cases hd
      · rename_i h6
        exact ⟨by omega, List.eq_nil_of_length_eq_zero (by omega)⟩
  obtain ⟨rfl, rfl⟩ := z5
  have z4 : e4 = 0 := rList_stick (f := rU m5) (st := true) (bs := b4) (e := e4) (many := m4) (by rw [h5])
  subst z4
  have z3 : e3 = 0 := rList_stick (f := rT m2) (st := true) (bs := b3) (e := e3) (many := m3) (by rw [h4])
  subst z3
  have z2 : e2 = 0 := rFlag_stick (st := true) (bs := b2) (e := e2) (by rw [h3])
  subst z2
  have z1 : e1 = 0 := rText_stick (st := true) (bs := b1) (e := e1) (most := m1) (by rw [h2])
  subst z1
  have k5 := rList_bwd (fun bs x bs' h => rU_bwd bs x bs' h) h5
  have k4 := rList_bwd (fun bs x bs' h => rT_bwd bs x bs' h) h4
  have k3 := rFlag_bwd h3
  obtain ⟨k2, k2'⟩ := rText_bwd h2
  obtain ⟨k1, _⟩ := rNum_bwd h1
  rw [List.append_nil] at k5
  subst k5 k4 k3 k2 k1
  refine ⟨rfl, ?_⟩
  simp only [List.length_append] at k2' ⊢
  omega
set_option maxRecDepth 100000 in
set_option maxHeartbeats 4000000 in
theorem fieldOnce_walk {w : World} {A : Option Addr} {m c : Nat} {bs : List UInt8} (hb : Kd.byte.C w (fun b => b < w.heap.size) A bs) (hm : bs.length = m) (hm2 : m ≤ 100000000) :
    Calls Try.prog 7 #[.slice A m c] w fun e w' => e = .returned (.bool true) ∧ Chg nob w w' := by
  have HB := Lib.hid hb
  have HM := Lib.hid hm
  clear hb hm
  go_enter Try.func7, Try.ntmps7
  go_wp2_with fail
  refine (rd_read HB.out HM.out (by omega)).mono ?_
  rintro x w1 ⟨g, rfl, hA1, hC1⟩
  have hg : w.heap.size ≤ g := hA1.1
  have HI1 : Hid (IsRd w1 (fun b => w.heap.size ≤ b) (some ⟨g, 0, none⟩) true bs 0) := .inl ⟨g, rfl, hA1⟩
  have hg1 := hA1.lt
  have hag : ∀ k, At (some ⟨g, 0, none⟩) k → k = g := fun k hk => by cases hk; rfl
  have hnew : ∀ {wa wb : World}, Chg nob w wa → Chg (At (some ⟨g, 0, none⟩)) wa wb → Chg nob w wb := fun h1 h2 => h1.trans h2 (fun k hk => .inr (by rw [hag k hk]; exact hg))
  clear hA1
  go_wp2_with fail
  refine (rd_num HI1.out 18446744073709551615 (by omega)).mono ?_
  rintro x w2 ⟨rfl, hI2, hc2⟩
  have hlt := rNum_lt true bs 0 18446744073709551615
  have r1 := (rNum_rest true bs 0 18446744073709551615).len
  obtain ⟨n, b1, e1, hr1⟩ : ∃ n b1 e1, rNum true bs 0 18446744073709551615 = (n, b1, e1) := ⟨_, _, _, rfl⟩
  rw [hr1] at hI2 hlt r1 ⊢
  simp only at hI2 hlt r1 ⊢
  have HR1 := Lib.hid hr1
  have HI2 := Lib.hid hI2
  have C2 := hnew hC1 hc2
  have hs2 := hc2.size
  clear hI2 hr1 HI1 hC1 hc2
  go_wp2_with fail
  refine (rd_text HI2.out 1099511627776 (by omega) (by omega)).mono ?_
  rintro x w3 ⟨rfl, hI3, hc3⟩
  have r2 := (rText_rest true b1 e1 1099511627776).len
  obtain ⟨s, b2, e2, hr2⟩ : ∃ n b1' e1', rText true b1 e1 1099511627776 = (n, b1', e1') := ⟨_, _, _, rfl⟩
  rw [hr2] at hI3 r2 ⊢
  simp only at hI3 r2 ⊢
  have HR2 := Lib.hid hr2
  have HI3 := Lib.hid hI3
  have C3 := hnew C2 hc3
  have hs3 := hc3.size
  clear hI3 hr2 HI2 C2 hc3
  go_wp2_with fail
  refine (rd_flag HI3.out).mono ?_
  rintro x w4 ⟨rfl, hI4, hc4⟩
  have r3 := (rFlag_rest true b2 e2).len
  obtain ⟨fl, b3, e3, hr3⟩ : ∃ n b1' e1', rFlag true b2 e2 = (n, b1', e1') := ⟨_, _, _, rfl⟩
  rw [hr3] at hI4 r3 ⊢
  simp only at hI4 r3 ⊢
  have HR3 := Lib.hid hr3
  have HI4 := Lib.hid hI4
  have C4 := hnew C3 hc4
  have hs4 := hc4.size
  clear hI4 hr3 HI3 C3 hc4
  go_wp2_with fail
  refine (rd_texts HI4.out 1099511627776 (by omega) (by omega) 1099511627776 (by omega) (by omega) (by have := HM.out; omega)).mono ?_
  rintro x w5 ⟨L, cl, rfl, hll, hL, hI5, hc5⟩
  have r4 := (rList_rest (rT_rest 1099511627776) true b3 e3 1099511627776).len
  obtain ⟨l, b4, e4, hr4⟩ : ∃ n b1' e1', rList (rT 1099511627776) true b3 e3 1099511627776 = (n, b1', e1') := ⟨_, _, _, rfl⟩
  rw [hr4] at hI5 r4 hll hL ⊢
  simp only at hI5 r4 hll hL ⊢
  have HR4 := Lib.hid hr4
  have HI5 := Lib.hid hI5
  have C5 := hnew C4 hc5
  have hs5 := hc5.size
  have HL := Lib.hid hL
  obtain ⟨ln, hln⟩ : ∃ k, l.length = k := ⟨_, rfl⟩
  rw [hln] at hll ⊢
  have HLN := Lib.hid hln
  clear hI5 hr4 HI4 C4 hc5 hL hln
  go_wp2_with fail
  refine (rd_nums HI5.out 1099511627776 (by omega) (by omega) 18446744073709551615 (by omega) (by have := HM.out; omega)).mono ?_
  rintro x w6 ⟨M, cm, rfl, hml, hM, hI6, hc6⟩
  have r5 := (rList_rest (rU_rest 18446744073709551615) true b4 e4 1099511627776).len
  have hnums := rList_nums 18446744073709551615 true b4 e4 1099511627776
  obtain ⟨ml, b5, e5, hr5⟩ : ∃ n b1' e1', rList (rU 18446744073709551615) true b4 e4 1099511627776 = (n, b1', e1') := ⟨_, _, _, rfl⟩
  rw [hr5] at hI6 r5 hml hM hnums ⊢
  simp only at hI6 r5 hml hM hnums ⊢
  have HR5 := Lib.hid hr5
  have HI6 := Lib.hid hI6
  have C6 := hnew C5 hc6
  have hs6 := hc6.size
  have HM6 := Lib.hid hM
  have HL6 : Hid (Kd.string.C w6 (fun b => w4.heap.size ≤ b) L l) := Kd.C_chg HL.out hc6 (fun k hk e => by have := hag k e; omega)
  have HNUMS := Lib.hid hnums
  obtain ⟨mn, hmn⟩ : ∃ k, ml.length = k := ⟨_, rfl⟩
  rw [hmn] at hml ⊢
  have HMN := Lib.hid hmn
  clear hI6 hr5 HI5 C5 hc6 hM hmn HL hnums hag hnew
  go_wp2_with fail
  refine (rd_done HI6.out).mono ?_
  rintro x w7 ⟨rfl, rfl⟩
  by_cases hd : rDone b5 e5 = 0
  · obtain ⟨hall, hsz⟩ := once_plain HR1.out HR2.out HR3.out HR4.out HR5.out hd
    have HALL := Lib.hid hall
    have hlens : (numB n ++ (txtB s ++ (numB (if fl then 1 else 0) ++ (listB txtB l ++ listB numX ml)))).length = m := by rw [← hall, HM.out]
    simp only [List.length_append] at hlens
    have HS := Lib.hid hlens
    have hssz : s.size ≤ 100000000 := by have := HM.out; omega
    rw [hd, show (((0 : Nat) : Int)) = (0 : Int) from rfl]
    clear hall hsz hd HR1 HR2 HR3 HR4 HR5 hlens
    go_wp2_with fail
    refine (field_num (Kd.C_nil _ _ (fun _ => False) none) rfl (Nat.zero_le _) n (by omega) (by omega)).mono ?_
    intro x w8 hY1
    obtain ⟨Y1, d1, rfl, _, hR1, hD1⟩ := hY1.slice
    rw [List.nil_append, Int.toNat_natCast] at hR1 ⊢
    have HY1 := Lib.hid (Kd.R_read hR1).1
    obtain ⟨q1, hq1⟩ : ∃ q, (numB n).length = q := ⟨_, rfl⟩
    rw [hq1] at hR1 ⊢
    have HQ1 := Lib.hid hq1
    have D1 := C6.thenNew hD1
    have HL7 := Lib.hid (Kd.C_new HL6.out hD1)
    have HM7 := Lib.hid (Kd.C_new HM6.out hD1)
    clear hY1 hR1 hq1 hD1
    go_wp2_with fail
    refine (field_text HY1.out HQ1.out (by have := HS.out; have := HQ1.out; omega) s (by omega)).mono ?_
    intro x w9 hY2
    obtain ⟨Y2, d2, rfl, _, hR2, hD2⟩ := hY2.slice
    rw [show numB n ++ (numB s.size ++ strB s) = numB n ++ txtB s from rfl] at hR2 ⊢
    have HY2 := Lib.hid (Kd.R_read hR2).1
    obtain ⟨q2, hq2⟩ : ∃ q, (numB n ++ txtB s).length = q := ⟨_, rfl⟩
    rw [hq2] at hR2 ⊢
    have HQ2 := Lib.hid hq2
    have D2 := D1.thenNew hD2
    have HL8 := Lib.hid (Kd.C_new HL7.out hD2)
    have HM8 := Lib.hid (Kd.C_new HM7.out hD2)
    clear hY2 hR2 hq2 hD2 HL7 HM7
    go_wp2_with fail
    refine (field_flag HY2.out HQ2.out (by have h5 := HS.out; have h6 := HQ2.out; rw [List.length_append] at h6; omega) fl).mono ?_
    intro x wa hY3
    obtain ⟨Y3, d3, rfl, _, hR3, hD3⟩ := hY3.slice
    have HY3 := Lib.hid (Kd.R_read hR3).1
    obtain ⟨q3, hq3⟩ : ∃ q, (numB n ++ txtB s ++ numB (if fl then 1 else 0)).length = q := ⟨_, rfl⟩
    rw [hq3] at hR3 ⊢
    have HQ3 := Lib.hid hq3
    have D3 := D2.thenNew hD3
    have HL9 := Lib.hid (Kd.C_new HL8.out hD3)
    have HM9 := Lib.hid (Kd.C_new HM8.out hD3)
    clear hY3 hR3 hq3 hD3 HL8 HM8
    go_wp2_with fail
    refine (field_texts HY3.out HQ3.out HL9.out HLN.out (by have h5 := HS.out; simp only [List.length_append]; omega) _).mono ?_
    intro x wb hY4
    obtain ⟨Y4, d4, rfl, _, hR4, hD4⟩ := hY4.slice
    have HY4 := Lib.hid (Kd.R_read hR4).1
    obtain ⟨q4, hq4⟩ : ∃ q, (numB n ++ txtB s ++ numB (if fl then 1 else 0) ++ listB txtB l).length = q := ⟨_, rfl⟩
    rw [hq4] at hR4 ⊢
    have HQ4 := Lib.hid hq4
    have D4 := D3.thenNew hD4
    have HMa := Lib.hid (Kd.C_new HM9.out hD4)
    clear hY4 hR4 hq4 hD4 HL9 HM9
    go_wp2_with fail
    refine (field_nums HY4.out HQ4.out HMa.out HMN.out HNUMS.out (by have h5 := HS.out; simp only [List.length_append]; omega) _).mono ?_
    intro x wc hY5
    obtain ⟨Y5, d5, rfl, _, hR5, hD5⟩ := hY5.slice
    have hfull : numB n ++ txtB s ++ numB (if fl then 1 else 0) ++ listB txtB l ++ listB numX ml = bs := by rw [HALL.out]; simp only [List.append_assoc]
    rw [hfull] at hR5 ⊢
    have HY5 := Lib.hid (Kd.R_read hR5).1
    have D5 := D4.thenNew hD5
    have HBc := Lib.hid (Kd.C_new HB.out D5)
    rw [HM.out]
    have hcv1 := run_conv (P := Try.prog) (src := 22) (dst := 9) (e := 5) (c := d5) HY5.out HM.out (by kernel_rfl) (by kernel_rfl) (by kernel_rfl)
    have hcv2 := run_conv (P := Try.prog) (src := 22) (dst := 9) (e := 5) (c := c) HBc.out HM.out (by kernel_rfl) (by kernel_rfl) (by kernel_rfl)
    clear hY5 hR5 hD5 hfull
    go_wp2_with fail
    refine (field_works wc).mono ?_
    rintro x wd ⟨rfl, hce⟩
    have D6 := D5.thenNew hce
    clear hcv1 hcv2 hce
    go_wp2
    go_ret
    exact ⟨rfl, D6⟩
  · have hd' : ((rDone b5 e5 : Nat) : Int) ≠ 0 := by omega
    have hdb : (((rDone b5 e5 : Nat) : Int) == 0) = false := by simp; omega
    go_wp2_with fail
    refine (field_works w7).mono ?_
    rintro x wd ⟨rfl, hce⟩
    have D6 := C6.thenNew hce
    clear hce
    go_wp2
    go_ret
    exact ⟨rfl, D6⟩
end Go.Proofs.Yticbffoclnjciaa
