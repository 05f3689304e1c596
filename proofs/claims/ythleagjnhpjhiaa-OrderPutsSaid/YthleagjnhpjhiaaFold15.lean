import Derived.Test.YthleagjnhpjhiaaFold14
/- Orders: a command's bytes: the program's lay. -/
namespace Go.Proofs.Ythleagjnhpjhiaa
open Go.RowKit
set_option linter.unusedVariables false
set_option linter.unusedSimpArgs false
set_option maxRecDepth 100000
section
variable {α : Type} [Sz α] {x : Cm α}
theorem kind_of (h : rightB x = true) : 1 ≤ x.kind ∧ x.kind ≤ 18 := by
  unfold rightB at h
  rw [Bool.and_eq_true] at h
  have h1 := of_decide_eq_true h.1
  by_cases h2 : 1 ≤ x.kind ∧ x.kind ≤ 18
  · exact h2
  · exact absurd (hasN_none h2) h1
theorem field_of (h : rightB x = true) {j : Nat} (hj : j < 16) : fieldOk x j = true := by
  unfold rightB okTo at h
  rw [Bool.and_eq_true, List.all_eq_true] at h
  exact h.2 j (List.mem_range.2 hj)
end
section
variable {α : Type} [Sz α] [Lays α] {d : Kd α} {w : World} {ok : Nat → Prop} {x : Cm α}
/-- A row of the call's own: the bytes so far. -/
def RowB (w wr : World) (v : Value) (l : List UInt8) : Prop := Kd.byte.R 5 wr w.heap.size (fun b => w.heap.size ≤ b) v l
theorem RowB.new {w wr wx : World} {v : Value} {l : List UInt8} (h : RowB w wr v l) (hc : Chg nob wr wx) : RowB w wx v l := Kd.R_new h hc
theorem RowB.of {w wr wx : World} {l : List UInt8} {e : Ending} (h : Laid wr l e wx) (hc : Chg nob w wr) : ∃ A c, e = .returned (.slice A l.length c) ∧ RowB w wx (.slice A l.length c) l ∧ Chg nob wr wx := by
  obtain ⟨A, c, he, hl, hR, hx⟩ := h.slice
  exact ⟨A, c, he, Kd.R_mono (Kd.R_lower hR hc.size) (fun b hb => Nat.le_trans hc.size hb), hx⟩
set_option maxHeartbeats 4000000 in
theorem o_lay_gen (hd : SubK d) {cs : Array Value} (hx : (cmdK d).K w ok x cs.toList) {M : Nat} (hM : M ≤ 100000000) (hs : SubLay M d w ok x) (hf : FewB x) (hr : rightB x = true) {okb : Nat → Prop} {B : Option Addr} {m cc : Nat} {bs : List UInt8} (hB : Kd.byte.C w okb B bs) (hm : bs.length = m) (hm2 : m + 3300000 ≤ M) :
    Calls Try.prog 20 #[.slice B m cc, .agg cs] w (Laid w (bs ++ layB x)) := by
  obtain ⟨T, tc, A, n, c, rfl, hn, hc1, hc2, htc, hT, hK, hok⟩ := cm_row hd hx
  obtain ⟨w1, hw1⟩ : ∃ w1, w.alloc (.cells (cmL x T tc (.slice A n c)).toArray 26) = w1 := ⟨_, rfl⟩
  have hb1 := heap_alloc_new w (.cells (cmL x T tc (.slice A n c)).toArray 26)
  have h1 : Chg nob w w1 := by rw [← hw1]; exact (Chg.refl nob w).alloc _
  obtain ⟨cb, hcb⟩ : ∃ cb, w.heap.size = cb := ⟨_, rfl⟩
  rw [hw1, hcb] at hb1
  have HR1 : Hid (CmRow d w1 ok cb x) := ⟨T, tc, A, n, c, hb1, hn, hc1, hc2, htc, Kd.C_new hT h1, Kd.chg hK h1 (fun b _ => not_nob b), hok⟩
  have HC1 := Lib.hid h1
  have HW1 := Lib.hid hw1
  have HS := Lib.hid hs
  have HRT := Lib.hid hr
  have HBB := Lib.hid (Kd.C_new hB h1)
  have HBL : Hid (∀ j, j ≤ 16 → (bs ++ layTo x j).length ≤ M) := fun j hj => by
    have := layTo_le hok hf hr (L := 200000) rfl j hj
    rw [List.length_append]
    omega
  have HM := Lib.hid hm
  obtain ⟨k1, k18⟩ := kind_of hr
  have x0 : w1.cell? ⟨cb, 0, none⟩ = some (.int .i64 x.kind) := by rw [cell_of_row _ _ _ _ _ _ hb1]; rfl
  obtain ⟨V, hV⟩ : ∃ V, (cmL x T tc (.slice A n c)).toArray = V := ⟨_, rfl⟩
  rw [hV] at HW1 ⊢
  have HB1 := Lib.hid hb1
  clear hb1 h1 hw1 hs hT hK hok hx hn hc1 hc2 htc hV hB hm hr hf
  have hwk : IntKind.u64.wrap x.kind = x.kind := by rw [IntKind.wrap_u64]; omega
  go_enter Try.func20, Try.ntmps20
  go_upto_region 1 with fail
  rw [HW1.out]
  go_wp2_with fail
  refine (field_num (c := cc) HBB.out HM.out (by omega) x.kind (by omega) (by omega)).mono ?_
  intro e w2 hL
  obtain ⟨B2, c2, rfl, hR2, hc2⟩ := RowB.of hL HC1.out
  have HL0 : Hid ((bs ++ numB x.kind.toNat) = bs ++ layTo x 0) := by show _ = _; unfold layTo; simp
  rw [HL0.out] at hR2 ⊢
  obtain ⟨m2, hm2'⟩ : ∃ m2, (bs ++ layTo x 0).length = m2 := ⟨_, rfl⟩
  rw [hm2'] at hR2 ⊢
  have HM2 := Lib.hid hm2'
  have HR2 := Lib.hid hR2
  have HC2 := Lib.hid hc2
  have y0 := hc2.cell x0 (not_nob _)
  clear x0 hm2' hR2 hc2 hL
  go_wp2_with fail
  refine (o_fields w2 x.kind).mono ?_
  rintro e w3 ⟨rfl, hww⟩
  subst hww
  obtain ⟨H, hH⟩ : ∃ H, hasN x.kind = H := ⟨_, rfl⟩
  rw [hH]
  have HH := Lib.hid hH
  clear hH y0
  go_wp2_with fail
  refine (o_all w3 cb).mono ?_
  rintro e w4 ⟨ps, rfl, hst⟩
  have HST := Lib.hid hst
  have HR4 := Lib.hid (HR2.out.new hst.chg)
  have HC4 := Lib.hid ((HC1.out.thenNew HC2.out).thenNew hst.chg)
  clear hst
  go_wp2
  go_loopw [0, 17] (fun b v wr => ∃ (j : Nat) (B : Option Addr) (m c : Nat), j ≤ 16 ∧ b = .slice B m c ∧ v = .int .i64 j ∧ Hid (RowB w wr (.slice B m c) (bs ++ layTo x j)) ∧ Hid ((bs ++ layTo x j).length = m) ∧ Hid (Chg nob w4 wr)) (fun _ v _ => 16 - (intOf v).toNat)
  case atStart => exact ⟨0, B2, m2, c2, Nat.zero_le _, rfl, rfl, HR4, HM2, Chg.refl _ _⟩
  case round =>
    obtain ⟨j, B, m, c5, hj, rfl, rfl, HRW, HMJ, HCR⟩ := hrel
    by_cases hlt : j < 16
    · have b1 : (j : Int) < 16 := by omega
      have b2 : (0 : Int) ≤ (j : Int) := by omega
      have hix := fun wx => idx_all ps wx hlt
      have hxa := heap_alloc_new wr (.cells #[cl j 0 (ps j), cl j 1 (ps j), cl j 2 (ps j), cl j 3 (ps j)] 49)
      have hca : Chg nob wr (wr.alloc (.cells #[cl j 0 (ps j), cl j 1 (ps j), cl j 2 (ps j), cl j 3 (ps j)] 49)) := (Chg.refl nob wr).alloc _
      simp only [cl] at hix hxa hca
      go_upto_region 6 with fail
      obtain ⟨w5, hw5⟩ : ∃ w5, wr.alloc (.cells #[.func (.func (fnN j 0)) #[] (capN j 0 (ps j)), .func (.func (fnN j 1)) #[] (capN j 1 (ps j)), .func (.func (fnN j 2)) #[] (capN j 2 (ps j)), .func (.func (fnN j 3)) #[] (capN j 3 (ps j))] 49) = w5 := ⟨_, rfl⟩
      rw [hw5] at hxa hca ⊢
      obtain ⟨g, hg⟩ : ∃ g, wr.heap.size = g := ⟨_, rfl⟩
      rw [hg] at hxa ⊢
      have HC45 : Hid (Chg nob w4 w5) := HCR.out.thenNew hca
      have HR5 := Lib.hid (HRW.out.new hca)
      have y2 : w5.cell? ⟨g, 0, none⟩ = some (.func (.func (fnN j 0)) #[] (capN j 0 (ps j))) := by rw [cell_of_row _ _ _ _ _ _ hxa]; rfl
      have HCM : Hid (CmRow d w5 ok cb x) := ((HR1.out.new HC2.out).new HST.out.chg).new HC45.out
      have HB5 : Hid (PtrBox w5 (ps j) ⟨cb, j + 1, none⟩) := (HST.out.box j hlt).1.new HC45.out
      clear hw5 hg hxa hca hix
      have hf0 := call_fn (k := j) (i := 0) hlt (by decide)
      have hbw : bits .and .i64 ((H : Int) / 2 ^ j) 1 = if bitN H j then 1 else 0 := bit_walk (by rw [← HH.out]; exact hasN_lt _)
      obtain ⟨bt, hbt⟩ : ∃ bt, bitN H j = bt := ⟨_, rfl⟩
      have HBT := Lib.hid hbt
      rw [hbt] at hbw
      clear hbt
      cases bt with
      | true =>
        simp only [if_true] at hbw
        have HCB := Lib.hid (Kd.R_read HR5.out)
        have HWW : Hid (Chg nob w w5) := HC4.out.thenNew HC45.out
        have HBIT : Hid (bitN (hasN x.kind) j = true) := by show _ = _; rw [HH.out]; exact HBT.out
        have HMAY : Hid (mayF x j = true) := by
          have := field_of HRT.out hlt
          unfold fieldOk at this
          rw [Bool.and_eq_true] at this
          exact this.2
        go_wp2_with fail
        refine (c_lay hM HS.out HWW.out HCM.out HB5.out hlt HBIT.out HMAY.out HCB.out.1 HMJ.out (by rw [← HMJ.out]; exact HBL.out j (by omega))).mono ?_
        intro e w6 hL
        obtain ⟨B6, c6, rfl, hR6, hc6⟩ := RowB.of hL HWW.out
        have hl6 : (bs ++ layTo x j) ++ fldB x j = bs ++ layTo x (j + 1) := by rw [layTo_yes HBIT.out, List.append_assoc]
        rw [hl6] at hR6 ⊢
        obtain ⟨m6, hm6⟩ : ∃ m6, (bs ++ layTo x (j + 1)).length = m6 := ⟨_, rfl⟩
        rw [hm6] at hR6 ⊢
        have HM6 := Lib.hid hm6
        have HR6 := Lib.hid hR6
        have HC6 := Lib.hid (HC45.out.thenNew hc6)
        clear hm6 hR6 hc6 hl6 hL y2 hf0
        go_wp2
        exact ⟨⟨j + 1, B6, m6, c6, by omega, rfl, by go_num, HR6, HM6, HC6⟩, by simp [intOf]; omega⟩
      | false =>
        simp only [Bool.false_eq_true, if_false] at hbw
        have HBIT : Hid (bitN (hasN x.kind) j = false) := by show _ = _; rw [HH.out]; exact HBT.out
        have HR6 : Hid (RowB w w5 (.slice B m c5) (bs ++ layTo x (j + 1))) := by have := HR5.out; rwa [← layTo_no HBIT.out] at this
        have HM6 : Hid ((bs ++ layTo x (j + 1)).length = m) := by have := HMJ.out; rwa [← layTo_no HBIT.out] at this
        go_wp2
        exact ⟨⟨j + 1, B, m, c5, by omega, rfl, by go_num, HR6, HM6, HC45⟩, by simp [intOf]; omega⟩
    · obtain rfl : j = 16 := by omega
      have HCE := Lib.hid (HC4.out.thenNew HCR.out)
      go_wp2
      go_ret
      exact ⟨_, rfl, HRW.out, HCE.out⟩
#print axioms o_lay_gen
end
end Go.Proofs.Ythleagjnhpjhiaa
