/- The law FailoverResolves: the walk. -/
import Derived.Test.YthjlgcooihpakaaFoWorks
import Derived.Test.YthjlgcooihpakaaSvcSame
namespace Go.Proofs.Ythjlgcooihpakaa
open Go.RowKit
set_option linter.unusedVariables false
set_option linter.unusedSimpArgs false
set_option maxRecDepth 100000 in
set_option maxHeartbeats 4000000 in
theorem foResolves_walk {w : World} {okT okL : Nat → Prop} {T B : Option Addr} {tn tc ln lc : Nat} {ts : List ByteArray} {tag : ByteArray} {ls : List Ans} {most : Int} (hT : strK.C w okT T ts) (hL : ansK.C w okL B ls) (hn : ts.length = tn) (hln : ls.length = ln) (htc : tn ≤ tc) (hsz : ∀ s ∈ ts, s.size ≤ 9223372036854775807) (htg : tag.size ≤ 9223372036854775807) (hokT : ∀ b, okT b → b < w.heap.size) (hokL : ∀ b, okL b → b < w.heap.size) :
    Calls Try.prog 4 #[.agg #[.slice T tn tc, .string tag, .int .i64 most], .slice B ln lc] w fun e w' => e = .returned (.bool true) ∧ Chg nob w w' := by
  obtain ⟨w1, hw1⟩ : ∃ w1, w1 = w.alloc (.cells #[.slice T tn tc, .string tag, .int .i64 most] 24) := ⟨_, rfl⟩
  have hc1 : Chg nob w w1 := by rw [hw1]; exact (Chg.refl nob w).alloc _
  have hb := heap_alloc_new w (.cells #[.slice T tn tc, .string tag, .int .i64 most] 24)
  rw [← hw1] at hb
  have HCELLS : Hid (∀ wx, Chg nob w1 wx → wx.cell? ⟨w.heap.size, 0, none⟩ = some (.slice T tn tc) ∧ wx.cell? ⟨w.heap.size, 1, none⟩ = some (.string tag) ∧ wx.cell? ⟨w.heap.size, 2, none⟩ = some (.int .i64 most)) := by
    intro wx hx
    have hb2 := hx.heap hb (not_nob _)
    exact ⟨by rw [cell_of_row _ _ _ _ _ _ hb2]; rfl, by rw [cell_of_row _ _ _ _ _ _ hb2]; rfl, by rw [cell_of_row _ _ _ _ _ _ hb2]; rfl⟩
  obtain ⟨q0, q1, q2⟩ := HCELLS.out w1 (Chg.refl _ _)
  have HC1 := Lib.hid hc1
  have HW1 := Lib.hid hw1
  have HT := Lib.hid hT
  have HL := Lib.hid hL
  have HN := Lib.hid hn
  have HLN := Lib.hid hln
  have HSZ := Lib.hid hsz
  have HOT := Lib.hid hokT
  have HOL := Lib.hid hokL
  have hsm := hT.small
  rw [hn] at hsm
  clear hb hc1 hw1 hT hL hn hln hsz hokT hokL
  go_enter Try.func4, Try.ntmps4
  go_wp2_with fail
  rw [← HW1.out]
  refine (f_rright (Kd.C_new HT.out HC1.out) HN.out htc HSZ.out htg).mono ?_
  rintro e w2 ⟨rfl, hc2⟩
  obtain ⟨q0, q1, q2⟩ := HCELLS.out w2 hc2
  have HC2 := Lib.hid hc2
  clear hc2
  go_wp2_with fail
  refine (f_right (Kd.C_new HT.out (HC1.out.thenNew HC2.out)) HN.out htc HSZ.out htg).mono ?_
  rintro e w3 ⟨rfl, hc3⟩
  obtain ⟨r, hr⟩ : ∃ r, upR ts tag most = r := ⟨_, rfl⟩
  rw [hr]
  have HR := Lib.hid hr
  have hx3 := HC2.out.thenNew hc3
  obtain ⟨q0, q1, q2⟩ := HCELLS.out w3 hx3
  have HC3 := Lib.hid hx3
  have trr : (r != r) = false := by simp
  clear hc3 hx3 hr
  go_wp2_with fail
  refine (f_resolve (Kd.C_new HT.out (HC1.out.thenNew HC3.out)) (Kd.C_new HL.out (HC1.out.thenNew HC3.out)) HN.out HLN.out htc HSZ.out htg (fun b hb => Nat.lt_of_lt_of_le (HOT.out b hb) (HC1.out.thenNew HC3.out).size) (fun b hb => Nat.lt_of_lt_of_le (HOL.out b hb) (HC1.out.thenNew HC3.out).size)).mono ?_
  rintro e w4 ⟨A4, c4, rfl, hcl4, hC4, hc4⟩
  have hx4 := HC3.out.thenNew hc4
  obtain ⟨q0, q1, q2⟩ := HCELLS.out w4 hx4
  have HC4 := Lib.hid hx4
  have HM4 := Lib.hid hC4
  obtain ⟨R, hR⟩ : ∃ R, resW ts tag most ls = R := ⟨_, rfl⟩
  rw [hR] at hcl4 HM4 ⊢
  have HRR := Lib.hid hR
  obtain ⟨rn, hrn⟩ : ∃ rn, R.1.length = rn := ⟨_, rfl⟩
  rw [hrn] at hcl4 ⊢
  have HRN := Lib.hid hrn
  clear hc4 hx4 hR hrn hC4
  go_wp2_with fail
  refine (f_asks (Kd.C_new HT.out (HC1.out.thenNew HC4.out)) HN.out htc HSZ.out htg).mono ?_
  rintro e w5 ⟨A5, c5, rfl, hcl5, hC5, hc5⟩
  have hx5 := HC4.out.thenNew hc5
  obtain ⟨q0, q1, q2⟩ := HCELLS.out w5 hx5
  have HC5 := Lib.hid hx5
  have HM5 := Lib.hid (Kd.C_new HM4.out hc5)
  have HA5 := Lib.hid hC5
  obtain ⟨L, hL⟩ : ∃ L, asksL ts tag most = L := ⟨_, rfl⟩
  rw [hL] at hcl5 HA5 ⊢
  have HLL := Lib.hid hL
  obtain ⟨an, han⟩ : ∃ an, L.length = an := ⟨_, rfl⟩
  rw [han] at hcl5 ⊢
  have HAN := Lib.hid han
  clear hc5 hx5 hL han hC5
  cases r with
  | false =>
    have hR0 : R = ([], -1) := by rw [← HRR.out]; exact if_neg (by rw [HR.out]; decide)
    have hL0 : L = [] := by rw [← HLL.out]; exact if_neg (by rw [HR.out]; decide)
    obtain rfl : rn = 0 := by rw [← HRN.out, hR0]; rfl
    obtain rfl : an = 0 := by rw [← HAN.out, hL0]; rfl
    have hk : R.2 = -1 := by rw [hR0]
    have t1 : (R.2 == -1) = true := by rw [hk]; rfl
    clear hR0 hL0
    go_wp2_with fail
    refine (fo_works _).mono ?_
    rintro e w6 ⟨rfl, hc6⟩
    have HC6 := Lib.hid ((HC1.out.thenNew HC5.out).thenNew hc6)
    clear hc6 t1 hk
    go_wp2
    go_ret
    exact ⟨rfl, HC6.out⟩
  | true =>
    have hL0 : L = ts.map (askQ tag) := by rw [← HLL.out]; exact if_pos HR.out
    obtain rfl : tn = an := by rw [← HAN.out, hL0, List.length_map, HN.out]
    have HL0 := Lib.hid hL0
    have hu := of_decide_eq_true HR.out
    obtain ⟨m, hm⟩ : ∃ m : Nat, most = m := ⟨most.toNat, by omega⟩
    have hm1 : 1 ≤ m := by omega
    have hm16 : m ≤ 16 := by omega
    subst hm
    have HC50 := Lib.hid (Chg.refl nob w5)
    clear hL0 hu
    go_wp2
    go_loopw [9] (fun v wr => ∃ j : Nat, j ≤ tn ∧ v = .int .i64 j ∧ Hid (Chg nob w5 wr)) (fun v _ => tn - (intOf v).toNat)
    case atStart => exact ⟨0, Nat.zero_le _, rfl, HC50⟩
    case round =>
      obtain ⟨j, hj, rfl, HCJ⟩ := hrel
      clear HC50
      have HXJ := Lib.hid (HC5.out.thenNew HCJ.out)
      clear q0 q1 q2
      obtain ⟨q0, q1, q2⟩ := HCELLS.out wr HXJ.out
      by_cases hlt : j < tn
      · have b1 : (j : Int) < (tn : Int) := by omega
        have b3 : (0 : Int) ≤ (j : Int) := by omega
        obtain ⟨y, hy⟩ : ∃ y, ts[j]? = some y := ⟨_, List.getElem?_eq_getElem (by rw [HN.out]; exact hlt)⟩
        have hq : L[j]? = some (askQ tag y) := by rw [HL0.out, List.getElem?_map, hy]; rfl
        obtain ⟨ad, rfl, _, hcell⟩ := at_scalar (Kd.C_new HT.out (HC1.out.thenNew HXJ.out)) hy
        obtain ⟨qb, qo, qc, rfl, _, hqk, hqc⟩ := Kd.C_at' (Kd.C_new HA5.out HCJ.out) hq
        have hqe := qry_cells hqk
        subst hqe
        have z0 : wr.cell? ⟨qb, qo + j * 6, none⟩ = some (.int .i64 1) := hqc 0 _ rfl
        have z1 : wr.cell? ⟨qb, qo + j * 6 + 1, none⟩ = some (.int .i64 0) := hqc 1 _ rfl
        have z2 : wr.cell? ⟨qb, qo + j * 6 + 2, none⟩ = some (.string y) := hqc 2 _ rfl
        have z3 : wr.cell? ⟨qb, qo + j * 6 + 3, none⟩ = some (.string tag) := hqc 3 _ rfl
        have z4 : wr.cell? ⟨qb, qo + j * 6 + 4, none⟩ = some (.string ByteArray.empty) := hqc 4 _ rfl
        have z5 : wr.cell? ⟨qb, qo + j * 6 + 5, none⟩ = some (.bool true) := hqc 5 _ rfl
        have hneq : ∀ wx, (binOp .neq 47 (.agg #[.int .i64 1, .int .i64 0, .string y, .string tag, .string ByteArray.empty, .bool true]) (.agg #[.int .i64 1, .int .i64 0, .string y, .string tag, .string ByteArray.empty, .bool true])).run Try.prog wx = .ok (.bool false) wx := by
          intro wx
          have := neqQry (askQ tag y) (askQ tag y) wx
          rw [qEq_self] at this
          exact this
        clear hy hq hqk hqc
        go_wp2
        go_quiet (fail)
        go_wp2
        exact ⟨⟨j + 1, by omega, by go_num, Lib.hid (HCJ.out.drewN _)⟩, by simp [intOf]; omega⟩
      · obtain rfl : j = tn := by omega
        have b1 : ¬ (j : Int) < (j : Int) := by omega
        go_wp2_with fail
        refine (r_resolve (Kd.C_new HT.out (HC1.out.thenNew HXJ.out)) (Kd.C_new HL.out (HC1.out.thenNew HXJ.out)) HN.out HLN.out hm1 hm16 (fun b hb => Nat.lt_of_lt_of_le (HOL.out b hb) (HC1.out.thenNew HXJ.out).size)).mono ?_
        rintro e w6 ⟨A6, c6, rfl, hcl6, hC6, hc6⟩
        have HRE : Hid (resF ts tag m ls = R) := by show _ = _; rw [← HRR.out]; exact (if_pos HR.out).symm
        rw [HRE.out] at hcl6 hC6 ⊢
        rw [HRN.out] at hcl6 ⊢
        have HM6 := Lib.hid hC6
        have HM56 := Lib.hid (Kd.C_new HM5.out (HCJ.out.thenNew hc6))
        have HC6 := Lib.hid (HXJ.out.thenNew hc6)
        clear hc6 hC6
        go_wp2_with fail
        refine (r_sameV HRN.out HM56.out HM6.out).mono ?_
        rintro e w7 ⟨rfl, hc7⟩
        have HC7 := Lib.hid (HC6.out.thenNew hc7)
        have t1 : (R.2 == R.2) = true := by simp
        clear hc7
        go_wp2_with fail
        refine (fo_works _).mono ?_
        rintro e w8 ⟨rfl, hc8⟩
        have HC8 := Lib.hid ((HC1.out.thenNew HC7.out).thenNew hc8)
        clear hc8
        go_wp2
        go_ret
        exact ⟨rfl, HC8.out⟩
end Go.Proofs.Ythjlgcooihpakaa
