import Derived.Test.YtcibdcahcpcmaaaFold46
import Derived.Test.YtcibdcahcpcmaaaFold47
/- The gate: what a call of the reference's Decide leaves. -/
namespace Go.Proofs.Ytcibdcahcpcmaaa
open Go.RowKit
set_option linter.unusedVariables false
set_option linter.unusedSimpArgs false
set_option maxRecDepth 100000
set_option maxHeartbeats 4000000 in
theorem r_decide {w : World} {rown okl : Nat → Prop} {gb : Nat} {mm : QMap} {l : Known} (hst : RSt w rown okl gb mm l) (hml : mm.length ≤ 1000) (hokl : ∀ b, okl b → b < w.heap.size) {dst : ByteArray} (hd : dst.size ≤ 9223372036854775807) {k0 k1 : Nat} (h0 : k0 < 18446744073709551616) (h1 : k1 < 18446744073709551616)
    {A : Option Addr} {m c : Nat} {bs : List UInt8} (hb : Kd.byte.C w (fun b => b < w.heap.size) A bs) (hm : bs.length = m) (hmc : m ≤ c) (hl : m ≤ 140737488351232) (df : Bool) :
    Calls Try.prog 8 #[.pointer (some ⟨gb, 0, none⟩), .agg #[.int .u64 k0, .int .u64 k1], .slice A m c, .string dst, .bool df] w (Decided (chkR k0 k1 bs) (seekA l (qInt dst)) dst df w) := by
  obtain ⟨R, hR⟩ : ∃ R, chkR k0 k1 bs = R := ⟨_, rfl⟩
  rw [hR]
  have HR := Lib.hid hR
  clear hR
  obtain ⟨kn, hkn⟩ : ∃ kn, seekA l (qInt dst) = kn := ⟨_, rfl⟩
  rw [hkn]
  have HKN := Lib.hid hkn
  clear hkn
  obtain ⟨g, hg⟩ : ∃ g, w.heap.size = g := ⟨_, rfl⟩
  obtain ⟨w1, hw1⟩ : ∃ w1, (w.alloc (.cells #[.int .u64 k0, .int .u64 k1] 25)).alloc (.cells #[.bool false, .int .i64 0, .string ⟨#[]⟩, .int .u64 0, .int .i64 0] 38) = w1 := ⟨_, rfl⟩
  have hc1 : Chg nob w w1 := by rw [← hw1]; exact ((Chg.refl nob w).alloc _).alloc _
  have hk1 : w1.heap[g]? = some (.cells #[.int .u64 k0, .int .u64 k1] 25 (0, 0)) := by rw [← hw1, ← hg, Below.heap_alloc _ _ _ (by simp)]; exact heap_alloc_new w _
  have hv1 : w1.heap[g + 1]? = some (.cells #[.bool false, .int .i64 0, .string ⟨#[]⟩, .int .u64 0, .int .i64 0] 38 (0, 0)) := by
    have := heap_alloc_new (w.alloc (.cells #[.int .u64 k0, .int .u64 k1] 25)) (.cells #[.bool false, .int .i64 0, .string ⟨#[]⟩, .int .u64 0, .int .i64 0] 38)
    rw [World.size_alloc, hw1, hg] at this
    exact this
  have HG := Lib.hid hg
  have HC1 := Lib.hid hc1
  have HK1 := Lib.hid hk1
  have HV1 := Lib.hid hv1
  have HB := Lib.hid hb
  have HM := Lib.hid hm
  have HW1 := Lib.hid hw1
  have HST := Lib.hid hst
  have HOKL := Lib.hid hokl
  clear hc1 hk1 hv1 hb hm hw1 hst hokl
  go_enter Try.func8, Try.ntmps8
  go_wp2_with fail
  rw [HW1.out]
  refine (r_right dst hd).mono ?_
  rintro e w2 ⟨rfl, hww⟩
  subst hww
  obtain ⟨nb, hnb⟩ : ∃ nb, nameB (strL dst) = nb := ⟨_, rfl⟩
  rw [hnb]
  have HNB := Lib.hid hnb
  clear hnb
  cases nb with
  | false =>
    obtain ⟨v0, v1, v2, v3, v4⟩ := row5i HV1.out
    have f0 := frz5 HV1.out 0
    have f1 := frz5 HV1.out 1
    have f2 := frz5 HV1.out 2
    have f3 := frz5 HV1.out 3
    have f4 := frz5 HV1.out 4
    have hs := set5 HV1.out (.bool false) (.int .i64 10) (.string ⟨#[]⟩) (.int .u64 0) (.int .i64 (-1))
    obtain ⟨wE, hwE⟩ : ∃ wE, ((((w2.setCell ⟨g + 1, 0, none⟩ (.bool false)).setCell ⟨g + 1, 1, none⟩ (.int .i64 10)).setCell ⟨g + 1, 2, none⟩ (.string ⟨#[]⟩)).setCell ⟨g + 1, 3, none⟩ (.int .u64 0)).setCell ⟨g + 1, 4, none⟩ (.int .i64 (-1)) = wE := ⟨_, rfl⟩
    rw [hwE] at hs
    have HS := Lib.hid hs
    clear hs
    go_wp2
    try simp only [Exit.inBlock, Exit.then]
    refine bodyPost_ret (results_cell_row rfl _ _ (g + 1) _ _ (0, 0) _ rfl HS.out.1 Try.underlying38 rfl (by kernel_rfl)) rfl ?_
    exact ⟨noV 10, rfl, .name HNB.out, HC1.out.trans HS.out.2 (fun i hi => .inr (by have h1 : i = g + 1 := hi; have := HG.out; omega))⟩
  | true =>
    go_wp2_with fail
    refine (rf_get (HST.out.new HC1.out) hml (fun b hb => Nat.lt_of_lt_of_le (HOKL.out b hb) HC1.out.size) (qInt dst)).mono ?_
    rw [HKN.out]
    rintro e w4 ⟨cs, rfl, hk4, hc4⟩
    obtain ⟨S, nS, sd, Kx, nK, kd, N, nN, nd, I, nI, id, E, nE, ed, T, nT, td, hlit⟩ := ans_lits hk4
    subst hlit
    have HK4 := Lib.hid hk4
    have HC4 := Lib.hid (HC1.out.thenNew hc4)
    have HV4 := Lib.hid (hc4.heap HV1.out (not_nob _))
    have HKK4 := Lib.hid (hc4.heap HK1.out (not_nob _))
    clear hk4 hc4
    have hxA := heap_alloc_new w4 (.cells #[.int .i64 (kn.getD zeroA).1, .int .u64 (kn.getD zeroA).2.1, .bool (kn.getD zeroA).2.2.1.1, .int .i64 (kn.getD zeroA).2.2.1.2.1, .string (kn.getD zeroA).2.2.1.2.2.1, .slice S nS sd, .slice Kx nK kd, .slice N nN nd, .slice I nI id, .slice E nE ed, .slice T nT td] 57)
    have hcA : Chg nob w4 (w4.alloc (.cells #[.int .i64 (kn.getD zeroA).1, .int .u64 (kn.getD zeroA).2.1, .bool (kn.getD zeroA).2.2.1.1, .int .i64 (kn.getD zeroA).2.2.1.2.1, .string (kn.getD zeroA).2.2.1.2.2.1, .slice S nS sd, .slice Kx nK kd, .slice N nN nd, .slice I nI id, .slice E nE ed, .slice T nT td] 57)) := (Chg.refl nob w4).alloc _
    go_upto_region 4 with fail
    obtain ⟨w5, hw5⟩ : ∃ w5, w4.alloc (.cells #[.int .i64 (kn.getD zeroA).1, .int .u64 (kn.getD zeroA).2.1, .bool (kn.getD zeroA).2.2.1.1, .int .i64 (kn.getD zeroA).2.2.1.2.1, .string (kn.getD zeroA).2.2.1.2.2.1, .slice S nS sd, .slice Kx nK kd, .slice N nN nd, .slice I nI id, .slice E nE ed, .slice T nT td] 57) = w5 := ⟨_, rfl⟩
    rw [hw5] at hxA hcA ⊢
    obtain ⟨ab, hab⟩ : ∃ ab, w4.heap.size = ab := ⟨_, rfl⟩
    have HAB : Hid (g + 1 < ab) := by show _ < _; rw [← hab]; exact heap_lt HV4.out
    rw [hab] at hxA ⊢
    have HXA := Lib.hid hxA
    have HC5 := Lib.hid (HC4.out.thenNew hcA)
    have HV5 := Lib.hid (hcA.heap HV4.out (not_nob _))
    have HKK5 := Lib.hid (hcA.heap HKK4.out (not_nob _))
    have HK5 := Lib.hid (Kd.chg HK4.out hcA (fun b _ => not_nob b))
    clear hxA hcA hw5 hab
    cases kn with
    | none =>
      obtain ⟨v0, v1, v2, v3, v4⟩ := row5i HV5.out
      have f0 := frz5 HV5.out 0
      have f1 := frz5 HV5.out 1
      have f2 := frz5 HV5.out 2
      have f3 := frz5 HV5.out 3
      have f4 := frz5 HV5.out 4
      have hs := set5 HV5.out (.bool false) (.int .i64 61) (.string ⟨#[]⟩) (.int .u64 0) (.int .i64 (-1))
      obtain ⟨wE, hwE⟩ : ∃ wE, ((((w5.setCell ⟨g + 1, 0, none⟩ (.bool false)).setCell ⟨g + 1, 1, none⟩ (.int .i64 61)).setCell ⟨g + 1, 2, none⟩ (.string ⟨#[]⟩)).setCell ⟨g + 1, 3, none⟩ (.int .u64 0)).setCell ⟨g + 1, 4, none⟩ (.int .i64 (-1)) = wE := ⟨_, rfl⟩
      rw [hwE] at hs
      have HS := Lib.hid hs
      clear hs
      go_wp2
      try simp only [Exit.inBlock, Exit.then]
      refine bodyPost_ret (results_cell_row rfl _ _ (g + 1) _ _ (0, 0) _ rfl HS.out.1 Try.underlying38 rfl (by kernel_rfl)) rfl ?_
      exact ⟨noV 61, rfl, .empty HNB.out rfl, HC5.out.trans HS.out.2 (fun i hi => .inr (by have h1 : i = g + 1 := hi; have := HG.out; omega))⟩
    | some a =>
      dsimp only [Option.getD, Option.isSome] at *
      have x0 : w5.cell? ⟨g, 0, none⟩ = some (.int .u64 k0) := by rw [cell_of_row _ _ _ _ _ _ HKK5.out]; rfl
      have x1 : w5.cell? ⟨g, 1, none⟩ = some (.int .u64 k1) := by rw [cell_of_row _ _ _ _ _ _ HKK5.out]; rfl
      go_wp2_with fail
      refine (c_rcheck h0 h1 (Kd.C_mono (Kd.C_new HB.out HC5.out) (fun b hb => Nat.lt_of_lt_of_le hb HC5.out.size)) HM.out hmc hl).mono ?_
      rintro e w7 ⟨rfl, hc7⟩
      rw [HR.out]
      have HV7 := Lib.hid (hc7.heap HV5.out (not_nob _))
      have HXA7 := Lib.hid (hc7.heap HXA.out (not_nob _))
      have HC7 := Lib.hid (HC5.out.thenNew hc7)
      have HK7 := Lib.hid (Kd.chg HK5.out hc7 (fun b _ => not_nob b))
      clear hc7 x0 x1
      unfold tokV
      have hxB := heap_alloc_new w7 (.cells #[.string R.1.1, .int .i64 R.1.2.1, .int .u32 R.1.2.2.1, .int .u64 R.1.2.2.2] 45)
      have hcB : Chg nob w7 (w7.alloc (.cells #[.string R.1.1, .int .i64 R.1.2.1, .int .u32 R.1.2.2.1, .int .u64 R.1.2.2.2] 45)) := (Chg.refl nob w7).alloc _
      go_upto_region 7 with fail
      obtain ⟨w8, hw8⟩ : ∃ w8, w7.alloc (.cells #[.string R.1.1, .int .i64 R.1.2.1, .int .u32 R.1.2.2.1, .int .u64 R.1.2.2.2] 45) = w8 := ⟨_, rfl⟩
      rw [hw8] at hxB hcB ⊢
      obtain ⟨tb, htb⟩ : ∃ tb, w7.heap.size = tb := ⟨_, rfl⟩
      have HNEA : Hid (ab ≠ g + 1 ∧ tb ≠ g + 1) := ⟨by have := HAB.out; omega, by have := heap_lt HV7.out; omega⟩
      rw [htb] at hxB ⊢
      have HXB := Lib.hid hxB
      have HC8 := Lib.hid (HC7.out.thenNew hcB)
      have HV8 := Lib.hid (hcB.heap HV7.out (not_nob _))
      have HXA8 := Lib.hid (hcB.heap HXA7.out (not_nob _))
      have HK8 := Lib.hid (Kd.chg HK7.out hcB (fun b _ => not_nob b))
      clear hxB hcB hw8 htb
      by_cases hR0 : R.2 = 0
      · have c1 : ((R.2 : Int) != 0) = false := by simp [hR0]
        have HR0 := Lib.hid hR0
        clear hR0
        have hts : R.1.1.size ≤ 9223372036854775807 := by
          obtain ⟨T', hT1, _, hT3, _, _⟩ := chkR_back (k0 := k0) (k1 := k1) (bs := bs) (by rw [HR.out]; exact HR0.out)
          rw [HR.out] at hT1
          rw [hT1]
          unfold tokOk nameB at hT3
          rw [Bool.and_eq_true, Bool.and_eq_true, decide_eq_true_iff, decide_eq_true_iff, strL_len] at hT3
          have := hT3.1.1.2.1
          show T'.1.size ≤ _
          omega
        obtain ⟨⟨y0, y1, y2, y3, y4, y5, y6, y7, y8, y9, y10⟩, -⟩ := row11c HXA8.out
        have tk0 : w8.cell? ⟨tb, 0, none⟩ = some (.string R.1.1) := by rw [cell_of_row _ _ _ _ _ _ HXB.out]; rfl
        have HKA : Hid (itnK.C w8 (fun b => b < w8.heap.size) T a.2.2.2.2.2.2 ∧ a.2.2.2.2.2.2.length = nT) := by
          obtain ⟨S', sd', K', kd', N', nd', I', id', E', ed', T', td', hcs, -, -, -, -, -, hT⟩ := (ans_cells HK8.out).ex
          have h10 := congrArg (fun l : List Value => l[10]?) hcs
          simp only [List.getElem?_cons_succ, List.getElem?_cons_zero, Option.some.injEq, Value.slice.injEq] at h10
          obtain ⟨rfl, h11, -⟩ := h10
          exact ⟨Kd.C_mono (Kd.C_bound hT.1) (fun b hb => hb.2), h11.symm⟩
        go_wp2_with fail
        refine (r_choose (c := td) HKA.out.1 HKA.out.2 R.1.1 dst df hts hd).mono ?_
        rintro e wB ⟨al, at_, rfl, hch, hcB⟩
        have HCH := Lib.hid hch
        have HVB := Lib.hid (hcB.heap HV8.out (not_nob _))
        have HXAB := Lib.hid (hcB.heap HXA8.out (not_nob _))
        have HXBB := Lib.hid (hcB.heap HXB.out (not_nob _))
        have HCB := Lib.hid (HC8.out.thenNew hcB)
        clear y0 y1 y2 y3 y4 y5 y6 y7 y8 y9 y10 tk0 hch hcB
        obtain ⟨⟨y0, y1, y2, y3, y4, y5, y6, y7, y8, y9, y10⟩, -⟩ := row11c HXAB.out
        have tk0 : wB.cell? ⟨tb, 0, none⟩ = some (.string R.1.1) := by rw [cell_of_row _ _ _ _ _ _ HXBB.out]; rfl
        have hxC := heap_alloc_new wB (.cells #[.bool al, .int .i64 0, .string R.1.1, .int .u64 a.2.1, .int .i64 at_] 38)
        have hcC : Chg nob wB (wB.alloc (.cells #[.bool al, .int .i64 0, .string R.1.1, .int .u64 a.2.1, .int .i64 at_] 38)) := (Chg.refl nob wB).alloc _
        go_upto_region 11 with fail
        obtain ⟨wC, hwC⟩ : ∃ wC, wB.alloc (.cells #[.bool al, .int .i64 0, .string R.1.1, .int .u64 a.2.1, .int .i64 at_] 38) = wC := ⟨_, rfl⟩
        rw [hwC] at hxC hcC ⊢
        obtain ⟨vb, hvb⟩ : ∃ vb, wB.heap.size = vb := ⟨_, rfl⟩
        have HNEV : Hid (g + 1 < vb) := by have := heap_lt HVB.out; show _ < _; omega
        rw [hvb] at hxC ⊢
        have HXC := Lib.hid hxC
        have HCC := Lib.hid (HCB.out.thenNew hcC)
        have HVC := Lib.hid (hcC.heap HVB.out (not_nob _))
        clear hxC hcC hwC hvb y0 y1 y2 y3 y4 y5 y6 y7 y8 y9 y10 tk0
        cases al with
        | true =>
          obtain ⟨z0, z1, z2, z3, z4⟩ := row5i HXC.out
          obtain ⟨v0, v1, v2, v3, v4⟩ := row5i HVC.out
          have f0 := frz5 HVC.out 0
          have f1 := frz5 HVC.out 1
          have f2 := frz5 HVC.out 2
          have f3 := frz5 HVC.out 3
          have f4 := frz5 HVC.out 4
          have hs := set5 HVC.out (.bool true) (.int .i64 0) (.string R.1.1) (.int .u64 a.2.1) (.int .i64 at_)
          obtain ⟨wE, hwE⟩ : ∃ wE, ((((wC.setCell ⟨g + 1, 0, none⟩ (.bool true)).setCell ⟨g + 1, 1, none⟩ (.int .i64 0)).setCell ⟨g + 1, 2, none⟩ (.string R.1.1)).setCell ⟨g + 1, 3, none⟩ (.int .u64 a.2.1)).setCell ⟨g + 1, 4, none⟩ (.int .i64 at_) = wE := ⟨_, rfl⟩
          rw [hwE] at hs
          have HS := Lib.hid hs
          clear hs
          go_wp2
          try simp only [Exit.inBlock, Exit.then]
          refine bodyPost_ret (results_cell_row rfl _ _ (g + 1) _ _ (0, 0) _ rfl HS.out.1 Try.underlying38 rfl (by kernel_rfl)) rfl ?_
          exact ⟨(true, 0, R.1.1, a.2.1, at_), rfl, .said HNB.out a rfl HR0.out true at_ HCH.out, HCC.out.trans HS.out.2 (fun i hi => .inr (by have h1 : i = g + 1 := hi; have := HG.out; omega))⟩
        | false =>
          have e1 : (wC.setCell ⟨vb, 1, none⟩ (.int .i64 62)).heap[vb]? = some (.cells #[.bool false, .int .i64 62, .string R.1.1, .int .u64 a.2.1, .int .i64 at_] 38 (0, 0)) := by simpa using blk_set1 HXC.out 1 (.int .i64 62)
          have ec : Chg (fun b => b = vb) wC (wC.setCell ⟨vb, 1, none⟩ (.int .i64 62)) := (Chg.refl (fun b => b = vb) wC).set1 1 _
          obtain ⟨z0, z1, z2, z3, z4⟩ := row5i HXC.out
          have f1 := frz5 HXC.out 1
          obtain ⟨wD, hwD⟩ : ∃ wD, wC.setCell ⟨vb, 1, none⟩ (.int .i64 62) = wD := ⟨_, rfl⟩
          rw [hwD] at e1 ec
          have HWD := Lib.hid hwD
          have HXD := Lib.hid e1
          have HVD := Lib.hid (ec.heap HVC.out (fun e => by have h1 : g + 1 = vb := e; have := HNEV.out; omega))
          have HCD : Hid (Chg nob w wD) := HCC.out.trans ec (fun i hi => .inr (by have h1 : i = vb := hi; have h3 := HNEV.out; have h4 := HG.out; omega))
          clear hwD e1 ec
          go_upto_region 13 with fail
          rw [HWD.out]
          clear z0 z1 z2 z3 z4 f1
          obtain ⟨z0, z1, z2, z3, z4⟩ := row5i HXD.out
          obtain ⟨v0, v1, v2, v3, v4⟩ := row5i HVD.out
          have f0 := frz5 HVD.out 0
          have f1 := frz5 HVD.out 1
          have f2 := frz5 HVD.out 2
          have f3 := frz5 HVD.out 3
          have f4 := frz5 HVD.out 4
          have hs := set5 HVD.out (.bool false) (.int .i64 62) (.string R.1.1) (.int .u64 a.2.1) (.int .i64 at_)
          obtain ⟨wE, hwE⟩ : ∃ wE, ((((wD.setCell ⟨g + 1, 0, none⟩ (.bool false)).setCell ⟨g + 1, 1, none⟩ (.int .i64 62)).setCell ⟨g + 1, 2, none⟩ (.string R.1.1)).setCell ⟨g + 1, 3, none⟩ (.int .u64 a.2.1)).setCell ⟨g + 1, 4, none⟩ (.int .i64 at_) = wE := ⟨_, rfl⟩
          rw [hwE] at hs
          have HS := Lib.hid hs
          clear hs
          go_wp2
          try simp only [Exit.inBlock, Exit.then]
          refine bodyPost_ret (results_cell_row rfl _ _ (g + 1) _ _ (0, 0) _ rfl HS.out.1 Try.underlying38 rfl (by kernel_rfl)) rfl ?_
          exact ⟨(false, 62, R.1.1, a.2.1, at_), rfl, .said HNB.out a rfl HR0.out false at_ HCH.out, HCD.out.trans HS.out.2 (fun i hi => .inr (by have h1 : i = g + 1 := hi; have := HG.out; omega))⟩
      · have c1 : ((R.2 : Int) != 0) = true := by simpa using hR0
        obtain ⟨v0, v1, v2, v3, v4⟩ := row5i HV8.out
        have f0 := frz5 HV8.out 0
        have f1 := frz5 HV8.out 1
        have f2 := frz5 HV8.out 2
        have f3 := frz5 HV8.out 3
        have f4 := frz5 HV8.out 4
        have hs := set5 HV8.out (.bool false) (.int .i64 R.2) (.string ⟨#[]⟩) (.int .u64 0) (.int .i64 (-1))
        obtain ⟨wE, hwE⟩ : ∃ wE, ((((w8.setCell ⟨g + 1, 0, none⟩ (.bool false)).setCell ⟨g + 1, 1, none⟩ (.int .i64 R.2)).setCell ⟨g + 1, 2, none⟩ (.string ⟨#[]⟩)).setCell ⟨g + 1, 3, none⟩ (.int .u64 0)).setCell ⟨g + 1, 4, none⟩ (.int .i64 (-1)) = wE := ⟨_, rfl⟩
        rw [hwE] at hs
        have HS := Lib.hid hs
        clear hs
        go_wp2
        try simp only [Exit.inBlock, Exit.then]
        refine bodyPost_ret (results_cell_row rfl _ _ (g + 1) _ _ (0, 0) _ rfl HS.out.1 Try.underlying38 rfl (by kernel_rfl)) rfl ?_
        exact ⟨noV R.2, rfl, .token HNB.out a rfl hR0, HC8.out.trans HS.out.2 (fun i hi => .inr (by have h1 : i = g + 1 := hi; have := HG.out; omega))⟩
#print axioms r_decide
end Go.Proofs.Ytcibdcahcpcmaaa