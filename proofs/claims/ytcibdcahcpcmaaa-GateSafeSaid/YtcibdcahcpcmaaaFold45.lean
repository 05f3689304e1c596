import Derived.Test.YtcibdcahcpcmaaaFold39
import Derived.Test.YtcibdcahcpcmaaaFold44
/- The gate: what a call of Decide leaves. -/
namespace Go.Proofs.Ytcibdcahcpcmaaa
open Go.RowKit
set_option linter.unusedVariables false
set_option linter.unusedSimpArgs false
set_option maxRecDepth 100000
/-- What a call of Get tells, whatever is new. -/
def GetC (w : World) (p : Value) (dst : ByteArray) (kn : Option Ans) : Prop :=
  ∀ wx, Chg nob w wx → Calls Try.prog 20 #[p, .agg (qryV (5, 0, dst, ByteArray.empty, ByteArray.empty, false))] wx fun e w' => ∃ cs, e = .returned (.tuple #[.agg cs, .bool kn.isSome]) ∧ ansK.K w' (fun b => b < w.heap.size ∨ wx.heap.size ≤ b) (kn.getD zeroA) cs.toList ∧ Chg nob wx w'
/-- The verdict. -/
inductive GVerd (R : Tok × Nat) (kn : Option Ans) (dst : ByteArray) (df : Bool) : Verd → Prop
  | name (h : nameB (strL dst) = false) : GVerd R kn dst df (noV 10)
  | empty (h : nameB (strL dst) = true) (hk : kn = none) : GVerd R kn dst df (noV 61)
  | token (h : nameB (strL dst) = true) (a : Ans) (hk : kn = some a) (hR : R.2 ≠ 0) : GVerd R kn dst df (noV R.2)
  | said (h : nameB (strL dst) = true) (a : Ans) (hk : kn = some a) (hR : R.2 = 0) (al : Bool) (at_ : Int) (hc : ChPost a.2.2.2.2.2.2 R.1.1 dst df al at_) : GVerd R kn dst df (al, (if al then 0 else 62), R.1.1, a.2.1, at_)
def Decided (R : Tok × Nat) (kn : Option Ans) (dst : ByteArray) (df : Bool) (w : World) (e : Ending) (w' : World) : Prop := ∃ v, e = .returned (.agg (verdV v)) ∧ GVerd R kn dst df v ∧ Chg nob w w'
set_option maxHeartbeats 4000000 in
theorem g_decide {w : World} {p : Value} {dst : ByteArray} {kn : Option Ans} (hget : GetC w p dst kn) (hd : dst.size ≤ 9223372036854775807) {k0 k1 : Nat} (h0 : k0 < 18446744073709551616) (h1 : k1 < 18446744073709551616)
    {A : Option Addr} {m c : Nat} {bs : List UInt8} (hb : Kd.byte.C w (fun b => b < w.heap.size) A bs) (hm : bs.length = m) (hmc : m ≤ c) (hl : m ≤ 140737488351232) (df : Bool) :
    Calls Try.prog 7 #[p, .agg #[.int .u64 k0, .int .u64 k1], .slice A m c, .string dst, .bool df] w (Decided (chkR k0 k1 bs) kn dst df w) := by
  obtain ⟨R, hR⟩ : ∃ R, chkR k0 k1 bs = R := ⟨_, rfl⟩
  rw [hR]
  have HR := Lib.hid hR
  clear hR
  have hmf : ∀ (fn : Fn) (first cap : Array Value) (w : World), (Instr.makeFunc fn first cap).run Try.prog w = .ok (.func fn first cap) w := fun _ _ _ _ => rfl
  obtain ⟨g, hg⟩ : ∃ g, w.heap.size = g := ⟨_, rfl⟩
  obtain ⟨w1, hw1⟩ : ∃ w1, (w.alloc (.cells #[.int .u64 k0, .int .u64 k1] 70)).alloc (.cells #[.bool false, .int .i64 0, .string ⟨#[]⟩, .int .u64 0, .int .i64 0] 35) = w1 := ⟨_, rfl⟩
  have hc1 : Chg nob w w1 := by rw [← hw1]; exact ((Chg.refl nob w).alloc _).alloc _
  have hk1 : w1.heap[g]? = some (.cells #[.int .u64 k0, .int .u64 k1] 70 (0, 0)) := by rw [← hw1, ← hg, Below.heap_alloc _ _ _ (by simp)]; exact heap_alloc_new w _
  have hv1 : w1.heap[g + 1]? = some (.cells #[.bool false, .int .i64 0, .string ⟨#[]⟩, .int .u64 0, .int .i64 0] 35 (0, 0)) := by
    have := heap_alloc_new (w.alloc (.cells #[.int .u64 k0, .int .u64 k1] 70)) (.cells #[.bool false, .int .i64 0, .string ⟨#[]⟩, .int .u64 0, .int .i64 0] 35)
    rw [World.size_alloc, hw1, hg] at this
    exact this
  have HG := Lib.hid hg
  have HC1 := Lib.hid hc1
  have HK1 := Lib.hid hk1
  have HV1 := Lib.hid hv1
  have HGET := Lib.hid hget
  have HB := Lib.hid hb
  have HM := Lib.hid hm
  have HW1 := Lib.hid hw1
  clear hc1 hk1 hv1 hget hb hm hw1
  -- the way out behind a panic
  have OUT : Hid (∀ (wx : World) (a0 a1 a2 a3 a4 : Value) (e : Int) (tmps : Array Value), tmps.getD 10 undef = .pointer (some ⟨g + 1, 0, none⟩) → Chg nob w wx → wx.heap[g + 1]? = some (.cells #[a0, a1, a2, a3, a4] 35 (0, 0)) → GVerd R kn dst df (noV e) →
      bodyPostD Try.prog Try.f7 (Decided R kn dst df w) (.panic [{ v := refV e, recovered := false }]) { tmps := tmps, defers := [{ target := .fn (.func 17) #[.pointer (some ⟨g + 1, 0, none⟩)], args := #[] }] } wx) := by
    intro wx a0 a1 a2 a3 a4 e tmps ht hc hrow hv
    refine leaves_cons (f := 17) (args := #[.pointer (some ⟨g + 1, 0, none⟩)]) (by simp) (by simp [go_sem, invoke]) ?_
    refine (catch_ref hrow e).mono ?_
    rintro en u' w'' ⟨rfl, rfl, hr2, hc2⟩
    have hfin : Chg nob w w'' := hc.trans hc2 (fun i hi => .inr (by have h1 : i = g + 1 := hi; have := HG.out; omega))
    exact ⟨.agg (verdV (noV e)), results_cell_row rfl _ _ (g + 1) _ _ (0, 0) _ ht hr2 Try.underlying35 rfl (by kernel_rfl), noV e, rfl, hv, hfin⟩
  have OUTR : Hid (∀ (wx : World) (v : Verd) (tmps : Array Value), tmps.getD 10 undef = .pointer (some ⟨g + 1, 0, none⟩) → Chg nob w wx → wx.heap[g + 1]? = some (.cells (verdV v) 35 (0, 0)) → GVerd R kn dst df v →
      bodyPostD Try.prog Try.f7 (Decided R kn dst df w) .ret { tmps := tmps, defers := [{ target := .fn (.func 17) #[.pointer (some ⟨g + 1, 0, none⟩)], args := #[] }] } wx) := by
    intro wx v tmps ht hc hrow hv
    refine leaves_cons (f := 17) (args := #[.pointer (some ⟨g + 1, 0, none⟩)]) (by simp) (by simp [go_sem, invoke]) ?_
    refine (catch_idle (g + 1) wx).mono ?_
    rintro en u' w'' ⟨rfl, rfl, rfl⟩
    exact ⟨.agg (verdV v), results_cell_row rfl _ _ (g + 1) _ _ (0, 0) _ ht hrow Try.underlying35 rfl (by kernel_rfl), v, rfl, hv, hc⟩
  go_enter_defers Try.func7, Try.ntmps7
  go_wp2_with fail
  rw [HW1.out]
  refine (n_right dst hd).mono ?_
  rintro e w2 ⟨rfl, hww⟩
  subst hww
  obtain ⟨nb, hnb⟩ : ∃ nb, nameB (strL dst) = nb := ⟨_, rfl⟩
  rw [hnb]
  have HNB := Lib.hid hnb
  clear hnb
  cases nb with
  | false =>
    go_wp2_with fail
    refine (g_needNo w2 10).mono ?_
    rintro e w3 ⟨rfl, hww⟩
    subst hww
    go_wp2
    exact OUT.out _ _ _ _ _ _ _ _ rfl HC1.out HV1.out (.name HNB.out)
  | true =>
    go_wp2_with fail
    refine (g_need w2 10).mono ?_
    rintro e w3 ⟨rfl, hww⟩
    subst hww
    go_wp2_with fail
    refine (HGET.out w3 HC1.out).mono ?_
    rintro e w4 ⟨cs, rfl, hk4, hc4⟩
    obtain ⟨S, nS, sd, Kx, nK, kd, N, nN, nd, I, nI, id, E, nE, ed, T, nT, td, hlit⟩ := ans_lits hk4
    subst hlit
    have HK4 := Lib.hid hk4
    have HC4 := Lib.hid (HC1.out.thenNew hc4)
    have HV4 := Lib.hid (hc4.heap HV1.out (not_nob _))
    have HKK4 := Lib.hid (hc4.heap HK1.out (not_nob _))
    clear hk4 hc4
    have hxA := heap_alloc_new w4 (.cells #[.int .i64 (kn.getD zeroA).1, .int .u64 (kn.getD zeroA).2.1, .bool (kn.getD zeroA).2.2.1.1, .int .i64 (kn.getD zeroA).2.2.1.2.1, .string (kn.getD zeroA).2.2.1.2.2.1, .slice S nS sd, .slice Kx nK kd, .slice N nN nd, .slice I nI id, .slice E nE ed, .slice T nT td] 57)
    have hcA : Chg nob w4 (w4.alloc (.cells #[.int .i64 (kn.getD zeroA).1, .int .u64 (kn.getD zeroA).2.1, .bool (kn.getD zeroA).2.2.1.1, .int .i64 (kn.getD zeroA).2.2.1.2.1, .string (kn.getD zeroA).2.2.1.2.2.1, .slice S nS sd, .slice Kx nK kd, .slice N nN nd, .slice I nI id, .slice E nE ed, .slice T nT td] 57)) := (Chg.refl nob w4).alloc _
    go_upto_region 4 with fail
    obtain ⟨w5, hw5⟩ : ∃ w5, w4.alloc (.cells #[.int .i64 (kn.getD zeroA).1, .int .u64 (kn.getD zeroA).2.1, .bool (kn.getD zeroA).2.2.1.1, .int .i64 (kn.getD zeroA).2.2.1.2.1, .string (kn.getD zeroA).2.2.1.2.2.1, .slice S nS sd, .slice Kx nK kd, .slice N nN nd, .slice I nI id, .slice E nE ed, .slice T nT td] 57) = w5 := ⟨_, rfl⟩
    rw [hw5] at hxA hcA ⊢
    obtain ⟨ab, hab⟩ : ∃ ab, w4.heap.size = ab := ⟨_, rfl⟩
    have HAB : Hid (g + 1 < ab) := by show _ < _; rw [← hab]; exact heap_lt HV4.out
    rw [hab] at hxA ⊢
    have HXA := Lib.hid hxA
    have HC5 := Lib.hid (HC4.out.thenNew hcA)
    have HV5 := Lib.hid (hcA.heap HV4.out (not_nob _))
    have HKK5 := Lib.hid (hcA.heap HKK4.out (not_nob _))
    have HK5 := Lib.hid (Kd.chg (ansK.mono (ok' := fun b => b ≠ g + 1) (fun b hb e => by have h1 := HG.out; have h2 := heap_lt HV1.out; have h3 : w3.heap.size = w3.heap.size := rfl; rcases hb with hb | hb <;> omega) HK4.out) hcA (fun b _ => not_nob b))
    clear hxA hcA hw5 hab
    cases kn with
    | none =>
      go_wp2_with fail
      refine (g_needNo w5 61).mono ?_
      rintro e w6 ⟨rfl, hww⟩
      subst hww
      go_wp2
      exact OUT.out _ _ _ _ _ _ _ _ rfl HC5.out HV5.out (.empty HNB.out rfl)
    | some a =>
      dsimp only [Option.getD, Option.isSome] at *
      go_wp2_with fail
      refine (g_need w5 61).mono ?_
      rintro e w6 ⟨rfl, hww⟩
      subst hww
      have x0 : w6.cell? ⟨g, 0, none⟩ = some (.int .u64 k0) := by rw [cell_of_row _ _ _ _ _ _ HKK5.out]; rfl
      have x1 : w6.cell? ⟨g, 1, none⟩ = some (.int .u64 k1) := by rw [cell_of_row _ _ _ _ _ _ HKK5.out]; rfl
      go_wp2_with fail
      refine (c_check h0 h1 (Kd.C_mono (Kd.C_new HB.out HC5.out) (fun b hb => Nat.lt_of_lt_of_le hb HC5.out.size)) HM.out hmc hl).mono ?_
      rintro e w7 ⟨rfl, hc7⟩
      rw [HR.out]
      have HV7 := Lib.hid (hc7.heap HV5.out (not_nob _))
      have HXA7 := Lib.hid (hc7.heap HXA.out (not_nob _))
      have HC7 := Lib.hid (HC5.out.thenNew hc7)
      have HK7 := Lib.hid (Kd.chg HK5.out hc7 (fun b _ => not_nob b))
      clear hc7 x0 x1
      unfold tokV
      have hxB := heap_alloc_new w7 (.cells #[.string R.1.1, .int .i64 R.1.2.1, .int .u32 R.1.2.2.1, .int .u64 R.1.2.2.2] 45)
      have hcB : Chg nob w7 (w7.alloc (.cells #[.string R.1.1, .int .i64 R.1.2.1, .int .u32 R.1.2.2.1, .int .u64 R.1.2.2.2] 45)) := (Chg.refl nob w7).alloc _
      go_upto_region 6 with fail
      obtain ⟨w8, hw8⟩ : ∃ w8, w7.alloc (.cells #[.string R.1.1, .int .i64 R.1.2.1, .int .u32 R.1.2.2.1, .int .u64 R.1.2.2.2] 45) = w8 := ⟨_, rfl⟩
      rw [hw8] at hxB hcB ⊢
      obtain ⟨tb, htb⟩ : ∃ tb, w7.heap.size = tb := ⟨_, rfl⟩
      have HNEA : Hid (ab ≠ g + 1 ∧ tb ≠ g + 1) := ⟨by have := HAB.out; omega, by have := heap_lt HV7.out; omega⟩
      rw [htb] at hxB ⊢
      have HXB := Lib.hid hxB
      have HC8 := Lib.hid (HC7.out.thenNew hcB)
      have HV8 := Lib.hid (hcB.heap HV7.out (not_nob _))
      have HXA8 := Lib.hid (hcB.heap HXA7.out (not_nob _))
      have HK8 := Lib.hid (Kd.chg HK7.out hcB (fun b _ => not_nob b))
      clear hxB hcB hw8 htb
      by_cases hR0 : R.2 = 0
      · have c1 : ((R.2 : Int) == 0) = true := by simpa using hR0
        have HR0 := Lib.hid hR0
        clear hR0
        have hts : R.1.1.size ≤ 9223372036854775807 := by
          obtain ⟨T', hT1, _, hT3, _, _⟩ := chkR_back (k0 := k0) (k1 := k1) (bs := bs) (by rw [HR.out]; exact HR0.out)
          rw [HR.out] at hT1
          rw [hT1]
          unfold tokOk nameB at hT3
          rw [Bool.and_eq_true, Bool.and_eq_true, decide_eq_true_iff, decide_eq_true_iff, strL_len] at hT3
          have := hT3.1.1.2.1
          show T'.1.size ≤ _
          omega
        have HNE : Hid (ab ≠ g + 1 ∧ tb ≠ g + 1) := HNEA.out
        go_wp2_with fail
        refine (g_need w8 R.2).mono ?_
        rintro e w9 ⟨rfl, hww⟩
        subst hww
        obtain ⟨⟨y0, y1, y2, y3, y4, y5, y6, y7, y8, y9, y10⟩, -⟩ := row11c HXA8.out
        have tk0 : w9.cell? ⟨tb, 0, none⟩ = some (.string R.1.1) := by rw [cell_of_row _ _ _ _ _ _ HXB.out]; rfl
        obtain ⟨v0, v1, v2, v3, v4⟩ := row5i HV8.out
        have f0 := frz5 HV8.out 0
        have f1 := frz5 HV8.out 1
        have f2 := frz5 HV8.out 2
        have f3 := frz5 HV8.out 3
        have f4 := frz5 HV8.out 4
        have hs := set5 HV8.out (.bool false) (.int .i64 0) (.string R.1.1) (.int .u64 a.2.1) (.int .i64 0)
        obtain ⟨wA, hwA⟩ : ∃ wA, ((((w9.setCell ⟨g + 1, 0, none⟩ (.bool false)).setCell ⟨g + 1, 1, none⟩ (.int .i64 0)).setCell ⟨g + 1, 2, none⟩ (.string R.1.1)).setCell ⟨g + 1, 3, none⟩ (.int .u64 a.2.1)).setCell ⟨g + 1, 4, none⟩ (.int .i64 0) = wA := ⟨_, rfl⟩
        rw [hwA] at hs
        obtain ⟨hsr, hsc⟩ := hs
        have HWA := Lib.hid hwA
        clear hwA
        go_upto_region 8 with fail
        rw [HWA.out]
        have hg8 : g + 1 < w4.heap.size := heap_lt HV4.out
        have hne : ab ≠ g + 1 ∧ tb ≠ g + 1 := HNE.out
        have HVA := Lib.hid hsr
        have HCA : Hid (Chg nob w wA) := (HC8.out.trans hsc (fun i hi => .inr (by have h1 : i = g + 1 := hi; have := HG.out; omega)))
        clear y0 y1 y2 y3 y4 y5 y6 y7 y8 y9 y10 tk0 v0 v1 v2 v3 v4 f0 f1 f2 f3 f4
        obtain ⟨⟨y0, y1, y2, y3, y4, y5, y6, y7, y8, y9, y10⟩, -⟩ := row11c (hsc.heap HXA8.out hne.1)
        have tk0 : wA.cell? ⟨tb, 0, none⟩ = some (.string R.1.1) := by rw [cell_of_row _ _ _ _ _ _ (hsc.heap HXB.out hne.2)]; rfl
        have HKA : Hid (itnK.C wA (fun b => b < wA.heap.size) T a.2.2.2.2.2.2 ∧ a.2.2.2.2.2.2.length = nT) := by
          obtain ⟨S', sd', K', kd', N', nd', I', id', E', ed', T', td', hcs, -, -, -, -, -, hT⟩ := (ans_cells HK8.out).ex
          have h10 := congrArg (fun l : List Value => l[10]?) hcs
          simp only [List.getElem?_cons_succ, List.getElem?_cons_zero, Option.some.injEq, Value.slice.injEq] at h10
          obtain ⟨rfl, h11, -⟩ := h10
          exact ⟨Kd.C_mono (Kd.C_bound (Kd.C_chg hT.1 hsc (fun b hb e => hb e))) (fun b hb => hb.2), h11.symm⟩
        clear hsr hsc
        go_wp2_with fail
        refine (i_choose (c := td) HKA.out.1 HKA.out.2 (fun b hb => hb) R.1.1 dst df hts hd).mono ?_
        rintro e wB ⟨al, at_, rfl, hch, hcB⟩
        have HCH := Lib.hid hch
        have hvB := hcB.heap HVA.out (not_nob _)
        have HCB := Lib.hid (HCA.out.thenNew hcB)
        clear y0 y1 y2 y3 y4 y5 y6 y7 y8 y9 y10 tk0
        obtain ⟨v0, v1, v2, v3, v4⟩ := row5i hvB
        have f0 := frz5 hvB 0
        have f4 := frz5 hvB 4
        have e1 : (wB.setCell ⟨g + 1, 0, none⟩ (.bool al)).heap[g + 1]? = some (.cells #[.bool al, .int .i64 0, .string R.1.1, .int .u64 a.2.1, .int .i64 0] 35 (0, 0)) := by simpa using blk_set1 hvB 0 (.bool al)
        have e2 : ((wB.setCell ⟨g + 1, 0, none⟩ (.bool al)).setCell ⟨g + 1, 4, none⟩ (.int .i64 at_)).heap[g + 1]? = some (.cells #[.bool al, .int .i64 0, .string R.1.1, .int .u64 a.2.1, .int .i64 at_] 35 (0, 0)) := by simpa using blk_set1 e1 4 (.int .i64 at_)
        have ec : Chg (fun b => b = g + 1) wB ((wB.setCell ⟨g + 1, 0, none⟩ (.bool al)).setCell ⟨g + 1, 4, none⟩ (.int .i64 at_)) := ((Chg.refl (fun b => b = g + 1) wB).set1 0 _).set1 4 _
        obtain ⟨wC, hwC⟩ : ∃ wC, (wB.setCell ⟨g + 1, 0, none⟩ (.bool al)).setCell ⟨g + 1, 4, none⟩ (.int .i64 at_) = wC := ⟨_, rfl⟩
        rw [hwC] at e2 ec
        have HWC := Lib.hid hwC
        have HVC := Lib.hid e2
        have HCC : Hid (Chg nob w wC) := HCB.out.trans ec (fun i hi => .inr (by have h1 : i = g + 1 := hi; have := HG.out; omega))
        clear hwC e1 e2 ec hch hcB hvB
        go_upto_region 9 with fail
        rw [HWC.out]
        clear v0 v1 v2 v3 v4 f0 f4
        cases al with
        | true =>
          obtain ⟨v0, v1, v2, v3, v4⟩ := row5i HVC.out
          have f0 := frz5 HVC.out 0
          have f1 := frz5 HVC.out 1
          have f2 := frz5 HVC.out 2
          have f3 := frz5 HVC.out 3
          have f4 := frz5 HVC.out 4
          have hs := set5 HVC.out (.bool true) (.int .i64 0) (.string R.1.1) (.int .u64 a.2.1) (.int .i64 at_)
          obtain ⟨wE, hwE⟩ : ∃ wE, ((((wC.setCell ⟨g + 1, 0, none⟩ (.bool true)).setCell ⟨g + 1, 1, none⟩ (.int .i64 0)).setCell ⟨g + 1, 2, none⟩ (.string R.1.1)).setCell ⟨g + 1, 3, none⟩ (.int .u64 a.2.1)).setCell ⟨g + 1, 4, none⟩ (.int .i64 at_) = wE := ⟨_, rfl⟩
          rw [hwE] at hs
          have HS := Lib.hid hs
          clear hs
          go_wp2
          exact OUTR.out _ (true, 0, R.1.1, a.2.1, at_) _ rfl (HCC.out.trans HS.out.2 (fun i hi => .inr (by have h1 : i = g + 1 := hi; have := HG.out; omega))) HS.out.1 (.said HNB.out a rfl HR0.out true at_ HCH.out)
        | false =>
          have e1 : (wC.setCell ⟨g + 1, 1, none⟩ (.int .i64 62)).heap[g + 1]? = some (.cells #[.bool false, .int .i64 62, .string R.1.1, .int .u64 a.2.1, .int .i64 at_] 35 (0, 0)) := by simpa using blk_set1 HVC.out 1 (.int .i64 62)
          have ec : Chg (fun b => b = g + 1) wC (wC.setCell ⟨g + 1, 1, none⟩ (.int .i64 62)) := (Chg.refl (fun b => b = g + 1) wC).set1 1 _
          obtain ⟨v0, v1, v2, v3, v4⟩ := row5i HVC.out
          have f1 := frz5 HVC.out 1
          obtain ⟨wD, hwD⟩ : ∃ wD, wC.setCell ⟨g + 1, 1, none⟩ (.int .i64 62) = wD := ⟨_, rfl⟩
          rw [hwD] at e1 ec
          have HWD := Lib.hid hwD
          have HVD := Lib.hid e1
          have HCD : Hid (Chg nob w wD) := HCC.out.trans ec (fun i hi => .inr (by have h1 : i = g + 1 := hi; have := HG.out; omega))
          clear hwD e1 ec
          go_upto_region 11 with fail
          rw [HWD.out]
          clear v0 v1 v2 v3 v4 f1
          obtain ⟨v0, v1, v2, v3, v4⟩ := row5i HVD.out
          have f0 := frz5 HVD.out 0
          have f1 := frz5 HVD.out 1
          have f2 := frz5 HVD.out 2
          have f3 := frz5 HVD.out 3
          have f4 := frz5 HVD.out 4
          have hs := set5 HVD.out (.bool false) (.int .i64 62) (.string R.1.1) (.int .u64 a.2.1) (.int .i64 at_)
          obtain ⟨wE, hwE⟩ : ∃ wE, ((((wD.setCell ⟨g + 1, 0, none⟩ (.bool false)).setCell ⟨g + 1, 1, none⟩ (.int .i64 62)).setCell ⟨g + 1, 2, none⟩ (.string R.1.1)).setCell ⟨g + 1, 3, none⟩ (.int .u64 a.2.1)).setCell ⟨g + 1, 4, none⟩ (.int .i64 at_) = wE := ⟨_, rfl⟩
          rw [hwE] at hs
          have HS := Lib.hid hs
          clear hs
          go_wp2
          exact OUTR.out _ (false, 62, R.1.1, a.2.1, at_) _ rfl (HCD.out.trans HS.out.2 (fun i hi => .inr (by have h1 : i = g + 1 := hi; have := HG.out; omega))) HS.out.1 (.said HNB.out a rfl HR0.out false at_ HCH.out)
      · have c1 : ((R.2 : Int) == 0) = false := by simpa using hR0
        go_wp2_with fail
        refine (g_needNo w8 R.2).mono ?_
        rintro e w9 ⟨rfl, hww⟩
        subst hww
        go_wp2
        exact OUT.out _ _ _ _ _ _ _ _ rfl HC8.out HV8.out (.token HNB.out a rfl hR0)
#print axioms g_decide
end Go.Proofs.Ytcibdcahcpcmaaa
