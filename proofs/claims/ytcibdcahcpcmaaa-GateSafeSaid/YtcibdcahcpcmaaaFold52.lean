import Derived.Test.YtcibdcahcpcmaaaFold50
import Derived.Test.YtcibdcahcpcmaaaFold51
/- What the law GateDecides answers. -/
namespace Go.Proofs.Ytcibdcahcpcmaaa
open Go.RowKit
set_option linter.unusedVariables false
set_option linter.unusedSimpArgs false
set_option maxRecDepth 100000
theorem GVerd.det {R : Tok × Nat} {kn : Option Ans} {dst : ByteArray} {df : Bool} {v v' : Verd} (h : GVerd R kn dst df v) (h' : GVerd R kn dst df v') : v = v' := by
  cases h with
  | name h =>
    cases h' with
    | name _ => rfl
    | empty h2 _ => rw [h] at h2; cases h2
    | token h2 => rw [h] at h2; cases h2
    | said h2 => rw [h] at h2; cases h2
  | empty h hk =>
    cases h' with
    | name h2 => rw [h] at h2; cases h2
    | empty _ _ => rfl
    | token _ a hk2 => rw [hk] at hk2; cases hk2
    | said _ a hk2 => rw [hk] at hk2; cases hk2
  | token h a hk hR =>
    cases h' with
    | name h2 => rw [h] at h2; cases h2
    | empty _ hk2 => rw [hk] at hk2; cases hk2
    | token _ _ _ _ => rfl
    | said _ _ _ hR2 => exact absurd hR2 hR
  | said h a hk hR al at_ hc =>
    cases h' with
    | name h2 => rw [h] at h2; cases h2
    | empty _ hk2 => rw [hk] at hk2; cases hk2
    | token _ _ _ hR2 => exact absurd hR hR2
    | said _ a2 hk2 _ al2 at2 hc2 =>
      rw [hk] at hk2
      cases hk2
      obtain ⟨rfl, rfl⟩ := hc.det hc2
      rfl
theorem eqVerd (v : Verd) (w : World) : (binOp .eql 35 (.agg #[.bool v.1, .int .i64 v.2.1, .string v.2.2.1, .int .u64 v.2.2.2.1, .int .i64 v.2.2.2.2]) (.agg #[.bool v.1, .int .i64 v.2.1, .string v.2.2.1, .int .u64 v.2.2.2.1, .int .i64 v.2.2.2.2])).run Try.prog w = .ok (.bool true) w := by
  have u1 := Try.underlying9
  have u2 := Try.underlying3
  have u3 := Try.underlying4
  have u4 := Try.underlying24
  have u5 := Try.underlying33
  rw [run_eql_struct, show (10000 : Nat) = 9999 + 1 from rfl]
  rw [run_equalIn_agg w 9999 _ _ _ (by kernel_rfl) (by kernel_rfl)]
  simp only [Program.fieldsOf, Try.underlying35]
  go_simp
set_option maxHeartbeats 4000000 in
theorem gateDecides_walk {w : World} {okl : Nat → Prop} {NA AA A : Option Addr} {n1 c1 n2 c2 m c : Nat} {ns : List ByteArray} {asl : List Ans} {bs : List UInt8} (hN : strK.C w okl NA ns) (hA : ansK.C w okl AA asl) (hn1 : ns.length = n1) (hn2 : asl.length = n2) (hok : ∀ b, okl b → b < w.heap.size) (hz : ∀ s ∈ ns, s.size ≤ 9223372036854775807) {k0 k1 : Nat} (h0 : k0 < 18446744073709551616) (h1 : k1 < 18446744073709551616)
    (hb : Kd.byte.C w (fun b => b < w.heap.size) A bs) (hm : bs.length = m) (hmc : m ≤ c) (hl : m ≤ 140737488351232) {dst : ByteArray} (hd : dst.size ≤ 9223372036854775807) (df : Bool) :
    Calls Try.prog 3 #[.agg #[.slice NA n1 c1, .slice AA n2 c2, .int .u64 k0, .int .u64 k1, .slice A m c, .string dst, .bool df]] w fun e w' => e = .returned (.bool true) ∧ Chg nob w w' := by
  obtain ⟨cb, hcb⟩ : ∃ cb, w.heap.size = cb := ⟨_, rfl⟩
  obtain ⟨w1, hw1⟩ : ∃ w1, w.alloc (.cells #[.slice NA n1 c1, .slice AA n2 c2, .int .u64 k0, .int .u64 k1, .slice A m c, .string dst, .bool df] 28) = w1 := ⟨_, rfl⟩
  have hb1 := heap_alloc_new w (.cells #[.slice NA n1 c1, .slice AA n2 c2, .int .u64 k0, .int .u64 k1, .slice A m c, .string dst, .bool df] 28)
  have hc1 : Chg nob w w1 := by rw [← hw1]; exact (Chg.refl nob w).alloc _
  rw [hw1, hcb] at hb1
  have HB1 := Lib.hid hb1
  have HC1 := Lib.hid hc1
  have HNN := Lib.hid (Kd.C_new hN hc1)
  have HAA := Lib.hid (Kd.C_new hA hc1)
  have HBB := Lib.hid hb
  have HM := Lib.hid hm
  have HN1 := Lib.hid hn1
  have HN2 := Lib.hid hn2
  have HOK : Hid (∀ b, okl b → b < w1.heap.size) := fun b hb => Nat.lt_of_lt_of_le (hok b hb) hc1.size
  have HZ := Lib.hid hz
  obtain ⟨R, hR⟩ : ∃ R, chkR k0 k1 bs = R := ⟨_, rfl⟩
  have HR := Lib.hid hR
  have HW1 := Lib.hid hw1
  have HEQ := Lib.hid eqVerd
  obtain ⟨x0, x1, x2, x3, x4, x5, x6⟩ := row7c hb1
  clear hb1 hc1 hN hA hn1 hn2 hok hz hb hm hR hw1
  go_enter Try.func3, Try.ntmps3
  go_upto_region 1 with fail
  rw [HW1.out]
  go_wp2_with fail
  refine (g_known HNN.out HAA.out HN1.out HN2.out HOK.out HZ.out (k0 : Int) (k1 : Int) (.slice A m c) dst df).mono ?_
  rintro e w2 ⟨cc, g, rfl, hp, hc2⟩
  obtain ⟨own, rown, l, mm, hpd⟩ := hp.ex
  have HPD := Lib.hid hpd
  have HC2 := Lib.hid (HC1.out.thenNew hc2)
  have HB2 := Lib.hid (hc2.heap HB1.out (not_nob _))
  have HOK2 : Hid (∀ b, okl b → b < w2.heap.size) := fun b hb => Nat.lt_of_lt_of_le (HOK.out b hb) hc2.size
  clear hp hpd hc2 x0 x1 x2 x3 x4 x5 x6
  obtain ⟨x0, x1, x2, x3, x4, x5, x6⟩ := row7c HB2.out
  go_wp2_with fail
  refine (g_decide (getC_cst HPD.out.cst dst) hd h0 h1 (Kd.C_mono (Kd.C_new HBB.out HC2.out) (fun b hb => Nat.lt_of_lt_of_le hb HC2.out.size)) HM.out hmc hl df).mono ?_
  rintro e w5 ⟨v, rfl, hv, hc5⟩
  rw [HR.out] at hv
  have HV := Lib.hid hv
  have HC5 := Lib.hid hc5
  clear hv hc5 x0 x1 x2 x3 x4 x5 x6
  unfold verdV
  have hcV : Chg nob w5 (w5.alloc (.cells #[.bool v.1, .int .i64 v.2.1, .string v.2.2.1, .int .u64 v.2.2.2.1, .int .i64 v.2.2.2.2] 35)) := (Chg.refl nob w5).alloc _
  have hxV := heap_alloc_new w5 (.cells #[.bool v.1, .int .i64 v.2.1, .string v.2.2.1, .int .u64 v.2.2.2.1, .int .i64 v.2.2.2.2] 35)
  go_upto_region 3 with fail
  obtain ⟨w6, hw6⟩ : ∃ w6, w5.alloc (.cells #[.bool v.1, .int .i64 v.2.1, .string v.2.2.1, .int .u64 v.2.2.2.1, .int .i64 v.2.2.2.2] 35) = w6 := ⟨_, rfl⟩
  rw [hw6] at hcV hxV ⊢
  obtain ⟨vb, hvb⟩ : ∃ vb, w5.heap.size = vb := ⟨_, rfl⟩
  rw [hvb] at hxV ⊢
  have HC26 := Lib.hid (HC5.out.thenNew hcV)
  have HC6 := Lib.hid (HC2.out.thenNew HC26.out)
  have HXV := Lib.hid hxV
  have HB6 := Lib.hid (HC26.out.heap HB2.out (not_nob _))
  have HOK6 : Hid (∀ b, okl b → b < w6.heap.size) := fun b hb => Nat.lt_of_lt_of_le (HOK2.out b hb) HC26.out.size
  have HML : Hid (mm.length ≤ 1000) := by show _ ≤ _; rw [HPD.out.mlen]; have := HPD.out.len; omega
  clear hw6 hcV hxV hvb
  obtain ⟨x0, x1, x2, x3, x4, x5, x6⟩ := row7c HB6.out
  go_wp2_with fail
  refine (r_decide (HPD.out.rst.new HC26.out) HML.out HOK6.out hd h0 h1 (Kd.C_mono (Kd.C_new HBB.out HC6.out) (fun b hb => Nat.lt_of_lt_of_le hb HC6.out.size)) HM.out hmc hl df).mono ?_
  rintro e w7 ⟨u, rfl, hu, hc7⟩
  rw [HR.out] at hu
  have hvu := GVerd.det HV.out hu
  subst hvu
  have HXV7 := Lib.hid (hc7.heap HXV.out (not_nob _))
  have HC7 := Lib.hid (HC6.out.thenNew hc7)
  clear hu hc7 x0 x1 x2 x3 x4 x5 x6
  unfold verdV
  have hcU : Chg nob w7 (w7.alloc (.cells #[.bool v.1, .int .i64 v.2.1, .string v.2.2.1, .int .u64 v.2.2.2.1, .int .i64 v.2.2.2.2] 38)) := (Chg.refl nob w7).alloc _
  have hxU := heap_alloc_new w7 (.cells #[.bool v.1, .int .i64 v.2.1, .string v.2.2.1, .int .u64 v.2.2.2.1, .int .i64 v.2.2.2.2] 38)
  go_upto_region 4 with fail
  obtain ⟨w8, hw8⟩ : ∃ w8, w7.alloc (.cells #[.bool v.1, .int .i64 v.2.1, .string v.2.2.1, .int .u64 v.2.2.2.1, .int .i64 v.2.2.2.2] 38) = w8 := ⟨_, rfl⟩
  rw [hw8] at hcU hxU ⊢
  obtain ⟨ub, hub⟩ : ∃ ub, w7.heap.size = ub := ⟨_, rfl⟩
  rw [hub] at hxU ⊢
  have HC8 := Lib.hid (HC7.out.thenNew hcU)
  obtain ⟨y0, y1, y2, y3, y4⟩ := row5i (hcU.heap HXV7.out (not_nob _))
  obtain ⟨z0, z1, z2, z3, z4⟩ := row5i hxU
  have heq := eqVerd v w8
  clear hw8 hcU hxU hub
  obtain ⟨v0, v1, v2, v3, v4⟩ := v
  dsimp only at *
  go_wp2_with fail
  refine (gate_works w8).mono ?_
  rintro e w9 ⟨rfl, hc9⟩
  have HC9 := Lib.hid (HC8.out.thenNew hc9)
  clear hc9
  go_wp2
  go_ret
  exact ⟨rfl, HC9.out⟩
#print axioms gateDecides_walk
end Go.Proofs.Ytcibdcahcpcmaaa
