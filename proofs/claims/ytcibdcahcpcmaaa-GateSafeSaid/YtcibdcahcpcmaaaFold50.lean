import Derived.Test.YtcibdcahcpcmaaaFold49
import Derived.Test.YtcibdcahcpcmaaaFold06
/- What the law GateForged answers. -/
namespace Go.Proofs.Ytcibdcahcpcmaaa
open Go.RowKit
set_option linter.unusedVariables false
set_option linter.unusedSimpArgs false
set_option maxRecDepth 100000
theorem chkR_errs (k0 k1 : Nat) (bs : List UInt8) : (chkR k0 k1 bs).2 = 0 ∨ (chkR k0 k1 bs).2 = 40 ∨ (chkR k0 k1 bs).2 = 60 := by
  unfold chkR
  split
  · exact .inr (.inl rfl)
  · split
    · exact .inr (.inl rfl)
    · split
      · exact .inl rfl
      · exact .inr (.inr rfl)
theorem forged_verd {R : Tok × Nat} {kn : Option Ans} {dst : ByteArray} {df : Bool} {v : Verd} (h : GVerd R kn dst df v) (h0 : R.2 ≠ 0) (he : R.2 = 40 ∨ R.2 = 60) : ∃ e : Int, v = noV e ∧ e ≠ 0 ∧ e ≠ 62 := by
  cases h with
  | name h => exact ⟨10, rfl, by decide, by decide⟩
  | empty _ h => exact ⟨61, rfl, by decide, by decide⟩
  | token _ a hk hR => exact ⟨R.2, rfl, by omega, by omega⟩
  | said _ a hk hR al at_ hc => exact absurd hR h0
set_option maxHeartbeats 4000000 in
theorem gateForged_walk {w : World} {okl : Nat → Prop} {NA AA A : Option Addr} {n1 c1 n2 c2 m c : Nat} {ns : List ByteArray} {asl : List Ans} {bs : List UInt8} (hN : strK.C w okl NA ns) (hA : ansK.C w okl AA asl) (hn1 : ns.length = n1) (hn2 : asl.length = n2) (hok : ∀ b, okl b → b < w.heap.size) (hz : ∀ s ∈ ns, s.size ≤ 9223372036854775807) {k0 k1 : Nat} (h0 : k0 < 18446744073709551616) (h1 : k1 < 18446744073709551616)
    (hb : Kd.byte.C w (fun b => b < w.heap.size) A bs) (hm : bs.length = m) (hmc : m ≤ c) (hl : m ≤ 140737488351232) {dst : ByteArray} (hd : dst.size ≤ 9223372036854775807) (df : Bool) :
    Calls Try.prog 5 #[.agg #[.slice NA n1 c1, .slice AA n2 c2, .int .u64 k0, .int .u64 k1, .slice A m c, .string dst, .bool df]] w fun e w' => e = .returned (.bool true) ∧ Chg nob w w' := by
  obtain ⟨cb, hcb⟩ : ∃ cb, w.heap.size = cb := ⟨_, rfl⟩
  obtain ⟨w1, hw1⟩ : ∃ w1, w.alloc (.cells #[.slice NA n1 c1, .slice AA n2 c2, .int .u64 k0, .int .u64 k1, .slice A m c, .string dst, .bool df] 28) = w1 := ⟨_, rfl⟩
  have hb1 := heap_alloc_new w (.cells #[.slice NA n1 c1, .slice AA n2 c2, .int .u64 k0, .int .u64 k1, .slice A m c, .string dst, .bool df] 28)
  have hc1 : Chg nob w w1 := by rw [← hw1]; exact (Chg.refl nob w).alloc _
  rw [hw1, hcb] at hb1
  have HB1 := Lib.hid hb1
  have HC1 := Lib.hid hc1
  have HNN := Lib.hid (Kd.C_new hN hc1)
  have HAA := Lib.hid (Kd.C_new hA hc1)
  have HBB := Lib.hid hb
  have HM := Lib.hid hm
  have HN1 := Lib.hid hn1
  have HN2 := Lib.hid hn2
  have HOK : Hid (∀ b, okl b → b < w1.heap.size) := fun b hb => Nat.lt_of_lt_of_le (hok b hb) hc1.size
  have HZ := Lib.hid hz
  obtain ⟨R, hR⟩ : ∃ R, chkR k0 k1 bs = R := ⟨_, rfl⟩
  have hre := chkR_errs k0 k1 bs
  rw [hR] at hre
  have HRE := Lib.hid hre
  have HR := Lib.hid hR
  have HW1 := Lib.hid hw1
  obtain ⟨x0, x1, x2, x3, x4, x5, x6⟩ := row7c hb1
  clear hb1 hc1 hN hA hn1 hn2 hok hz hb hm hR hre hw1
  go_enter Try.func5, Try.ntmps5
  go_upto_region 1 with fail
  rw [HW1.out]
  go_wp2_with fail
  refine (g_known HNN.out HAA.out HN1.out HN2.out HOK.out HZ.out (k0 : Int) (k1 : Int) (.slice A m c) dst df).mono ?_
  rintro e w2 ⟨cc, g, rfl, hp, hc2⟩
  obtain ⟨own, rown, l, mm, hpd⟩ := hp.ex
  have HPD := Lib.hid hpd
  have HC2 := Lib.hid (HC1.out.thenNew hc2)
  have HB2 := Lib.hid (hc2.heap HB1.out (not_nob _))
  clear hp hpd hc2 x0 x1 x2 x3 x4 x5 x6
  obtain ⟨x0, x1, x2, x3, x4, x5, x6⟩ := row7c HB2.out
  go_wp2_with fail
  refine (c_check h0 h1 (Kd.C_mono (Kd.C_new HBB.out HC2.out) (fun b hb => Nat.lt_of_lt_of_le hb HC2.out.size)) HM.out hmc hl).mono ?_
  rintro e w3 ⟨rfl, hc3⟩
  rw [HR.out]
  unfold tokV
  have hcT : Chg nob w3 (w3.alloc (.cells #[.string R.1.1, .int .i64 R.1.2.1, .int .u32 R.1.2.2.1, .int .u64 R.1.2.2.2] 45)) := (Chg.refl nob w3).alloc _
  have HC3' := Lib.hid (hc3.thenNew hcT)
  clear x0 x1 x2 x3 x4 x5 x6 hc3 hcT
  go_upto_region 3 with fail
  obtain ⟨w4, hw4⟩ : ∃ w4, w3.alloc (.cells #[.string R.1.1, .int .i64 R.1.2.1, .int .u32 R.1.2.2.1, .int .u64 R.1.2.2.2] 45) = w4 := ⟨_, rfl⟩
  rw [hw4] at HC3' ⊢
  have HC4 := Lib.hid (HC2.out.thenNew HC3'.out)
  have HB4 := Lib.hid (HC3'.out.heap HB2.out (not_nob _))
  have HG4 := Lib.hid (getC_cst (HPD.out.cst.new HC3'.out) dst)
  clear hw4
  obtain ⟨x0, x1, x2, x3, x4, x5, x6⟩ := row7c HB4.out
  go_wp2_with fail
  refine (g_decide HG4.out hd h0 h1 (Kd.C_mono (Kd.C_new HBB.out HC4.out) (fun b hb => Nat.lt_of_lt_of_le hb HC4.out.size)) HM.out hmc hl df).mono ?_
  rintro e w5 ⟨v, rfl, hv, hc5⟩
  rw [HR.out] at hv
  have HV := Lib.hid hv
  have HC5 := Lib.hid (HC4.out.thenNew hc5)
  clear hv hc5 x0 x1 x2 x3 x4 x5 x6
  unfold verdV
  have hcV : Chg nob w5 (w5.alloc (.cells #[.bool v.1, .int .i64 v.2.1, .string v.2.2.1, .int .u64 v.2.2.2.1, .int .i64 v.2.2.2.2] 35)) := (Chg.refl nob w5).alloc _
  have hxV := heap_alloc_new w5 (.cells #[.bool v.1, .int .i64 v.2.1, .string v.2.2.1, .int .u64 v.2.2.2.1, .int .i64 v.2.2.2.2] 35)
  go_upto_region 4 with fail
  obtain ⟨w6, hw6⟩ : ∃ w6, w5.alloc (.cells #[.bool v.1, .int .i64 v.2.1, .string v.2.2.1, .int .u64 v.2.2.2.1, .int .i64 v.2.2.2.2] 35) = w6 := ⟨_, rfl⟩
  rw [hw6] at hcV hxV ⊢
  have HC6 := Lib.hid (HC5.out.thenNew hcV)
  have HXV := Lib.hid hxV
  clear hw6 hcV hxV
  by_cases hR0 : R.2 = 0
  · have r1 : ((R.2 : Int) == 0) = true := by simpa using hR0
    go_wp2_with fail
    refine (gate_works w6).mono ?_
    rintro e w7 ⟨rfl, hc7⟩
    have HC7 := Lib.hid (HC6.out.thenNew hc7)
    clear hc7
    go_wp2
    go_ret
    exact ⟨rfl, HC7.out⟩
  · have r1 : ((R.2 : Int) == 0) = false := by simpa using hR0
    obtain ⟨ev, rfl, he0, he62⟩ := forged_verd HV.out hR0 (HRE.out.resolve_left hR0)
    have e1 : (ev != 0) = true := by simpa using he0
    have e2 : (ev != 62) = true := by simpa using he62
    have hrow := HXV.out
    dsimp only [noV] at hrow
    obtain ⟨y0, y1, y2, y3, y4⟩ := row5i hrow
    clear hrow
    go_wp2_with fail
    refine (gate_works w6).mono ?_
    rintro e w7 ⟨rfl, hc7⟩
    have HC7 := Lib.hid (HC6.out.thenNew hc7)
    clear hc7
    go_wp2
    go_ret
    exact ⟨rfl, HC7.out⟩
#print axioms gateForged_walk
end Go.Proofs.Ytcibdcahcpcmaaa

/- A case as an argument, as it is read; the law GateForged of what is read. -/
namespace Go.Proofs.Ytcibdcahcpcmaaa
open Go.RowKit
set_option linter.unusedVariables false
set_option linter.unusedSimpArgs false
abbrev Cas := List ByteArray × List Ans × (Int × Int) × List UInt8 × ByteArray × Bool
abbrev casW : Kd Cas := Kd.pair tagsW (Kd.pair (listK ansW 192) (Kd.pair (Kd.pair (intA .u64) (intA .u64)) (Kd.pair (listK Kd.byte 1) (Kd.pair strW Kd.bool))))
theorem u64_nat {x : Int} (h : (Lit.int .u64 x).wf = true) : ∃ n : Nat, x = n ∧ n < 18446744073709551616 := by
  have h1 : IntKind.u64.min ≤ x ∧ x ≤ IntKind.u64.max := by simp only [Lit.wf, Bool.and_eq_true, decide_eq_true_eq] at h; exact h
  have h2 : (0 : Int) ≤ x := h1.1
  have h3 : x ≤ 18446744073709551615 := h1.2
  exact ⟨x.toNat, by omega, by omega⟩
theorem C_each {α : Type} {d : Kd α} {w : World} {ok : Nat → Prop} {A : Option Addr} {xs : List α} (h : d.C w ok A xs) : ∀ x ∈ xs, ∃ c, d.K w ok x c := by
  obtain ⟨_, inner, hr, _⟩ := h
  intro x hx
  obtain ⟨j, hj⟩ := List.mem_iff_getElem?.1 hx
  exact ⟨_, hr.2 j x hj⟩
/-- What a case's cells say. -/
structure CasV (w : World) (x : Cas) (cs : Array Value) : Prop where
  ex : ∃ NA c1 AA c2 A c, ∃ k0 k1 : Nat, cs = #[.slice NA x.1.length c1, .slice AA x.2.1.length c2, .int .u64 k0, .int .u64 k1, .slice A x.2.2.2.1.length c, .string x.2.2.2.2.1, .bool x.2.2.2.2.2] ∧ k0 < 18446744073709551616 ∧ k1 < 18446744073709551616 ∧
    strK.C w (fun b => b < w.heap.size) NA x.1 ∧ ansK.C w (fun b => b < w.heap.size) AA x.2.1 ∧ Kd.byte.C w (fun b => b < w.heap.size) A x.2.2.2.1 ∧ x.2.2.2.1.length ≤ c ∧ x.2.2.2.1.length ≤ 140737488351232 ∧ x.2.2.2.2.1.size ≤ 9223372036854775807 ∧ ∀ s ∈ x.1, s.size ≤ 9223372036854775807
theorem cas_arg {w : World} {x : Cas} {cs : Array Value} (h : casW.K w (fun b => b < w.heap.size) x cs.toList) : CasV w x cs := by
  obtain ⟨c0, _, e, ⟨⟨NA, nc, rfl, hl1, hN⟩, _⟩, c1, _, rfl, ⟨⟨AA, ac, rfl, hl2, hA⟩, _⟩, c2, _, rfl, ⟨d0, d1, rfl, ⟨hk0, hw0⟩, ⟨hk1, hw1⟩⟩, c3, _, rfl, ⟨⟨B, bc, rfl, hl3, hB⟩, hb3⟩, c4, c5, rfl, ⟨hs, hsz⟩, hbool⟩ := h
  have hk0' : d0 = [.int .u64 x.2.2.1.1] := hk0
  have hk1' : d1 = [.int .u64 x.2.2.1.2] := hk1
  have hs' : c4 = [.string x.2.2.2.2.1] := hs
  have hb' : c5 = [.bool x.2.2.2.2.2] := hbool
  subst hk0' hk1' hs' hb'
  obtain ⟨k0, e0, l0⟩ := u64_nat hw0
  obtain ⟨k1, e1, l1⟩ := u64_nat hw1
  rw [e0, e1] at e
  refine ⟨NA, nc, AA, ac, B, bc, k0, k1, Array.toList_inj.1 (by rw [e]; rfl), l0, l1, str_le.C hN, ans_le.C hA, hB, hl3, by omega, by omega, fun s hs => ?_⟩
  obtain ⟨c, hc⟩ := C_each hN s hs
  have := hc.2
  omega
theorem gateForged_row {w : World} {x : Cas} {cs : Array Value} (h : casW.K w (fun b => b < w.heap.size) x cs.toList) :
    Calls Try.prog 5 #[.agg cs] w fun e w' => e = .returned (.bool true) ∧ Chg nob w w' := by
  obtain ⟨NA, c1, AA, c2, A, c, k0, k1, rfl, h0, h1, hN, hA, hB, hc, hl, hd, hz⟩ := (cas_arg h).ex
  exact gateForged_walk hN hA rfl rfl (fun b hb => hb) hz h0 h1 hB rfl hc hl hd x.2.2.2.2.2
end Go.Proofs.Ytcibdcahcpcmaaa
