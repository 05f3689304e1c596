import Derived.Test.YtcibdcahcpcmaaaFold52
/- What the law GateSafe answers. -/
namespace Go.Proofs.Ytcibdcahcpcmaaa
open Go.RowKit
set_option linter.unusedVariables false
set_option linter.unusedSimpArgs false
set_option maxRecDepth 100000
theorem verd_sure {R : Tok × Nat} {kn : Option Ans} {dst : ByteArray} {df : Bool} {v : Verd} (h : GVerd R kn dst df v) : (v.1 == (v.2.1 == 0)) = true := by
  cases h with
  | name _ => rfl
  | empty _ _ => rfl
  | token _ a hk hR =>
    have h1 : (((R.2 : Nat) : Int) == 0) = false := by simpa using hR
    show (false == (((R.2 : Nat) : Int) == 0)) = true
    rw [h1]
    rfl
  | said _ a hk hR al at_ hc => cases al <;> rfl
theorem verd_none {R : Tok × Nat} {dst : ByteArray} {df : Bool} {v : Verd} (h : GVerd R none dst df v) : ∃ e : Int, v = noV e ∧ e ≠ 0 := by
  cases h with
  | name _ => exact ⟨10, rfl, by decide⟩
  | empty _ _ => exact ⟨61, rfl, by decide⟩
  | token _ a hk hR => cases hk
  | said _ a hk hR al at_ hc => cases hk
theorem verd_yes {R : Tok × Nat} {kn : Option Ans} {dst : ByteArray} {df : Bool} {v : Verd} (h : GVerd R kn dst df v) (h1 : v.1 = true) : ∃ (a : Ans) (at_ : Int), kn = some a ∧ R.2 = 0 ∧ ChPost a.2.2.2.2.2.2 R.1.1 dst df true at_ ∧ v = (true, 0, R.1.1, a.2.1, at_) := by
  cases h with
  | name _ => cases h1
  | empty _ _ => cases h1
  | token _ a hk hR => cases h1
  | said _ a hk hR al at_ hc =>
    have h2 : al = true := h1
    subst h2
    exact ⟨a, at_, hk, hR, hc, rfl⟩
def NoRow (w w' : World) (b : Nat) : Prop := ∃ ev : Int, ev ≠ 0 ∧ w'.heap[b]? = some (.cells #[.bool false, .int .i64 ev, .string ⟨#[]⟩, .int .u64 0, .int .i64 (-1)] 35 (0, 0)) ∧ Chg nob w w'
set_option maxHeartbeats 4000000 in
theorem gateSafe_walk {w : World} {okl : Nat → Prop} {NA AA A : Option Addr} {n1 c1 n2 c2 m c : Nat} {ns : List ByteArray} {asl : List Ans} {bs : List UInt8} (hN : strK.C w okl NA ns) (hA : ansK.C w okl AA asl) (hn1 : ns.length = n1) (hn2 : asl.length = n2) (hok : ∀ b, okl b → b < w.heap.size) (hz : ∀ s ∈ ns, s.size ≤ 9223372036854775807) {k0 k1 : Nat} (h0 : k0 < 18446744073709551616) (h1 : k1 < 18446744073709551616)
    (hb : Kd.byte.C w (fun b => b < w.heap.size) A bs) (hm : bs.length = m) (hmc : m ≤ c) (hl : m ≤ 140737488351232) {dst : ByteArray} (hd : dst.size ≤ 9223372036854775807) (df : Bool) :
    Calls Try.prog 4 #[.agg #[.slice NA n1 c1, .slice AA n2 c2, .int .u64 k0, .int .u64 k1, .slice A m c, .string dst, .bool df]] w fun e w' => e = .returned (.bool true) ∧ Chg nob w w' := by
  obtain ⟨cb, hcb⟩ : ∃ cb, w.heap.size = cb := ⟨_, rfl⟩
  obtain ⟨w1, hw1⟩ : ∃ w1, w.alloc (.cells #[.slice NA n1 c1, .slice AA n2 c2, .int .u64 k0, .int .u64 k1, .slice A m c, .string dst, .bool df] 28) = w1 := ⟨_, rfl⟩
  have hb1 := heap_alloc_new w (.cells #[.slice NA n1 c1, .slice AA n2 c2, .int .u64 k0, .int .u64 k1, .slice A m c, .string dst, .bool df] 28)
  have hc1 : Chg nob w w1 := by rw [← hw1]; exact (Chg.refl nob w).alloc _
  rw [hw1, hcb] at hb1
  have HB1 := Lib.hid hb1
  have HC1 := Lib.hid hc1
  have HNN := Lib.hid (Kd.C_new hN hc1)
  have HAA := Lib.hid (Kd.C_new hA hc1)
  have HBB := Lib.hid hb
  have HM := Lib.hid hm
  have HN1 := Lib.hid hn1
  have HN2 := Lib.hid hn2
  have HOK : Hid (∀ b, okl b → b < w1.heap.size) := fun b hb => Nat.lt_of_lt_of_le (hok b hb) hc1.size
  have HZ := Lib.hid hz
  obtain ⟨R, hR⟩ : ∃ R, chkR k0 k1 bs = R := ⟨_, rfl⟩
  have HR := Lib.hid hR
  have HW1 := Lib.hid hw1
  obtain ⟨x0, x1, x2, x3, x4, x5, x6⟩ := row7c hb1
  clear hb1 hc1 hN hA hn1 hn2 hok hz hb hm hR hw1
  go_enter Try.func4, Try.ntmps4
  go_upto_region 1 with fail
  rw [HW1.out]
  go_wp2_with fail
  refine (g_known HNN.out HAA.out HN1.out HN2.out HOK.out HZ.out (k0 : Int) (k1 : Int) (.slice A m c) dst df).mono ?_
  rintro e w2 ⟨cc, g, rfl, hp, hc2⟩
  obtain ⟨own, rown, l, mm, hpd⟩ := hp.ex
  have HPD := Lib.hid hpd
  have HC2 := Lib.hid (HC1.out.thenNew hc2)
  have HB2 := Lib.hid (hc2.heap HB1.out (not_nob _))
  have HOK2 : Hid (∀ b, okl b → b < w2.heap.size) := fun b hb => Nat.lt_of_lt_of_le (HOK.out b hb) hc2.size
  clear hp hpd hc2 x0 x1 x2 x3 x4 x5 x6
  obtain ⟨x0, x1, x2, x3, x4, x5, x6⟩ := row7c HB2.out
  go_wp2_with fail
  refine (g_decide (getC_cst HPD.out.cst dst) hd h0 h1 (Kd.C_mono (Kd.C_new HBB.out HC2.out) (fun b hb => Nat.lt_of_lt_of_le hb HC2.out.size)) HM.out hmc hl df).mono ?_
  rintro e w5 ⟨v, rfl, hv, hc5⟩
  rw [HR.out] at hv
  have HV := Lib.hid hv
  have HC5 := Lib.hid hc5
  clear hv hc5 x0 x1 x2 x3 x4 x5 x6
  unfold verdV
  have hcV : Chg nob w5 (w5.alloc (.cells #[.bool v.1, .int .i64 v.2.1, .string v.2.2.1, .int .u64 v.2.2.2.1, .int .i64 v.2.2.2.2] 35)) := (Chg.refl nob w5).alloc _
  have hxV := heap_alloc_new w5 (.cells #[.bool v.1, .int .i64 v.2.1, .string v.2.2.1, .int .u64 v.2.2.2.1, .int .i64 v.2.2.2.2] 35)
  go_upto_region 3 with fail
  obtain ⟨w6, hw6⟩ : ∃ w6, w5.alloc (.cells #[.bool v.1, .int .i64 v.2.1, .string v.2.2.1, .int .u64 v.2.2.2.1, .int .i64 v.2.2.2.2] 35) = w6 := ⟨_, rfl⟩
  rw [hw6] at hcV hxV ⊢
  obtain ⟨vb, hvb⟩ : ∃ vb, w5.heap.size = vb := ⟨_, rfl⟩
  rw [hvb] at hxV ⊢
  have HC26 := Lib.hid (HC5.out.thenNew hcV)
  have HC6 := Lib.hid (HC2.out.thenNew HC26.out)
  have HXV := Lib.hid hxV
  have HB6 := Lib.hid (HC26.out.heap HB2.out (not_nob _))
  have HOK6 : Hid (∀ b, okl b → b < w6.heap.size) := fun b hb => Nat.lt_of_lt_of_le (HOK2.out b hb) HC26.out.size
  have HML : Hid (mm.length ≤ 1000) := by show _ ≤ _; rw [HPD.out.mlen]; have := HPD.out.len; omega
  clear hw6 hcV hxV hvb
  obtain ⟨x0, x1, x2, x3, x4, x5, x6⟩ := row7c HB6.out
  have hsure := verd_sure HV.out
  obtain ⟨y0, y1, y2, y3, y4⟩ := row5i HXV.out
  have hbs : (v.1 == (v.2.1 == 0)) = true := hsure
  clear hsure
  go_upto_region 5 with fail
  clear hbs y0 y1 y2 y3 y4 x0 x1 x2 x3 x4 x5 x6
  go_cut [6] (fun p wx => ∃ b, p = .pointer (some ⟨b, 0, none⟩) ∧ Hid (NoRow w6 wx b))
  case first =>
    refine wp_region_held_drew (S := fun wx => Chg nob w6 wx) (by kernel_rfl) (((Chg.refl nob w6).drew)) (fun hHeld => ?_)
    refine wpAnyH_take (i := 1) (v := ?_) (pickS pick0) (by kernel_rfl) (by kernel_rfl) (by kernel_rfl) (fun _ _ _ h => h) (Or.inl ⟨by rfl, ?_⟩) (by assumption) ?_
    rotate_left 1
    · (intro wx hSw; go_simp; try with_reducible rfl)
    try simp only [Act.put, List.setIfInBounds_toArray, List.set_cons_zero, List.set_cons_succ]
    refine wpAnyH_take (i := 2) (v := ?_) (pickS (pickS pick0)) (by kernel_rfl) (by kernel_rfl) (by kernel_rfl) (fun _ _ _ h => h) (Or.inl ⟨by rfl, ?_⟩) (by assumption) ?_
    rotate_left 1
    · (intro wx hSw; obtain ⟨x0, x1, x2, x3, x4, x5, x6⟩ := row7c (hSw.heap HB6.out (not_nob _)); go_simp; try with_reducible rfl)
    try simp only [Act.put, List.setIfInBounds_toArray, List.set_cons_zero, List.set_cons_succ]
    refine wpAnyH_take (i := 3) (v := ?_) (pickS (pickS (pickS pick0))) (by kernel_rfl) (by kernel_rfl) (by kernel_rfl) (fun _ _ _ h => h) (Or.inl ⟨by rfl, ?_⟩) (by assumption) ?_
    rotate_left 1
    · (intro wx hSw; go_simp; try with_reducible rfl)
    try simp only [Act.put, List.setIfInBounds_toArray, List.set_cons_zero, List.set_cons_succ]
    refine wpAnyH_take (i := 4) (v := ?_) (pickS (pickS (pickS (pickS pick0)))) (by kernel_rfl) (by kernel_rfl) (by kernel_rfl) (fun _ _ _ h => h) (Or.inl ⟨by rfl, ?_⟩) (by assumption) ?_
    rotate_left 1
    · (intro wx hSw; obtain ⟨x0, x1, x2, x3, x4, x5, x6⟩ := row7c (hSw.heap HB6.out (not_nob _)); go_simp; try with_reducible rfl)
    try simp only [Act.put, List.setIfInBounds_toArray, List.set_cons_zero, List.set_cons_succ]
    refine wpAnyH_take (i := 5) (v := ?_) (pickS (pickS (pickS (pickS (pickS pick0))))) (by kernel_rfl) (by kernel_rfl) (by kernel_rfl) (fun _ _ _ h => h) (Or.inl ⟨by rfl, ?_⟩) (by assumption) ?_
    rotate_left 1
    · (intro wx hSw; go_simp; try with_reducible rfl)
    try simp only [Act.put, List.setIfInBounds_toArray, List.set_cons_zero, List.set_cons_succ]
    refine wpAnyH_take (i := 6) (v := ?_) (pickS (pickS (pickS (pickS (pickS (pickS pick0)))))) (by kernel_rfl) (by kernel_rfl) (by kernel_rfl) (fun _ _ _ h => h) (Or.inl ⟨by rfl, ?_⟩) (by assumption) ?_
    rotate_left 1
    · (intro wx hSw; obtain ⟨x0, x1, x2, x3, x4, x5, x6⟩ := row7c (hSw.heap HB6.out (not_nob _)); go_simp; try with_reducible rfl)
    try simp only [Act.put, List.setIfInBounds_toArray, List.set_cons_zero, List.set_cons_succ]
    refine wpAnyH_take (i := 7) (v := ?_) (pickS (pickS (pickS (pickS (pickS (pickS (pickS pick0))))))) (by kernel_rfl) (by kernel_rfl) (by kernel_rfl) (fun _ _ _ h => h) (Or.inl ⟨by rfl, ?_⟩) (by assumption) ?_
    rotate_left 1
    · (intro wx hSw; go_simp; try with_reducible rfl)
    try simp only [Act.put, List.setIfInBounds_toArray, List.set_cons_zero, List.set_cons_succ]
    refine wpAnyH_take (i := 8) (v := ?_) (pickS (pickS (pickS (pickS (pickS (pickS (pickS (pickS pick0)))))))) (by kernel_rfl) (by kernel_rfl) (by kernel_rfl) (fun _ _ _ h => h) (Or.inl ⟨by rfl, ?_⟩) (by assumption) ?_
    rotate_left 1
    · (intro wx hSw; obtain ⟨x0, x1, x2, x3, x4, x5, x6⟩ := row7c (hSw.heap HB6.out (not_nob _)); go_simp; try with_reducible rfl)
    try simp only [Act.put, List.setIfInBounds_toArray, List.set_cons_zero, List.set_cons_succ]
    refine wpAnyH_ready (rs := [0, 10]) (by kernel_rfl) (by simp) ?_
    refine AllReadyH.cons pick0 (fun K hK => ?left) (AllReadyH.cons (pickS (pickS (pickS (pickS (pickS (pickS (pickS (pickS (pickS (pickS pick0)))))))))) (fun K hK => ?right) AllReadyH.nil)
    case left =>
      go_simp
      refine (ca_new _ nob).mono ?_
      rintro e w7 ⟨c7, rfl, hcw7, hst7, hc7⟩
      have HC7 : Hid (Chg nob w6 w7) := hHeld.thenNew hc7
      have HST7 := Lib.hid hst7
      clear hcw7 hst7 hc7
      go_wp2_with fail
      refine hK.out _ _ (HC7.out) (fun hHeld => ?_)
      clear hK K
      try simp only [Act.put, List.setIfInBounds_toArray, List.set_cons_zero, List.set_cons_succ]
      refine wpAnyH_ready (rs := [9, 10]) (by kernel_rfl) (by simp) ?_
      refine AllReadyH.cons (pickS (pickS (pickS (pickS (pickS (pickS (pickS (pickS (pickS pick0))))))))) (fun K hK => ?left2) (AllReadyH.cons (pickS (pickS (pickS (pickS (pickS (pickS (pickS (pickS (pickS (pickS pick0)))))))))) (fun K hK => ?right2) AllReadyH.nil)
      case left2 =>
        go_simp
        refine (g_decide (getC_cst HST7.out dst) hd h0 h1 (Kd.C_mono (Kd.C_new HBB.out (HC6.out.thenNew hHeld)) (fun b hb => Nat.lt_of_lt_of_le hb (HC6.out.thenNew hHeld).size)) HM.out hmc hl df).mono ?_
        rintro e w8 ⟨v8, rfl, hv8, hc8⟩
        obtain ⟨ev, rfl, hev⟩ := verd_none hv8
        have HCA : Hid (Chg nob w6 w8) := hHeld.thenNew hc8
        have HEV := Lib.hid hev
        unfold noV verdV
        clear hv8 hc8 hev
        go_wp2_with fail
        refine hK.out _ _ (HCA.out) (fun hHeld => ?_)
        clear hK K
        try simp only [Act.put, List.setIfInBounds_toArray, List.set_cons_zero, List.set_cons_succ]
        refine wpAnyH_ready (rs := [10]) (by kernel_rfl) (by simp) ?_
        refine AllReadyH.cons (pickS (pickS (pickS (pickS (pickS (pickS (pickS (pickS (pickS (pickS pick0)))))))))) (fun K hK => ?_) AllReadyH.nil
        go_simp
        refine hK.out _ _ (HCA.out.alloc _) (fun hHeld => ?_)
        clear hK K
        try simp only [Act.put, List.setIfInBounds_toArray, List.set_cons_zero, List.set_cons_succ]
        refine wpAnyH_ready (rs := [11]) (by kernel_rfl) (by simp) ?_
        refine AllReadyH.cons (pickS (pickS (pickS (pickS (pickS (pickS (pickS (pickS (pickS (pickS (pickS pick0))))))))))) (fun K hK => ?_) AllReadyH.nil
        go_simp
        refine hK.out _ _ (HCA.out.alloc _) (fun hHeld => ?_)
        clear hK K
        try simp only [Act.put, List.setIfInBounds_toArray, List.set_cons_zero, List.set_cons_succ]
        refine wpAnyH_done (by kernel_rfl) ?_ _
        go_wp2
        go_meet
        exact ⟨w8.heap.size, rfl, ⟨ev, HEV.out, heap_alloc_new w8 _, HCA.out.alloc _⟩⟩
      case right2 =>
        go_simp
        refine hK.out _ _ ((HC7.out.alloc _)) (fun hHeld => ?_)
        clear hK K
        try simp only [Act.put, List.setIfInBounds_toArray, List.set_cons_zero, List.set_cons_succ]
        refine wpAnyH_ready (rs := [9]) (by kernel_rfl) (by simp) ?_
        refine AllReadyH.cons (pickS (pickS (pickS (pickS (pickS (pickS (pickS (pickS (pickS pick0))))))))) (fun K hK => ?_) AllReadyH.nil
        go_simp
        refine (g_decide (getC_cst (HST7.out.new ((Chg.refl nob w7).alloc _)) dst) hd h0 h1 (Kd.C_mono (Kd.C_new HBB.out (HC6.out.thenNew hHeld)) (fun b hb => Nat.lt_of_lt_of_le hb (HC6.out.thenNew hHeld).size)) HM.out hmc hl df).mono ?_
        rintro e w8 ⟨v8, rfl, hv8, hc8⟩
        obtain ⟨ev, rfl, hev⟩ := verd_none hv8
        have HCA : Hid (Chg nob w6 w8) := hHeld.thenNew hc8
        have HEV := Lib.hid hev
        have HZ8 := Lib.hid (hc8.heap (heap_alloc_new w7 (.cells #[.bool false, .int .i64 0, .string ⟨#[]⟩, .int .u64 0, .int .i64 0] 35)) (not_nob _))
        obtain ⟨z0, z1, z2, z3, z4⟩ := row5i HZ8.out
        have f0 := frz5 HZ8.out 0
        have f1 := frz5 HZ8.out 1
        have f2 := frz5 HZ8.out 2
        have f3 := frz5 HZ8.out 3
        have f4 := frz5 HZ8.out 4
        unfold noV verdV
        clear hv8 hc8 hev
        go_wp2_with fail
        refine hK.out _ _ (HCA.out) (fun hHeld => ?_)
        clear hK K
        try simp only [Act.put, List.setIfInBounds_toArray, List.set_cons_zero, List.set_cons_succ]
        refine wpAnyH_ready (rs := [11]) (by kernel_rfl) (by simp) ?_
        refine AllReadyH.cons (pickS (pickS (pickS (pickS (pickS (pickS (pickS (pickS (pickS (pickS (pickS pick0))))))))))) (fun K hK => ?_) AllReadyH.nil
        go_simp
        refine hK.out _ _ (HCA.out.trans (set5 HZ8.out _ _ _ _ _).2 (fun i hi => .inr (by rw [show i = w7.heap.size from hi]; exact HC7.out.size))) (fun hHeld => ?_)
        clear hK K
        try simp only [Act.put, List.setIfInBounds_toArray, List.set_cons_zero, List.set_cons_succ]
        refine wpAnyH_done (by kernel_rfl) ?_ _
        go_wp2
        go_meet
        exact ⟨w7.heap.size, rfl, ⟨ev, HEV.out, (set5 HZ8.out _ _ _ _ _).1, HCA.out.trans (set5 HZ8.out _ _ _ _ _).2 (fun i hi => .inr (by rw [show i = w7.heap.size from hi]; exact HC7.out.size))⟩⟩
    case right =>
      go_simp
      refine hK.out _ _ (((Chg.refl nob w6).drew).alloc _) (fun hHeld => ?_)
      clear hK K
      try simp only [Act.put, List.setIfInBounds_toArray, List.set_cons_zero, List.set_cons_succ]
      refine wpAnyH_ready (rs := [0]) (by kernel_rfl) (by simp) ?_
      refine AllReadyH.cons pick0 (fun K hK => ?_) AllReadyH.nil
      go_simp
      refine (ca_new _ nob).mono ?_
      rintro e w7 ⟨c7, rfl, hcw7, hst7, hc7⟩
      have HC7 : Hid (Chg nob w6 w7) := hHeld.thenNew hc7
      have HST7 := Lib.hid hst7
      have HZ7 : Hid (w7.heap[w6.heap.size]? = some (.cells #[.bool false, .int .i64 0, .string ⟨#[]⟩, .int .u64 0, .int .i64 0] 35 (0, 0))) := hc7.heap (heap_alloc_new w6.drew (.cells #[.bool false, .int .i64 0, .string ⟨#[]⟩, .int .u64 0, .int .i64 0] 35)) (not_nob _)
      clear hcw7 hst7 hc7
      go_wp2_with fail
      refine hK.out _ _ (HC7.out) (fun hHeld => ?_)
      clear hK K
      try simp only [Act.put, List.setIfInBounds_toArray, List.set_cons_zero, List.set_cons_succ]
      refine wpAnyH_ready (rs := [9]) (by kernel_rfl) (by simp) ?_
      refine AllReadyH.cons (pickS (pickS (pickS (pickS (pickS (pickS (pickS (pickS (pickS pick0))))))))) (fun K hK => ?_) AllReadyH.nil
      go_simp
      refine (g_decide (getC_cst HST7.out dst) hd h0 h1 (Kd.C_mono (Kd.C_new HBB.out (HC6.out.thenNew hHeld)) (fun b hb => Nat.lt_of_lt_of_le hb (HC6.out.thenNew hHeld).size)) HM.out hmc hl df).mono ?_
      rintro e w8 ⟨v8, rfl, hv8, hc8⟩
      obtain ⟨ev, rfl, hev⟩ := verd_none hv8
      have HCA : Hid (Chg nob w6 w8) := hHeld.thenNew hc8
      have HEV := Lib.hid hev
      have HZ8 := Lib.hid (hc8.heap HZ7.out (not_nob _))
      obtain ⟨z0, z1, z2, z3, z4⟩ := row5i HZ8.out
      have f0 := frz5 HZ8.out 0
      have f1 := frz5 HZ8.out 1
      have f2 := frz5 HZ8.out 2
      have f3 := frz5 HZ8.out 3
      have f4 := frz5 HZ8.out 4
      unfold noV verdV
      clear hv8 hc8 hev
      go_wp2_with fail
      refine hK.out _ _ (HCA.out) (fun hHeld => ?_)
      clear hK K
      try simp only [Act.put, List.setIfInBounds_toArray, List.set_cons_zero, List.set_cons_succ]
      refine wpAnyH_ready (rs := [11]) (by kernel_rfl) (by simp) ?_
      refine AllReadyH.cons (pickS (pickS (pickS (pickS (pickS (pickS (pickS (pickS (pickS (pickS (pickS pick0))))))))))) (fun K hK => ?_) AllReadyH.nil
      go_simp
      refine hK.out _ _ (HCA.out.trans (set5 HZ8.out _ _ _ _ _).2 (fun i hi => .inr (by rw [show i = w6.heap.size from hi]; exact Nat.le_refl _))) (fun hHeld => ?_)
      clear hK K
      try simp only [Act.put, List.setIfInBounds_toArray, List.set_cons_zero, List.set_cons_succ]
      refine wpAnyH_done (by kernel_rfl) ?_ _
      go_wp2
      go_meet
      exact ⟨w6.heap.size, rfl, ⟨ev, HEV.out, (set5 HZ8.out _ _ _ _ _).1, HCA.out.trans (set5 HZ8.out _ _ _ _ _).2 (fun i hi => .inr (by rw [show i = w6.heap.size from hi]; exact Nat.le_refl _))⟩⟩
  case rest =>
    obtain ⟨eb, rfl, HNR⟩ := hcut
    obtain ⟨ev, hev, hrow, hc7⟩ := HNR.out
    have HEV := Lib.hid hev
    have HN7 := Lib.hid hrow
    have HC67 := Lib.hid hc7
    have HC7 := Lib.hid (HC6.out.thenNew hc7)
    have HB7 := Lib.hid (hc7.heap HB6.out (not_nob _))
    have HXV7 := Lib.hid (hc7.heap HXV.out (not_nob _))
    clear hev hrow hc7 HNR
    obtain ⟨w7, hw7⟩ : ∃ w7, w7 = wc := ⟨_, rfl⟩
    subst hw7
    obtain ⟨x0, x1, x2, x3, x4, x5, x6⟩ := row7c HB7.out
    go_wp2_with fail
    refine (g_decide (getC_none _ dst (p := none) (.inl rfl)) hd h0 h1 (Kd.C_mono (Kd.C_new HBB.out HC7.out) (fun b hb => Nat.lt_of_lt_of_le hb HC7.out.size)) HM.out hmc hl df).mono ?_
    rintro e w8 ⟨v8, rfl, hv8, hc8⟩
    obtain ⟨ev2, rfl, hev2⟩ := verd_none hv8
    have HEV2 := Lib.hid hev2
    have HC68 := Lib.hid (HC67.out.thenNew hc8)
    have HN8 := Lib.hid (hc8.heap HN7.out (not_nob _))
    clear hv8 hc8 hev2 x0 x1 x2 x3 x4 x5 x6
    unfold noV verdV
    dsimp only
    have hc9 : Chg nob w8 (w8.alloc (.cells #[.bool false, .int .i64 ev2, .string ByteArray.empty, .int .u64 0, .int .i64 (-1)] 35)) := (Chg.refl nob w8).alloc _
    have hx9 := heap_alloc_new w8 (.cells #[.bool false, .int .i64 ev2, .string ByteArray.empty, .int .u64 0, .int .i64 (-1)] 35)
    go_upto_region 7 with fail
    obtain ⟨w9, hw9⟩ : ∃ w9, w8.alloc (.cells #[.bool false, .int .i64 ev2, .string ByteArray.empty, .int .u64 0, .int .i64 (-1)] 35) = w9 := ⟨_, rfl⟩
    rw [hw9]
    rw [hw9] at hc9 hx9
    obtain ⟨nb, hnb⟩ : ∃ nb, w8.heap.size = nb := ⟨_, rfl⟩
    rw [hnb]
    rw [hnb] at hx9
    have HN9 := Lib.hid (hc9.heap HN8.out (not_nob _))
    have HX9 := Lib.hid hx9
    have HC69 := Lib.hid (HC68.out.thenNew hc9)
    have HC9 := Lib.hid (HC6.out.thenNew HC69.out)
    have HXV9 := Lib.hid (HC69.out.heap HXV.out (not_nob _))
    have HB9 := Lib.hid (HC69.out.heap HB6.out (not_nob _))
    clear hc9 hx9 hw9 hnb
    obtain ⟨y0, y1, y2, y3, y4⟩ := row5i HN9.out
    obtain ⟨z0, z1, z2, z3, z4⟩ := row5i HX9.out
    have e1 : (ev == 0) = false := by simpa using HEV.out
    have e2 : (ev2 == 0) = false := by simpa using HEV2.out
    go_upto_region 9 with fail
    clear y0 y1 y2 y3 y4 z0 z1 z2 z3 z4 e1 e2
    obtain ⟨al, hal⟩ : ∃ al, v.1 = al := ⟨_, rfl⟩
    cases al with
    | false =>
      obtain ⟨y0, y1, y2, y3, y4⟩ := row5i HXV9.out
      rw [hal] at y0
      go_wp2_with fail
      refine (gate_works w9).mono ?_
      rintro e wz ⟨rfl, hcz⟩
      have HCZ := Lib.hid (HC9.out.thenNew hcz)
      clear hcz
      go_wp2
      go_ret
      exact ⟨rfl, HCZ.out⟩
    | true =>
      obtain ⟨a, at_, hkn, hR0, hch, rfl⟩ := verd_yes HV.out hal
      have HKN := Lib.hid hkn
      have HCH := Lib.hid hch
      have HR0 := Lib.hid hR0
      clear hal hkn hch hR0
      dsimp only at *
      obtain ⟨y0, y1, y2, y3, y4⟩ := row5i HXV9.out
      obtain ⟨x0, x1, x2, x3, x4, x5, x6⟩ := row7c HB9.out
      have hts : R.1.1.size ≤ 9223372036854775807 := by
        obtain ⟨T', hT1, _, hT3, _, _⟩ := chkR_back (k0 := k0) (k1 := k1) (bs := bs) (by rw [HR.out]; exact HR0.out)
        rw [HR.out] at hT1
        rw [hT1]
        unfold tokOk nameB at hT3
        rw [Bool.and_eq_true, Bool.and_eq_true, decide_eq_true_iff, decide_eq_true_iff, strL_len] at hT3
        have := hT3.1.1.2.1
        show T'.1.size ≤ _
        omega
      go_wp2_with fail
      refine (c_rcheck h0 h1 (Kd.C_mono (Kd.C_new HBB.out HC9.out) (fun b hb => Nat.lt_of_lt_of_le hb HC9.out.size)) HM.out hmc hl).mono ?_
      rintro e wA ⟨rfl, hcA⟩
      rw [HR.out]
      have HC6A := Lib.hid (HC69.out.thenNew hcA)
      clear hcA x0 x1 x2 x3 x4 x5 x6 y0 y1 y2 y3 y4
      unfold tokV
      have hxB := heap_alloc_new wA (.cells #[.string R.1.1, .int .i64 R.1.2.1, .int .u32 R.1.2.2.1, .int .u64 R.1.2.2.2] 45)
      have hcB : Chg nob wA (wA.alloc (.cells #[.string R.1.1, .int .i64 R.1.2.1, .int .u32 R.1.2.2.1, .int .u64 R.1.2.2.2] 45)) := (Chg.refl nob wA).alloc _
      go_upto_region 12 with fail
      obtain ⟨wB, hwB⟩ : ∃ wB, wA.alloc (.cells #[.string R.1.1, .int .i64 R.1.2.1, .int .u32 R.1.2.2.1, .int .u64 R.1.2.2.2] 45) = wB := ⟨_, rfl⟩
      rw [hwB] at hxB hcB ⊢
      obtain ⟨tb, htb⟩ : ∃ tb, wA.heap.size = tb := ⟨_, rfl⟩
      rw [htb] at hxB ⊢
      have HXB := Lib.hid hxB
      have HC6B := Lib.hid (HC6A.out.thenNew hcB)
      have HBX := Lib.hid (HC6B.out.heap HB6.out (not_nob _))
      clear hxB hcB hwB htb
      obtain ⟨x0, x1, x2, x3, x4, x5, x6⟩ := row7c HBX.out
      go_wp2_with fail
      refine (rf_get (HPD.out.rst.new (HC26.out.thenNew HC6B.out)) HML.out (fun b hb => Nat.lt_of_lt_of_le (HOK6.out b hb) HC6B.out.size) (qInt dst)).mono ?_
      rw [HKN.out]
      rintro e wC ⟨cs, rfl, hkC, hcC⟩
      obtain ⟨S, nS, sd, Kx, nK, kd, N, nN, nd, I, nI, id, E, nE, ed, T, nT, td, hlit⟩ := ans_lits hkC
      dsimp only [Option.getD, Option.isSome] at *
      subst hlit
      have HXBC := Lib.hid (hcC.heap HXB.out (not_nob _))
      have HC6C := Lib.hid (HC6B.out.thenNew hcC)
      clear x0 x1 x2 x3 x4 x5 x6
      have hxD := heap_alloc_new wC (.cells #[.int .i64 a.1, .int .u64 a.2.1, .bool a.2.2.1.1, .int .i64 a.2.2.1.2.1, .string a.2.2.1.2.2.1, .slice S nS sd, .slice Kx nK kd, .slice N nN nd, .slice I nI id, .slice E nE ed, .slice T nT td] 57)
      have hcD : Chg nob wC (wC.alloc (.cells #[.int .i64 a.1, .int .u64 a.2.1, .bool a.2.2.1.1, .int .i64 a.2.2.1.2.1, .string a.2.2.1.2.2.1, .slice S nS sd, .slice Kx nK kd, .slice N nN nd, .slice I nI id, .slice E nE ed, .slice T nT td] 57)) := (Chg.refl nob wC).alloc _
      have HKD := Lib.hid (Kd.chg hkC hcD (fun b _ => not_nob b))
      clear hkC hcC
      go_upto_region 13 with fail
      obtain ⟨wD, hwD⟩ : ∃ wD, wC.alloc (.cells #[.int .i64 a.1, .int .u64 a.2.1, .bool a.2.2.1.1, .int .i64 a.2.2.1.2.1, .string a.2.2.1.2.2.1, .slice S nS sd, .slice Kx nK kd, .slice N nN nd, .slice I nI id, .slice E nE ed, .slice T nT td] 57) = wD := ⟨_, rfl⟩
      rw [hwD] at hxD hcD HKD ⊢
      obtain ⟨ab, hab⟩ : ∃ ab, wC.heap.size = ab := ⟨_, rfl⟩
      rw [hab] at hxD ⊢
      have HXD := Lib.hid hxD
      have HXBD := Lib.hid (hcD.heap HXBC.out (not_nob _))
      have HC6D := Lib.hid (HC6C.out.thenNew hcD)
      have HBD := Lib.hid (HC6D.out.heap HB6.out (not_nob _))
      clear hxD hcD hwD hab
      obtain ⟨x0, x1, x2, x3, x4, x5, x6⟩ := row7c HBD.out
      obtain ⟨⟨y0, y1, y2, y3, y4, y5, y6, y7, y8, y9, y10⟩, -⟩ := row11c HXD.out
      have tk0 : wD.cell? ⟨tb, 0, none⟩ = some (.string R.1.1) := by rw [cell_of_row _ _ _ _ _ _ HXBD.out]; rfl
      have HKA : Hid (itnK.C wD (fun b => b < wD.heap.size) T a.2.2.2.2.2.2 ∧ a.2.2.2.2.2.2.length = nT) := by
        obtain ⟨S', sd', K', kd', N', nd', I', id', E', ed', T', td', hcs, -, -, -, -, -, hT⟩ := (ans_cells HKD.out).ex
        have h10 := congrArg (fun l : List Value => l[10]?) hcs
        simp only [List.getElem?_cons_succ, List.getElem?_cons_zero, Option.some.injEq, Value.slice.injEq] at h10
        obtain ⟨rfl, h11, -⟩ := h10
        exact ⟨Kd.C_mono (Kd.C_bound hT.1) (fun b hb => hb.2), h11.symm⟩
      go_wp2_with fail
      refine (r_choose (c := td) HKA.out.1 HKA.out.2 R.1.1 dst df hts hd).mono ?_
      rintro e wE ⟨al2, at2, rfl, hch2, hcE⟩
      obtain ⟨rfl, rfl⟩ := HCH.out.det hch2
      have HC6E := Lib.hid (HC6D.out.thenNew hcE)
      have HXVE := Lib.hid (HC6E.out.heap HXV.out (not_nob _))
      have HXDE := Lib.hid (hcE.heap HXD.out (not_nob _))
      have HXBE := Lib.hid (hcE.heap HXBD.out (not_nob _))
      clear hch2 hcE x0 x1 x2 x3 x4 x5 x6 y0 y1 y2 y3 y4 y5 y6 y7 y8 y9 y10 tk0
      obtain ⟨z0, z1, z2, z3, z4⟩ := row5i HXVE.out
      obtain ⟨⟨y0, y1, y2, y3, y4, y5, y6, y7, y8, y9, y10⟩, -⟩ := row11c HXDE.out
      have tk0 : wE.cell? ⟨tb, 0, none⟩ = some (.string R.1.1) := by rw [cell_of_row _ _ _ _ _ _ HXBE.out]; rfl
      have c1 : ((R.2 : Int) == 0) = true := by have := HR0.out; simpa using this
      go_wp2_with fail
      refine (gate_works wE).mono ?_
      rintro e wz ⟨rfl, hcz⟩
      have HCZ := Lib.hid ((HC6.out.thenNew HC6E.out).thenNew hcz)
      clear hcz
      go_wp2
      go_ret
      exact ⟨rfl, HCZ.out⟩
#print axioms gateSafe_walk
end Go.Proofs.Ytcibdcahcpcmaaa
