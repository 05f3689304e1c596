/- What the law CacheKept answers. -/
import Derived.Test.YtkclceghhebfaaaCacheNone
namespace Go.Proofs.Ytkclceghhebfaaa
open Go.RowKit
set_option linter.unusedVariables false
set_option linter.unusedSimpArgs false
/-- The same answer, but for its kind. -/
theorem kind_K {w : World} {ok : Nat → Prop} {x : Ans} {v : Value} {l : List Value} (h : ansK.K w ok x (v :: l)) : ansK.K w ok (6, x.2) (.int .i64 6 :: l) := by
  obtain ⟨c0, c1, e, h0, h1⟩ := h
  have h0' : c0 = [.int .i64 x.1] := h0
  subst h0'
  obtain ⟨-, rfl⟩ := List.cons.inj e
  exact ⟨[.int .i64 6], l, rfl, rfl, h1⟩
theorem Wr.set {w : World} {base m : Nat} {A : Option Addr} (h : Wr w base A m) (g j : Nat) (v : Value) : Wr (w.setCell ⟨g, j, none⟩ v) base A m := by
  intro hm
  obtain ⟨b, e, hb, hc⟩ := h hm
  refine ⟨b, e, hb, fun i hi => ?_⟩
  obtain ⟨⟨u, hu⟩, hf⟩ := hc i hi
  by_cases hg : b = g
  · subst hg
    obtain ⟨cs, t, fr, hrow, hat⟩ : ∃ cs t fr, w.heap[b]? = some (.cells cs t fr) ∧ cs[i]? = some u := by
      unfold World.cell? at hu
      cases hh : w.heap[b]? with
      | none => simp [hh] at hu
      | some o =>
        cases o <;> simp [hh] at hu
        exact ⟨_, _, _, rfl, hu⟩
    have hr := blk_set hrow j v
    refine ⟨?_, ?_⟩
    · rw [cell_of_row _ _ _ _ _ _ hr, Array.getElem?_setIfInBounds]
      by_cases hij : j = i
      · rw [if_pos hij]
        have hlt : j < cs.size := by rw [hij]; exact (Array.getElem?_eq_some_iff.1 hat).1
        rw [if_pos hlt]
        exact ⟨v, rfl⟩
      · rw [if_neg hij]
        exact ⟨u, hat⟩
    · unfold World.frozen? at hf ⊢
      rw [hrow] at hf
      rw [hr]
      exact hf
  · have hc : Chg (fun k => k = g) w (w.setCell ⟨g, j, none⟩ v) := (Chg.refl (fun k => k = g) w).set1 j v
    refine ⟨⟨u, hc.cell hu hg⟩, ?_⟩
    have hb2 := hc.block b (heap_lt_of_cell hu) hg
    unfold World.frozen? at hf ⊢
    dsimp only at hf ⊢
    rw [hb2]
    exact hf
/-- What stays while the told answer is written. -/
structure KeptSt (base xb : Nat) (v wx : World) (N I E : Option Addr) (nN nI nE : Nat) : Prop where
  chg : Chg (fun b => base ≤ b ∧ b ≠ xb) v wx
  wn : Wr wx base N (nN * 4)
  wi : Wr wx base I (nI * 8)
  we : Wr wx base E (nE * 6)
theorem KeptSt.set {base xb : Nat} {v wx : World} {N I E : Option Addr} {nN nI nE g j : Nat} (h : KeptSt base xb v wx N I E nN nI nE) (hg : base ≤ g) (hx : g ≠ xb) (u : Value) : KeptSt base xb v (wx.setCell ⟨g, j, none⟩ u) N I E nN nI nE :=
  ⟨h.chg.setCell (p := ⟨g, j, none⟩) (.inl ⟨hg, hx⟩) u, h.wn.set g j u, h.wi.set g j u, h.we.set g j u⟩
theorem Wr.lt {w : World} {base m g : Nat} (h : Wr w base (some ⟨g, 0, none⟩) m) (hm : 0 < m) : g < w.heap.size := by
  obtain ⟨b, e, hb, hc⟩ := h hm
  cases e
  obtain ⟨⟨u, hu⟩, _⟩ := hc 0 hm
  exact heap_lt_of_cell hu
theorem keptOk (x : Ans) : putOk [] qNodes (6, x.2) = true := by unfold putOk; rw [qNodes_right]; rfl
theorem keptL (x : Ans) : putL [] qNodes (6, x.2) = [(qNodes, (6, x.2))] := by unfold putL; rw [keptOk]; rfl
theorem keptS (x : Ans) : seekA [(qNodes, ((6, x.2) : Ans))] qNodes = some (6, x.2) := by simp only [seekA, qEq_self, if_true]
set_option maxRecDepth 100000 in
set_option maxHeartbeats 8000000 in
theorem cacheKept_walk {w : World} {ok : Nat → Prop} {x : Ans} {S K N I E T : Option Addr} {nS nK nN nI nE nT sd kd nd id ed td : Nat}
    (hk : ansK.K w ok x (#[.int .i64 x.1, .int .u64 x.2.1, .bool x.2.2.1.1, .int .i64 x.2.2.1.2.1, .string x.2.2.1.2.2.1, .slice S nS sd, .slice K nK kd, .slice N nN nd, .slice I nI id, .slice E nE ed, .slice T nT td] : Array Value).toList) (hok : ∀ b, ok b → b < w.heap.size) :
    Calls Try.prog 3 #[.agg #[.int .i64 x.1, .int .u64 x.2.1, .bool x.2.2.1.1, .int .i64 x.2.2.1.2.1, .string x.2.2.1.2.2.1, .slice S nS sd, .slice K nK kd, .slice N nN nd, .slice I nI id, .slice E nE ed, .slice T nT td]] w
      fun e w' => e = .returned (.bool true) ∧ Chg nob w w' := by
  obtain ⟨g, hg⟩ : ∃ g, w.heap.size = g := ⟨_, rfl⟩
  have HG := Lib.hid hg
  obtain ⟨w1, hw1⟩ : ∃ w1, w.alloc (.cells #[.int .i64 x.1, .int .u64 x.2.1, .bool x.2.2.1.1, .int .i64 x.2.2.1.2.1, .string x.2.2.1.2.2.1, .slice S nS sd, .slice K nK kd, .slice N nN nd, .slice I nI id, .slice E nE ed, .slice T nT td] 32) = w1 := ⟨_, rfl⟩
  have hz1 : w1.heap.size = g + 1 := by rw [← hw1, World.size_alloc, hg]
  have hb1 := heap_alloc_new w (.cells #[.int .i64 x.1, .int .u64 x.2.1, .bool x.2.2.1.1, .int .i64 x.2.2.1.2.1, .string x.2.2.1.2.2.1, .slice S nS sd, .slice K nK kd, .slice N nN nd, .slice I nI id, .slice E nE ed, .slice T nT td] 32)
  have hc1 : Chg nob w w1 := by rw [← hw1]; exact (Chg.refl nob w).alloc _
  rw [hw1, hg] at hb1
  obtain ⟨w2, hw2⟩ : ∃ w2, w1.alloc (.cells #[.int .i64 6, .int .i64 0, .string ⟨#[]⟩, .string ⟨#[]⟩, .string ⟨#[]⟩, .bool false] 34) = w2 := ⟨_, rfl⟩
  have hz2 : w2.heap.size = g + 2 := by rw [← hw2, World.size_alloc, hz1]
  have hq2 : w2.heap[g + 1]? = some (.cells (qryV qNodes) 34 (0, 0)) := by rw [← hw2, ← hz1]; exact heap_alloc_new w1 _
  have hc2 : Chg nob w1 w2 := by rw [← hw2]; exact (Chg.refl nob w1).alloc _
  have hx2 := hc2.heap hb1 (not_nob _)
  have hx3 : (w2.setCell ⟨g, 0, none⟩ (.int .i64 6)).heap[g]? = some (.cells #[.int .i64 6, .int .u64 x.2.1, .bool x.2.2.1.1, .int .i64 x.2.2.1.2.1, .string x.2.2.1.2.2.1, .slice S nS sd, .slice K nK kd, .slice N nN nd, .slice I nI id, .slice E nE ed, .slice T nT td] 32 (0, 0)) := by
    have := blk_set hx2 0 (.int .i64 6)
    simpa using this
  have hcs : Chg (fun b => b = g) w2 (w2.setCell ⟨g, 0, none⟩ (.int .i64 6)) := (Chg.refl (fun b => b = g) w2).set1 0 _
  have hq3 := hcs.heap hq2 (by omega)
  obtain ⟨x0, f0⟩ : w2.cell? ⟨g, 0, none⟩ = some (.int .i64 x.1) ∧ w2.frozen? ⟨g, 0, none⟩ = false := ⟨(row11c hx2).1.1, (row11c hx2).2 0⟩
  have hc3 : Chg nob w (w2.setCell ⟨g, 0, none⟩ (.int .i64 6)) := (hc1.thenNew hc2).trans hcs (fun i hi => .inr (by have h1 : i = g := hi; omega))
  obtain ⟨v, hv⟩ : ∃ v, w2.setCell ⟨g, 0, none⟩ (.int .i64 6) = v := ⟨_, rfl⟩
  rw [hv] at hx3 hq3 hc3
  have hzv : v.heap.size = g + 2 := by rw [← hv]; simpa using hz2
  have HKX : Hid (ansK.K v ok (6, x.2) (#[.int .i64 6, .int .u64 x.2.1, .bool x.2.2.1.1, .int .i64 x.2.2.1.2.1, .string x.2.2.1.2.2.1, .slice S nS sd, .slice K nK kd, .slice N nN nd, .slice I nI id, .slice E nE ed, .slice T nT td] : Array Value).toList) := kind_K (Kd.chg hk hc3 (fun b _ => not_nob b))
  have HX := Lib.hid hx3
  have HQ := Lib.hid hq3
  have HCV := Lib.hid hc3
  have HZV := Lib.hid hzv
  have HOK := Lib.hid hok
  have HV := Lib.hid hv
  have HW2 := Lib.hid hw2
  clear hb1 hc1 hc2 hq2 hx3 hcs hq3 hc3 hk hok hzv hx2 hv hz2 hw2
  go_enter Try.func3, Try.ntmps3
  go_upto_region 2 with fail
  rw [HW2.out]
  go_upto_region 3 with fail
  rw [HV.out]
  obtain ⟨⟨z0, z1, z2, z3, z4, z5, z6, z7, z8, z9, z10⟩, -⟩ := row11c HX.out
  go_wp2_with fail
  refine (r_sameA HKX.out HKX.out).mono ?_
  rintro e w3 ⟨rfl, hc3⟩
  have HC3 := Lib.hid hc3
  clear hc3 z0 z1 z2 z3 z4 z5 z6 z7 z8 z9 z10 x0 f0
  go_wp2_with fail
  refine (ca_new w3 nob).mono ?_
  rintro e w4 ⟨c, rfl, hcw, hst, hc4⟩
  have HC4 := Lib.hid (HC3.out.thenNew hc4)
  have HST4 := Lib.hid hst
  have HZ3 : Hid (g + 2 ≤ w3.heap.size) := by show _ ≤ _; rw [← HZV.out]; exact HC3.out.size
  clear hcw hst hc4
  obtain ⟨⟨z0, z1, z2, z3, z4, z5, z6, z7, z8, z9, z10⟩, -⟩ := row11c (HC4.out.heap HX.out (not_nob _))
  obtain ⟨s0, s1, s2, s3, s4, s5⟩ := row6 (HC4.out.heap HQ.out (not_nob _))
  unfold qNodes at s0 s1 s2 s3 s4 s5
  dsimp only at s0 s1 s2 s3 s4 s5
  go_wp2_with fail
  refine (ca_put HST4.out (fun b hb => hb.2) (fun b hb => hb.elim) (by simp) (Kd.chg HKX.out HC4.out (fun b _ => not_nob b)) (fun b hb => ⟨fun h => by have h1 := (h.resolve_right (not_nob _)).1; have h2 := HOK.out b hb; have h3 := HZ3.out; omega, Nat.lt_of_lt_of_le (HOK.out b hb) (HCV.out.thenNew HC4.out).size⟩) qNodes qNodes_sz).mono ?_
  rintro e w5 ⟨rfl, hp⟩
  rw [keptOk]
  rw [keptL] at hp
  obtain ⟨own, hst5, hc5, hl5, hs5, hu5⟩ := hp.ex
  have HOW : Hid (∀ b, own b → g + 2 ≤ b) := fun b hb => (hu5 b hb).elim (fun h => Nat.le_trans HZ3.out h.1) (fun h => Nat.le_trans HZ3.out (Nat.le_trans (show w3.heap.size ≤ w4.heap.size by have := HC4.out.size; have := HC3.out.size; have h6 := HST4.out.ex; obtain ⟨r, O, oc, m, h7, h8, h9, -⟩ := h6; exact Nat.le_trans h8.1 (Nat.le_of_lt h8.2)) h))
  have HST5 := Lib.hid hst5
  have HL5 := Lib.hid hl5
  have hc5' : Chg (fun b => g + 2 ≤ b) v w5 := (HC4.out.ofNew (S := fun b => g + 2 ≤ b)).trans hc5 (fun i hi => .inl (Nat.le_trans HZ3.out hi.1))
  have HC5 := Lib.hid hc5'
  clear hp hst5 hc5 hl5 hs5 hu5 hc5' z0 z1 z2 z3 z4 z5 z6 z7 z8 z9 z10 s0 s1 s2 s3 s4 s5
  obtain ⟨s0, s1, s2, s3, s4, s5⟩ := row6 (HC5.out.heap HQ.out (by omega))
  unfold qNodes at s0 s1 s2 s3 s4 s5
  dsimp only at s0 s1 s2 s3 s4 s5
  go_wp2_with fail
  refine (ca_get HST5.out qNodes).mono ?_
  rintro e w6 ⟨cs6, rfl, hcp, hc6⟩
  rw [keptS] at hcp ⊢
  obtain ⟨S6, sd6, K6, kd6, N6, nd6, I6, id6, E6, ed6, T6, td6, hcs6, hwn, hwi, hwe⟩ := hcp.wr
  dsimp only [Option.getD] at hcs6 hwn hwi hwe
  obtain ⟨mS, hmS⟩ : ∃ n, x.2.2.1.2.2.2.1.length = n := ⟨_, rfl⟩
  obtain ⟨mK, hmK⟩ : ∃ n, x.2.2.1.2.2.2.2.length = n := ⟨_, rfl⟩
  obtain ⟨mN, hmN⟩ : ∃ n, x.2.2.2.1.length = n := ⟨_, rfl⟩
  obtain ⟨mI, hmI⟩ : ∃ n, x.2.2.2.2.1.length = n := ⟨_, rfl⟩
  obtain ⟨mE, hmE⟩ : ∃ n, x.2.2.2.2.2.1.length = n := ⟨_, rfl⟩
  obtain ⟨mT, hmT⟩ : ∃ n, x.2.2.2.2.2.2.length = n := ⟨_, rfl⟩
  rw [hmS, hmK, hmN, hmI, hmE, hmT] at hcs6
  rw [hmN] at hwn
  rw [hmI] at hwi
  rw [hmE] at hwe
  have hbN : mN ≤ 9223372036854775807 ∧ mI ≤ 9223372036854775807 ∧ mE ≤ 9223372036854775807 := by
    obtain ⟨_, _, _, _, _, _, _, _, _, _, _, _, _, -, -, q1, q2, q3, -⟩ := (ans_cells HKX.out).ex
    have h1 := q1.1.small
    have h2 := q2.1.small
    have h3 := q3.1.small
    dsimp only at h1 h2 h3
    rw [hmN] at h1
    rw [hmI] at h2
    rw [hmE] at h3
    exact ⟨h1, h2, h3⟩
  obtain ⟨hbN, hbI, hbE⟩ := hbN
  clear hmS hmK hmN hmI hmE hmT hcp
  subst hcs6
  have hx7 := heap_alloc_new w6 (.cells #[.int .i64 6, .int .u64 x.2.1, .bool x.2.2.1.1, .int .i64 x.2.2.1.2.1, .string x.2.2.1.2.2.1, .slice S6 mS sd6, .slice K6 mK kd6, .slice N6 mN nd6, .slice I6 mI id6, .slice E6 mE ed6, .slice T6 mT td6] 32)
  have hc7 : Chg nob w6 (w6.alloc (.cells #[.int .i64 6, .int .u64 x.2.1, .bool x.2.2.1.1, .int .i64 x.2.2.1.2.1, .string x.2.2.1.2.2.1, .slice S6 mS sd6, .slice K6 mK kd6, .slice N6 mN nd6, .slice I6 mI id6, .slice E6 mE ed6, .slice T6 mT td6] 32)) := (Chg.refl nob w6).alloc _
  obtain ⟨w7, hw7⟩ : ∃ w7, w6.alloc (.cells #[.int .i64 6, .int .u64 x.2.1, .bool x.2.2.1.1, .int .i64 x.2.2.1.2.1, .string x.2.2.1.2.2.1, .slice S6 mS sd6, .slice K6 mK kd6, .slice N6 mN nd6, .slice I6 mI id6, .slice E6 mE ed6, .slice T6 mT td6] 32) = w7 := ⟨_, rfl⟩
  rw [hw7] at hx7 hc7
  obtain ⟨xb, hxb⟩ : ∃ xb, w6.heap.size = xb := ⟨_, rfl⟩
  rw [hxb] at hx7
  have HX7 := Lib.hid hx7
  have HBS : Hid (g + 2 ≤ w5.heap.size ∧ w5.heap.size ≤ xb) := ⟨by have := HC5.out.size; rw [HZV.out] at this; exact this, by rw [← hxb]; exact hc6.size⟩
  have HLN : Hid (∀ (A : Option Addr) (m gg : Nat), Wr w6 w5.heap.size A m → A = some ⟨gg, 0, none⟩ → 0 < m → gg ≠ xb) := fun A m gg hw e hm h => by subst e; have := hw.lt hm; omega
  have HWN := Lib.hid hwn
  have HWI := Lib.hid hwi
  have HWE := Lib.hid hwe
  have HK7 : Hid (KeptSt w5.heap.size xb w7 w7 N6 I6 E6 mN mI mE) := ⟨Chg.refl _ _, hwn.chg hc7 (fun b _ => not_nob b), hwi.chg hc7 (fun b _ => not_nob b), hwe.chg hc7 (fun b _ => not_nob b)⟩
  have HC7 := Lib.hid (hc6.thenNew hc7)
  have HW7 := Lib.hid hw7
  clear hx7 hc7 hwn hwi hwe hc6 s0 s1 s2 s3 s4 s5 hw7
  go_upto_region 8 with fail
  rw [HW7.out]
  go_wp2
  go_loopw [8] (fun i wr => ∃ j : Nat, j ≤ mN ∧ i = .int .i64 j ∧ Hid (KeptSt w5.heap.size xb w7 wr N6 I6 E6 mN mI mE)) (fun i _ => mN - (intOf i).toNat)
  case atStart => exact ⟨0, Nat.zero_le _, rfl, HK7.out⟩
  case round =>
    obtain ⟨j, hj, rfl, HS1⟩ := hrel
    have r7 := (row11c (HS1.out.chg.heap HX7.out (fun h => h.2 rfl))).1.2.2.2.2.2.2.2.1
    by_cases hlt : j < mN
    · have b1 : (j : Int) < (mN : Int) := by omega
      have b2 : (0 : Int) ≤ (j : Int) := by omega
      obtain ⟨gN, hA, hgb, hcell⟩ := HS1.out.wn (by omega)
      have hne := HLN.out _ _ gN HWN.out hA (by omega)
      obtain ⟨⟨u, hu⟩, hf⟩ := hcell (j * 4 + 1) (by omega)
      have HSN : Hid (KeptSt w5.heap.size xb w7 (wr.setCell ⟨gN, j * 4 + 1, none⟩ (.string ⟨#[111, 116, 104, 101, 114]⟩)) N6 I6 E6 mN mI mE) := HS1.out.set hgb hne _
      rw [hA] at r7
      clear hgb hcell hne
      have HAA := Lib.hid hA
      clear hA
      go_wp2
      exact ⟨⟨j + 1, by omega, by go_num, HSN⟩, by simp [intOf]; omega⟩
    · have b1 : ¬ (j : Int) < (mN : Int) := by omega
      have HE1 := HS1
      obtain ⟨v1, hv1⟩ : ∃ v, wr = v := ⟨_, rfl⟩
      subst hv1
      go_wp2
      go_loopw [9] (fun i wr => ∃ j : Nat, j ≤ mI ∧ i = .int .i64 j ∧ Hid (KeptSt w5.heap.size xb w7 wr N6 I6 E6 mN mI mE)) (fun i _ => mI - (intOf i).toNat)
      case atStart => exact ⟨0, Nat.zero_le _, rfl, HE1.out⟩
      case round =>
        obtain ⟨j, hj, rfl, HS2⟩ := hrel
        have r7 := (row11c (HS2.out.chg.heap HX7.out (fun h => h.2 rfl))).1.2.2.2.2.2.2.2.2.1
        by_cases hlt : j < mI
        · have b1 : (j : Int) < (mI : Int) := by omega
          have b2 : (0 : Int) ≤ (j : Int) := by omega
          obtain ⟨gN, hA, hgb, hcell⟩ := HS2.out.wi (by omega)
          have hne := HLN.out _ _ gN HWI.out hA (by omega)
          obtain ⟨⟨u, hu⟩, hf⟩ := hcell (j * 8 + 7) (by omega)
          have HSN : Hid (KeptSt w5.heap.size xb w7 (wr.setCell ⟨gN, j * 8 + 7, none⟩ (.int .i64 77)) N6 I6 E6 mN mI mE) := HS2.out.set hgb hne _
          rw [hA] at r7
          clear hgb hcell hne
          have HAA := Lib.hid hA
          clear hA
          go_wp2
          exact ⟨⟨j + 1, by omega, by go_num, HSN⟩, by simp [intOf]; omega⟩
        · have b1 : ¬ (j : Int) < (mI : Int) := by omega
          have HE2 := HS2
          obtain ⟨v2, hv2⟩ : ∃ v, wr = v := ⟨_, rfl⟩
          subst hv2
          go_wp2
          go_loopw [10] (fun i wr => ∃ j : Nat, j ≤ mE ∧ i = .int .i64 j ∧ Hid (KeptSt w5.heap.size xb w7 wr N6 I6 E6 mN mI mE)) (fun i _ => mE - (intOf i).toNat)
          case atStart => exact ⟨0, Nat.zero_le _, rfl, HE2.out⟩
          case round =>
            obtain ⟨j, hj, rfl, HS3⟩ := hrel
            have r7 := (row11c (HS3.out.chg.heap HX7.out (fun h => h.2 rfl))).1.2.2.2.2.2.2.2.2.2.1
            by_cases hlt : j < mE
            · have b1 : (j : Int) < (mE : Int) := by omega
              have b2 : (0 : Int) ≤ (j : Int) := by omega
              obtain ⟨gN, hA, hgb, hcell⟩ := HS3.out.we (by omega)
              have hne := HLN.out _ _ gN HWE.out hA (by omega)
              obtain ⟨⟨u, hu⟩, hf⟩ := hcell (j * 6 + 1) (by omega)
              have HSN : Hid (KeptSt w5.heap.size xb w7 (wr.setCell ⟨gN, j * 6 + 1, none⟩ (.string ⟨#[111, 116, 104, 101, 114]⟩)) N6 I6 E6 mN mI mE) := HS3.out.set hgb hne _
              rw [hA] at r7
              clear hgb hcell hne
              have HAA := Lib.hid hA
              clear hA
              go_wp2
              exact ⟨⟨j + 1, by omega, by go_num, HSN⟩, by simp [intOf]; omega⟩
            · have b1 : ¬ (j : Int) < (mE : Int) := by omega
              have HE3 := HS3
              obtain ⟨v3, hv3⟩ : ∃ v, wr = v := ⟨_, rfl⟩
              subst hv3
              obtain ⟨W, hW⟩ : ∃ W, wr = W := ⟨_, rfl⟩
              subst hW
              have HCW : Hid (Chg (fun b => w5.heap.size ≤ b) w5 wr) := (HC7.out.ofNew (S := fun b => w5.heap.size ≤ b)).trans HE3.out.chg (fun i hi => .inl hi.1)
              have HSTW := Lib.hid (HST5.out.chg HCW.out (fun b hb h => by omega))
              obtain ⟨s0, s1, s2, s3, s4, s5⟩ := row6 (HCW.out.heap (HC5.out.heap HQ.out (by omega)) (fun h => by have := HBS.out.1; omega))
              unfold qNodes at s0 s1 s2 s3 s4 s5
              dsimp only at s0 s1 s2 s3 s4 s5
              go_wp2_with fail
              refine (ca_get HSTW.out qNodes).mono ?_
              rintro e w8 ⟨cs8, rfl, hcp, hc8⟩
              rw [keptS] at hcp ⊢
              obtain ⟨S8, sd8, K8, kd8, N8, nd8, I8, id8, E8, ed8, T8, td8, hcs8, -⟩ := hcp.wr
              dsimp only [Option.getD] at hcs8
              have hk8 := hcp.K
              obtain ⟨mS, hmS⟩ : ∃ n, x.2.2.1.2.2.2.1.length = n := ⟨_, rfl⟩
              obtain ⟨mK, hmK⟩ : ∃ n, x.2.2.1.2.2.2.2.length = n := ⟨_, rfl⟩
              obtain ⟨qN, hmN⟩ : ∃ n, x.2.2.2.1.length = n := ⟨_, rfl⟩
              obtain ⟨qI, hmI⟩ : ∃ n, x.2.2.2.2.1.length = n := ⟨_, rfl⟩
              obtain ⟨qE, hmE⟩ : ∃ n, x.2.2.2.2.2.1.length = n := ⟨_, rfl⟩
              obtain ⟨mT, hmT⟩ : ∃ n, x.2.2.2.2.2.2.length = n := ⟨_, rfl⟩
              rw [hmS, hmK, hmN, hmI, hmE, hmT] at hcs8
              clear hmS hmK hmN hmI hmE hmT hcp
              subst hcs8
              have HK8 := Lib.hid hk8
              have HCWV : Hid (Chg (fun b => g + 2 ≤ b) v w8) := (HC5.out.trans HCW.out (fun i hi => .inl (by have := HBS.out.1; omega))).trans hc8 (fun i hi => hi.elim)
              have HKA : Hid (ansK.K w8 ok (6, x.2) (#[.int .i64 6, .int .u64 x.2.1, .bool x.2.2.1.1, .int .i64 x.2.2.1.2.1, .string x.2.2.1.2.2.1, .slice S nS sd, .slice K nK kd, .slice N nN nd, .slice I nI id, .slice E nE ed, .slice T nT td] : Array Value).toList) := Kd.chg HKX.out HCWV.out (fun b hb h => by have := HOK.out b hb; have := HG.out; omega)
              have HFIN : Hid (Chg nob w w8) := HCV.out.trans HCWV.out (fun i hi => .inr (by have := HG.out; omega))
              clear hk8 hc8 s0 s1 s2 s3 s4 s5
              have hca : Chg nob w8 (w8.alloc (.cells #[.int .i64 6, .int .u64 x.2.1, .bool x.2.2.1.1, .int .i64 x.2.2.1.2.1, .string x.2.2.1.2.2.1, .slice S8 mS sd8, .slice K8 mK kd8, .slice N8 qN nd8, .slice I8 qI id8, .slice E8 qE ed8, .slice T8 mT td8] 32)) := (Chg.refl nob w8).alloc _
              have hxA := heap_alloc_new w8 (.cells #[.int .i64 6, .int .u64 x.2.1, .bool x.2.2.1.1, .int .i64 x.2.2.1.2.1, .string x.2.2.1.2.2.1, .slice S8 mS sd8, .slice K8 mK kd8, .slice N8 qN nd8, .slice I8 qI id8, .slice E8 qE ed8, .slice T8 mT td8] 32)
              go_upto_region 21 with fail
              obtain ⟨wq, hwq⟩ : ∃ wq, w8.alloc (.cells #[.int .i64 6, .int .u64 x.2.1, .bool x.2.2.1.1, .int .i64 x.2.2.1.2.1, .string x.2.2.1.2.2.1, .slice S8 mS sd8, .slice K8 mK kd8, .slice N8 qN nd8, .slice I8 qI id8, .slice E8 qE ed8, .slice T8 mT td8] 32) = wq := ⟨_, rfl⟩
              rw [hwq] at hca hxA ⊢
              have HCA := Lib.hid hca
              obtain ⟨⟨z0, z1, z2, z3, z4, z5, z6, z7, z8, z9, z10⟩, -⟩ := row11c (hca.heap (HCWV.out.heap HX.out (by omega)) (not_nob _))
              obtain ⟨⟨y0, y1, y2, y3, y4, y5, y6, y7, y8, y9, y10⟩, -⟩ := row11c hxA
              clear hca hxA hwq
              go_wp2_with fail
              refine (r_sameA (Kd.chg HK8.out HCA.out (fun b _ => not_nob b)) (Kd.chg HKA.out HCA.out (fun b _ => not_nob b))).mono ?_
              rintro e w9 ⟨rfl, hc9⟩
              have HC9 := Lib.hid ((HFIN.out.thenNew HCA.out).thenNew hc9)
              clear hc9
              go_wp2_with fail
              refine (cache_works w9).mono ?_
              rintro e wA ⟨rfl, hcA⟩
              have HCB := Lib.hid (HC9.out.thenNew hcA)
              clear hcA
              go_wp2
              go_ret
              exact ⟨rfl, HCB.out⟩
#print axioms cacheKept_walk
end Go.Proofs.Ytkclceghhebfaaa
