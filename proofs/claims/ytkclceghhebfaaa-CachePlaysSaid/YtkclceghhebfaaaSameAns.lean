/- The reference's Same (layer 28) of equal answers. -/
import Derived.Test.YtkclceghhebfaaaSvcSame
import Derived.Test.YtkclceghhebfaaaSameFlat
import Derived.Test.YtkclceghhebfaaaCopied
namespace Go.Proofs.Ytkclceghhebfaaa
open Go.RowKit
set_option linter.unusedVariables false
set_option linter.unusedSimpArgs false
/-- The blocks of the two boxes, at a later world. -/
structure TwoBox (w : World) (g : Nat) (cs ds : Array Value) (wx : World) : Prop where
  a : wx.heap[g]? = some (.cells cs 32 (0, 0))
  b : wx.heap[g + 1]? = some (.cells ds 32 (0, 0))
  chg : Chg nob w wx
theorem TwoBox.new {w wx wy : World} {g : Nat} {cs ds : Array Value} (h : TwoBox w g cs ds wx) (hc : Chg nob wx wy) : TwoBox w g cs ds wy := ⟨hc.heap h.a (not_nob _), hc.heap h.b (not_nob _), h.chg.thenNew hc⟩
theorem TwoBox.made (w : World) (cs ds : Array Value) : TwoBox w w.heap.size cs ds ((w.alloc (.cells cs 32)).alloc (.cells ds 32)) := by
  refine ⟨?_, ?_, ((Chg.refl nob w).alloc _).alloc _⟩
  · rw [Below.heap_alloc _ _ _ (by simp)]
    exact heap_alloc_new w _
  · have := heap_alloc_new (w.alloc (.cells cs 32)) (.cells ds 32)
    rwa [World.size_alloc] at this
theorem lit2 {w : World} {okA okB : Nat → Prop} {x y : Svc} {cs ds : Array Value} (t : TypeId) (h : svcK.K w okA x cs.toList) (k : svcK.K w okB y ds.toList) :
    svcK.C ((w.alloc (.cells cs t)).alloc (.cells ds t)) (fun _ => True) (some ⟨w.heap.size, 0, none⟩) [x] ∧ svcK.C ((w.alloc (.cells cs t)).alloc (.cells ds t)) (fun _ => True) (some ⟨w.heap.size + 1, 0, none⟩) [y] := by
  refine ⟨Kd.C_mono (Kd.C_new (boxed t h) ((Chg.refl nob _).alloc _)) (fun _ _ => trivial), ?_⟩
  have h2 := boxed (w := w.alloc (.cells cs t)) t (svcK.mono (ok' := fun _ => True) (fun _ _ => trivial) (Kd.step (svcK.bound k) (fun b hb hl => Below.heap_alloc _ _ _ hl)))
  rw [World.size_alloc] at h2
  exact Kd.C_mono h2 (fun _ _ => trivial)
set_option maxHeartbeats 4000000 in
theorem r_sameA {w : World} {okA okB : Nat → Prop} {x : Ans} {cs ds : Array Value} (h : ansK.K w okA x cs.toList) (k : ansK.K w okB x ds.toList) :
    Calls Try.prog 7 #[.agg cs, .agg ds] w fun e w' => e = .returned (.bool true) ∧ Chg nob w w' := by
  obtain ⟨S0, sd0, K0, kd0, N0, nd0, I0, id0, E0, ed0, T0, td0, hcs, hS, hK, hN, hI, hE, hT⟩ := (ans_cells h).ex
  obtain ⟨S1, sd1, K1, kd1, N1, nd1, I1, id1, E1, ed1, T1, td1, hds, jS, jK, jN, jI, jE, jT⟩ := (ans_cells k).ex
  have hcs' : cs = #[.int .i64 x.1, .int .u64 x.2.1, .bool x.2.2.1.1, .int .i64 x.2.2.1.2.1, .string x.2.2.1.2.2.1, .slice S0 x.2.2.1.2.2.2.1.length sd0, .slice K0 x.2.2.1.2.2.2.2.length kd0, .slice N0 x.2.2.2.1.length nd0, .slice I0 x.2.2.2.2.1.length id0, .slice E0 x.2.2.2.2.2.1.length ed0, .slice T0 x.2.2.2.2.2.2.length td0] := Array.toList_inj.1 (by rw [hcs])
  have hds' : ds = #[.int .i64 x.1, .int .u64 x.2.1, .bool x.2.2.1.1, .int .i64 x.2.2.1.2.1, .string x.2.2.1.2.2.1, .slice S1 x.2.2.1.2.2.2.1.length sd1, .slice K1 x.2.2.1.2.2.2.2.length kd1, .slice N1 x.2.2.2.1.length nd1, .slice I1 x.2.2.2.2.1.length id1, .slice E1 x.2.2.2.2.2.1.length ed1, .slice T1 x.2.2.2.2.2.2.length td1] := Array.toList_inj.1 (by rw [hds])
  subst hcs'
  subst hds'
  clear hcs hds h k
  obtain ⟨nS, hnS⟩ : ∃ n, x.2.2.1.2.2.2.1.length = n := ⟨_, rfl⟩
  obtain ⟨nK, hnK⟩ : ∃ n, x.2.2.1.2.2.2.2.length = n := ⟨_, rfl⟩
  obtain ⟨nN, hnN⟩ : ∃ n, x.2.2.2.1.length = n := ⟨_, rfl⟩
  obtain ⟨nI, hnI⟩ : ∃ n, x.2.2.2.2.1.length = n := ⟨_, rfl⟩
  obtain ⟨nE, hnE⟩ : ∃ n, x.2.2.2.2.2.1.length = n := ⟨_, rfl⟩
  obtain ⟨nT, hnT⟩ : ∃ n, x.2.2.2.2.2.2.length = n := ⟨_, rfl⟩
  have HNS := Lib.hid hnS
  have HNK := Lib.hid hnK
  have HNN := Lib.hid hnN
  have HNI := Lib.hid hnI
  have HNE := Lib.hid hnE
  have HNT := Lib.hid hnT
  have HS := Lib.hid (And.intro hS.1 jS.1)
  have HK := Lib.hid (And.intro hK.1 jK.1)
  have HN := Lib.hid (And.intro hN.1 jN.1)
  have HI := Lib.hid (And.intro hI.1 jI.1)
  have HE := Lib.hid (And.intro hE.1 jE.1)
  have HT := Lib.hid (And.intro hT.1 jT.1)
  have hsm := hI.1.small
  rw [hnS, hnK, hnN, hnI, hnE, hnT]
  rw [hnI] at hsm
  clear hnS hnK hnN hnI hnE hnT hS hK hN hI hE hT jS jK jN jI jE jT
  have HTB := Lib.hid (TwoBox.made w #[.int .i64 x.1, .int .u64 x.2.1, .bool x.2.2.1.1, .int .i64 x.2.2.1.2.1, .string x.2.2.1.2.2.1, .slice S0 nS sd0, .slice K0 nK kd0, .slice N0 nN nd0, .slice I0 nI id0, .slice E0 nE ed0, .slice T0 nT td0] #[.int .i64 x.1, .int .u64 x.2.1, .bool x.2.2.1.1, .int .i64 x.2.2.1.2.1, .string x.2.2.1.2.2.1, .slice S1 nS sd1, .slice K1 nK kd1, .slice N1 nN nd1, .slice I1 nI id1, .slice E1 nE ed1, .slice T1 nT td1])
  obtain ⟨u0, hu0⟩ : ∃ u : World, (w.alloc (.cells #[.int .i64 x.1, .int .u64 x.2.1, .bool x.2.2.1.1, .int .i64 x.2.2.1.2.1, .string x.2.2.1.2.2.1, .slice S0 nS sd0, .slice K0 nK kd0, .slice N0 nN nd0, .slice I0 nI id0, .slice E0 nE ed0, .slice T0 nT td0] 32)).alloc (.cells #[.int .i64 x.1, .int .u64 x.2.1, .bool x.2.2.1.1, .int .i64 x.2.2.1.2.1, .string x.2.2.1.2.2.1, .slice S1 nS sd1, .slice K1 nK kd1, .slice N1 nN nd1, .slice I1 nI id1, .slice E1 nE ed1, .slice T1 nT td1] 32) = u := ⟨_, rfl⟩
  rw [hu0] at HTB
  obtain ⟨g, hg⟩ : ∃ g, w.heap.size = g := ⟨_, rfl⟩
  rw [hg] at HTB
  obtain ⟨⟨q0, q1, q2, q3, q4, q5, q6, q7, q8, q9, q10⟩, _⟩ := row11c HTB.out.a
  obtain ⟨⟨p0, p1, p2, p3, p4, p5, p6, p7, p8, p9, p10⟩, _⟩ := row11c HTB.out.b
  go_enter Try.func7, Try.ntmps7
  go_wp2
  clear q0 q1 q2 q3 q4 q5 q6 q7 q8 q9 q10 p0 p1 p2 p3 p4 p5 p6 p7 p8 p9 p10 hu0
  go_loopw [5] (fun i wr => ∃ j : Nat, j ≤ nI ∧ i = .int .i64 j ∧ Hid (TwoBox w g #[.int .i64 x.1, .int .u64 x.2.1, .bool x.2.2.1.1, .int .i64 x.2.2.1.2.1, .string x.2.2.1.2.2.1, .slice S0 nS sd0, .slice K0 nK kd0, .slice N0 nN nd0, .slice I0 nI id0, .slice E0 nE ed0, .slice T0 nT td0] #[.int .i64 x.1, .int .u64 x.2.1, .bool x.2.2.1.1, .int .i64 x.2.2.1.2.1, .string x.2.2.1.2.2.1, .slice S1 nS sd1, .slice K1 nK kd1, .slice N1 nN nd1, .slice I1 nI id1, .slice E1 nE ed1, .slice T1 nT td1] wr)) (fun i _ => nI - (intOf i).toNat)
  case atStart => exact ⟨0, Nat.zero_le _, rfl, HTB⟩
  case round =>
    obtain ⟨j, hj, rfl, HB⟩ := hrel
    clear HTB
    obtain ⟨⟨_, _, _, _, _, _, _, _, q8, _, _⟩, _⟩ := row11c HB.out.a
    obtain ⟨⟨_, _, _, _, _, _, _, _, p8, _, _⟩, _⟩ := row11c HB.out.b
    by_cases hlt : j < nI
    · have b1 : (j : Int) < (nI : Int) := by omega
      have b3 : (0 : Int) ≤ (j : Int) := by omega
      obtain ⟨y, hy⟩ : ∃ y, x.2.2.2.2.1[j]? = some y := ⟨_, List.getElem?_eq_getElem (by rw [HNI.out]; exact hlt)⟩
      obtain ⟨ab, ao, L, ld, rfl, _, hat, ha7, hCa, hla, hba⟩ := inst_at (Kd.C_new HI.out.1 HB.out.chg) hy
      obtain ⟨bb, bo, L2, ld2, rfl, _, hbt, hb7, hCb, hlb, hbb⟩ := inst_at (Kd.C_new HI.out.2 HB.out.chg) hy
      have hKA := svc_mk (Kd.C_new hCa ((Chg.refl nob wr).drew)) hla hba
      have hKB := svc_mk (Kd.C_new hCb ((Chg.refl nob wr).drew)) hlb hbb
      obtain ⟨tn, htn⟩ : ∃ tn, y.1.2.2.2.1.length = tn := ⟨_, rfl⟩
      rw [htn] at hat hbt hKA hKB
      have KA : Hid (svcK.K wr.drew _ y.1 (#[.int .i64 y.1.1, .string y.1.2.1, .string y.1.2.2.1, .slice L tn ld, .int .i64 y.1.2.2.2.2.1, .int .u64 y.1.2.2.2.2.2.1, .int .u64 y.1.2.2.2.2.2.2] : Array Value).toList) := hKA
      have KB : Hid (svcK.K wr.drew _ y.1 (#[.int .i64 y.1.1, .string y.1.2.1, .string y.1.2.2.1, .slice L2 tn ld2, .int .i64 y.1.2.2.2.2.1, .int .u64 y.1.2.2.2.2.2.1, .int .u64 y.1.2.2.2.2.2.2] : Array Value).toList) := hKB
      have KP : Hid (∀ w', Chg nob wr w' → (w'.cell? ⟨g, 8, none⟩ = some (.slice (some ⟨ab, ao, none⟩) nI id0) ∧ w'.cell? ⟨g + 1, 8, none⟩ = some (.slice (some ⟨bb, bo, none⟩) nI id1)) ∧ (w'.cell? ⟨ab, ao + j * 8 + 7, none⟩ = some (.int .i64 y.2) ∧ w'.cell? ⟨bb, bo + j * 8 + 7, none⟩ = some (.int .i64 y.2)) ∧
          (w'.cell? ⟨ab, ao + j * 8, none⟩ = some (.int .i64 y.1.1) ∧ w'.cell? ⟨ab, ao + j * 8 + 1, none⟩ = some (.string y.1.2.1) ∧ w'.cell? ⟨ab, ao + j * 8 + 2, none⟩ = some (.string y.1.2.2.1) ∧ w'.cell? ⟨ab, ao + j * 8 + 3, none⟩ = some (.slice L tn ld) ∧ w'.cell? ⟨ab, ao + j * 8 + 4, none⟩ = some (.int .i64 y.1.2.2.2.2.1) ∧ w'.cell? ⟨ab, ao + j * 8 + 5, none⟩ = some (.int .u64 y.1.2.2.2.2.2.1) ∧ w'.cell? ⟨ab, ao + j * 8 + 6, none⟩ = some (.int .u64 y.1.2.2.2.2.2.2)) ∧
          (w'.cell? ⟨bb, bo + j * 8, none⟩ = some (.int .i64 y.1.1) ∧ w'.cell? ⟨bb, bo + j * 8 + 1, none⟩ = some (.string y.1.2.1) ∧ w'.cell? ⟨bb, bo + j * 8 + 2, none⟩ = some (.string y.1.2.2.1) ∧ w'.cell? ⟨bb, bo + j * 8 + 3, none⟩ = some (.slice L2 tn ld2) ∧ w'.cell? ⟨bb, bo + j * 8 + 4, none⟩ = some (.int .i64 y.1.2.2.2.2.1) ∧ w'.cell? ⟨bb, bo + j * 8 + 5, none⟩ = some (.int .u64 y.1.2.2.2.2.2.1) ∧ w'.cell? ⟨bb, bo + j * 8 + 6, none⟩ = some (.int .u64 y.1.2.2.2.2.2.2))) :=
        fun w' hc => ⟨⟨hc.cell q8 (not_nob _), hc.cell p8 (not_nob _)⟩, ⟨hc.cell ha7 (not_nob _), hc.cell hb7 (not_nob _)⟩, ⟨(hat.new hc).1, (hat.new hc).2, (hat.new hc).3, (hat.new hc).4, (hat.new hc).5, (hat.new hc).6, (hat.new hc).7⟩, ⟨(hbt.new hc).1, (hbt.new hc).2, (hbt.new hc).3, (hbt.new hc).4, (hbt.new hc).5, (hbt.new hc).6, (hbt.new hc).7⟩⟩
      have hdr := (Chg.refl nob wr).drew
      clear hy hat hbt ha7 hb7 hCa hCb hla hlb hba hbb hKA hKB htn
      go_wp2
      clear q8 p8
      refine wp_region_held_drew (S := fun w' => (w'.cell? ⟨g, 8, none⟩ = some (.slice (some ⟨ab, ao, none⟩) nI id0) ∧ w'.cell? ⟨g + 1, 8, none⟩ = some (.slice (some ⟨bb, bo, none⟩) nI id1)) ∧ (w'.cell? ⟨ab, ao + j * 8 + 7, none⟩ = some (.int .i64 y.2) ∧ w'.cell? ⟨bb, bo + j * 8 + 7, none⟩ = some (.int .i64 y.2)) ∧ (w'.cell? ⟨ab, ao + j * 8, none⟩ = some (.int .i64 y.1.1) ∧ w'.cell? ⟨ab, ao + j * 8 + 1, none⟩ = some (.string y.1.2.1) ∧ w'.cell? ⟨ab, ao + j * 8 + 2, none⟩ = some (.string y.1.2.2.1) ∧ w'.cell? ⟨ab, ao + j * 8 + 3, none⟩ = some (.slice L tn ld) ∧ w'.cell? ⟨ab, ao + j * 8 + 4, none⟩ = some (.int .i64 y.1.2.2.2.2.1) ∧ w'.cell? ⟨ab, ao + j * 8 + 5, none⟩ = some (.int .u64 y.1.2.2.2.2.2.1) ∧ w'.cell? ⟨ab, ao + j * 8 + 6, none⟩ = some (.int .u64 y.1.2.2.2.2.2.2)) ∧ (w'.cell? ⟨bb, bo + j * 8, none⟩ = some (.int .i64 y.1.1) ∧ w'.cell? ⟨bb, bo + j * 8 + 1, none⟩ = some (.string y.1.2.1) ∧ w'.cell? ⟨bb, bo + j * 8 + 2, none⟩ = some (.string y.1.2.2.1) ∧ w'.cell? ⟨bb, bo + j * 8 + 3, none⟩ = some (.slice L2 tn ld2) ∧ w'.cell? ⟨bb, bo + j * 8 + 4, none⟩ = some (.int .i64 y.1.2.2.2.2.1) ∧ w'.cell? ⟨bb, bo + j * 8 + 5, none⟩ = some (.int .u64 y.1.2.2.2.2.2.1) ∧ w'.cell? ⟨bb, bo + j * 8 + 6, none⟩ = some (.int .u64 y.1.2.2.2.2.2.2))) (by kernel_rfl) (KP.out _ hdr) (fun hHeld => ?_)
      refine wpAnyH_take (i := 0) (v := ?_) pick0 (by kernel_rfl) (by kernel_rfl) (by kernel_rfl) (fun _ _ _ h => h) (Or.inl ⟨by rfl, ?_⟩) (by assumption) ?_
      rotate_left 1
      · (intro wx hSw; go_simp; try with_reducible rfl)
      try simp only [Act.put, List.setIfInBounds_toArray, List.set_cons_zero, List.set_cons_succ]
      refine wpAnyH_take (i := 1) (v := ?_) (pickS pick0) (by kernel_rfl) (by kernel_rfl) (by kernel_rfl) (fun _ _ _ h => h) (Or.inl ⟨by rfl, ?_⟩) (by assumption) ?_
      rotate_left 1
      · (intro wx hSw; obtain ⟨⟨s1, s2⟩, ⟨s3, s4⟩, ⟨s5, s6, s7, s8, s9, s10, s11⟩, ⟨r5, r6, r7, r8, r9, r10, r11⟩⟩ := hSw; go_simp; try with_reducible rfl)
      try simp only [Act.put, List.setIfInBounds_toArray, List.set_cons_zero, List.set_cons_succ]
      refine wpAnyH_take (i := 2) (v := ?_) (pickS (pickS pick0)) (by kernel_rfl) (by kernel_rfl) (by kernel_rfl) (fun _ _ _ h => h) (Or.inl ⟨by rfl, ?_⟩) (by assumption) ?_
      rotate_left 1
      · (intro wx hSw; go_simp; try with_reducible rfl)
      try simp only [Act.put, List.setIfInBounds_toArray, List.set_cons_zero, List.set_cons_succ]
      refine wpAnyH_take (i := 3) (v := ?_) (pickS (pickS (pickS pick0))) (by kernel_rfl) (by kernel_rfl) (by kernel_rfl) (fun _ _ _ h => h) (Or.inl ⟨by rfl, ?_⟩) (by assumption) ?_
      rotate_left 1
      · (intro wx hSw; go_simp; try with_reducible rfl)
      try simp only [Act.put, List.setIfInBounds_toArray, List.set_cons_zero, List.set_cons_succ]
      refine wpAnyH_take (i := 4) (v := ?_) (pickS (pickS (pickS (pickS pick0)))) (by kernel_rfl) (by kernel_rfl) (by kernel_rfl) (fun _ _ _ h => h) (Or.inl ⟨by rfl, ?_⟩) (by assumption) ?_
      rotate_left 1
      · (intro wx hSw; go_simp; try with_reducible rfl)
      try simp only [Act.put, List.setIfInBounds_toArray, List.set_cons_zero, List.set_cons_succ]
      refine wpAnyH_take (i := 5) (v := ?_) (pickS (pickS (pickS (pickS (pickS pick0))))) (by kernel_rfl) (by kernel_rfl) (by kernel_rfl) (fun _ _ _ h => h) (Or.inl ⟨by rfl, ?_⟩) (by assumption) ?_
      rotate_left 1
      · (intro wx hSw; obtain ⟨⟨s1, s2⟩, ⟨s3, s4⟩, ⟨s5, s6, s7, s8, s9, s10, s11⟩, ⟨r5, r6, r7, r8, r9, r10, r11⟩⟩ := hSw; go_simp; try with_reducible rfl)
      try simp only [Act.put, List.setIfInBounds_toArray, List.set_cons_zero, List.set_cons_succ]
      refine wpAnyH_take (i := 6) (v := ?_) (pickS (pickS (pickS (pickS (pickS (pickS pick0)))))) (by kernel_rfl) (by kernel_rfl) (by kernel_rfl) (fun _ _ _ h => h) (Or.inl ⟨by rfl, ?_⟩) (by assumption) ?_
      rotate_left 1
      · (intro wx hSw; go_simp; try with_reducible rfl)
      try simp only [Act.put, List.setIfInBounds_toArray, List.set_cons_zero, List.set_cons_succ]
      refine wpAnyH_take (i := 7) (v := ?_) (pickS (pickS (pickS (pickS (pickS (pickS (pickS pick0))))))) (by kernel_rfl) (by kernel_rfl) (by kernel_rfl) (fun _ _ _ h => h) (Or.inl ⟨by rfl, ?_⟩) (by assumption) ?_
      rotate_left 1
      · (intro wx hSw; obtain ⟨⟨s1, s2⟩, ⟨s3, s4⟩, ⟨s5, s6, s7, s8, s9, s10, s11⟩, ⟨r5, r6, r7, r8, r9, r10, r11⟩⟩ := hSw; go_simp; try with_reducible rfl)
      try simp only [Act.put, List.setIfInBounds_toArray, List.set_cons_zero, List.set_cons_succ]
      refine wpAnyH_take (i := 8) (v := ?_) (pickS (pickS (pickS (pickS (pickS (pickS (pickS (pickS pick0)))))))) (by kernel_rfl) (by kernel_rfl) (by kernel_rfl) (fun _ _ _ h => h) (Or.inl ⟨by rfl, ?_⟩) (by assumption) ?_
      rotate_left 1
      · (intro wx hSw; go_simp; try with_reducible rfl)
      try simp only [Act.put, List.setIfInBounds_toArray, List.set_cons_zero, List.set_cons_succ]
      refine wpAnyH_take (i := 9) (v := ?_) (pickS (pickS (pickS (pickS (pickS (pickS (pickS (pickS (pickS pick0))))))))) (by kernel_rfl) (by kernel_rfl) (by kernel_rfl) (fun _ _ _ h => h) (Or.inl ⟨by rfl, ?_⟩) (by assumption) ?_
      rotate_left 1
      · (intro wx hSw; go_simp; try with_reducible rfl)
      try simp only [Act.put, List.setIfInBounds_toArray, List.set_cons_zero, List.set_cons_succ]
      refine wpAnyH_take (i := 10) (v := ?_) (pickS (pickS (pickS (pickS (pickS (pickS (pickS (pickS (pickS (pickS pick0)))))))))) (by kernel_rfl) (by kernel_rfl) (by kernel_rfl) (fun _ _ _ h => h) (Or.inl ⟨by rfl, ?_⟩) (by assumption) ?_
      rotate_left 1
      · (intro wx hSw; go_simp; try with_reducible rfl)
      try simp only [Act.put, List.setIfInBounds_toArray, List.set_cons_zero, List.set_cons_succ]
      refine wpAnyH_take (i := 11) (v := ?_) (pickS (pickS (pickS (pickS (pickS (pickS (pickS (pickS (pickS (pickS (pickS pick0))))))))))) (by kernel_rfl) (by kernel_rfl) (by kernel_rfl) (fun _ _ _ h => h) (Or.inl ⟨by rfl, ?_⟩) (by assumption) ?_
      rotate_left 1
      · (intro wx hSw; obtain ⟨⟨s1, s2⟩, ⟨s3, s4⟩, ⟨s5, s6, s7, s8, s9, s10, s11⟩, ⟨r5, r6, r7, r8, r9, r10, r11⟩⟩ := hSw; go_simp; try with_reducible rfl)
      try simp only [Act.put, List.setIfInBounds_toArray, List.set_cons_zero, List.set_cons_succ]
      refine wpAnyH_take (i := 12) (v := ?_) (pickS (pickS (pickS (pickS (pickS (pickS (pickS (pickS (pickS (pickS (pickS (pickS pick0)))))))))))) (by kernel_rfl) (by kernel_rfl) (by kernel_rfl) (fun _ _ _ h => h) (Or.inl ⟨by rfl, ?_⟩) (by assumption) ?_
      rotate_left 1
      · (intro wx hSw; go_simp; try with_reducible rfl)
      try simp only [Act.put, List.setIfInBounds_toArray, List.set_cons_zero, List.set_cons_succ]
      refine wpAnyH_take (i := 13) (v := ?_) (pickS (pickS (pickS (pickS (pickS (pickS (pickS (pickS (pickS (pickS (pickS (pickS (pickS pick0))))))))))))) (by kernel_rfl) (by kernel_rfl) (by kernel_rfl) (fun _ _ _ h => h) (Or.inl ⟨by rfl, ?_⟩) (by assumption) ?_
      rotate_left 1
      · (intro wx hSw; go_simp; try with_reducible rfl)
      try simp only [Act.put, List.setIfInBounds_toArray, List.set_cons_zero, List.set_cons_succ]
      refine wpAnyH_take (i := 14) (v := ?_) (pickS (pickS (pickS (pickS (pickS (pickS (pickS (pickS (pickS (pickS (pickS (pickS (pickS (pickS pick0)))))))))))))) (by kernel_rfl) (by kernel_rfl) (by kernel_rfl) (fun _ _ _ h => h) (Or.inl ⟨by rfl, ?_⟩) (by assumption) ?_
      rotate_left 1
      · (intro wx hSw; go_simp; try with_reducible rfl)
      try simp only [Act.put, List.setIfInBounds_toArray, List.set_cons_zero, List.set_cons_succ]
      refine wpAnyH_take (i := 15) (v := ?_) (pickS (pickS (pickS (pickS (pickS (pickS (pickS (pickS (pickS (pickS (pickS (pickS (pickS (pickS (pickS pick0))))))))))))))) (by kernel_rfl) (by kernel_rfl) (by kernel_rfl) (fun _ _ _ h => h) (Or.inl ⟨by rfl, ?_⟩) (by assumption) ?_
      rotate_left 1
      · (intro wx hSw; obtain ⟨⟨s1, s2⟩, ⟨s3, s4⟩, ⟨s5, s6, s7, s8, s9, s10, s11⟩, ⟨r5, r6, r7, r8, r9, r10, r11⟩⟩ := hSw; go_simp; try with_reducible rfl)
      try simp only [Act.put, List.setIfInBounds_toArray, List.set_cons_zero, List.set_cons_succ]
      refine wpAnyH_take (i := 16) (v := ?_) (pickS (pickS (pickS (pickS (pickS (pickS (pickS (pickS (pickS (pickS (pickS (pickS (pickS (pickS (pickS (pickS pick0)))))))))))))))) (by kernel_rfl) (by kernel_rfl) (by kernel_rfl) (fun _ _ _ h => h) (Or.inl ⟨by rfl, ?_⟩) (by assumption) ?_
      rotate_left 1
      · (intro wx hSw; go_simp; try with_reducible rfl)
      try simp only [Act.put, List.setIfInBounds_toArray, List.set_cons_zero, List.set_cons_succ]
      refine wpAnyH_take (i := 17) (v := ?_) (pickS (pickS (pickS (pickS (pickS (pickS (pickS (pickS (pickS (pickS (pickS (pickS (pickS (pickS (pickS (pickS (pickS pick0))))))))))))))))) (by kernel_rfl) (by kernel_rfl) (by kernel_rfl) (fun _ _ _ h => h) (Or.inl ⟨by rfl, ?_⟩) (by assumption) ?_
      rotate_left 1
      · (intro wx hSw; go_simp; try with_reducible rfl)
      try simp only [Act.put, List.setIfInBounds_toArray, List.set_cons_zero, List.set_cons_succ]
      refine wpAnyH_take (i := 18) (v := ?_) (pickS (pickS (pickS (pickS (pickS (pickS (pickS (pickS (pickS (pickS (pickS (pickS (pickS (pickS (pickS (pickS (pickS (pickS pick0)))))))))))))))))) (by kernel_rfl) (by kernel_rfl) (by kernel_rfl) (fun _ _ _ h => h) (Or.inl ⟨by rfl, ?_⟩) (by assumption) ?_
      rotate_left 1
      · (intro wx hSw; go_simp; try with_reducible rfl)
      try simp only [Act.put, List.setIfInBounds_toArray, List.set_cons_zero, List.set_cons_succ]
      refine wpAnyH_take (i := 19) (v := ?_) (pickS (pickS (pickS (pickS (pickS (pickS (pickS (pickS (pickS (pickS (pickS (pickS (pickS (pickS (pickS (pickS (pickS (pickS (pickS pick0))))))))))))))))))) (by kernel_rfl) (by kernel_rfl) (by kernel_rfl) (fun _ _ _ h => h) (Or.inl ⟨by rfl, ?_⟩) (by assumption) ?_
      rotate_left 1
      · (intro wx hSw; obtain ⟨⟨s1, s2⟩, ⟨s3, s4⟩, ⟨s5, s6, s7, s8, s9, s10, s11⟩, ⟨r5, r6, r7, r8, r9, r10, r11⟩⟩ := hSw; go_simp; try with_reducible rfl)
      try simp only [Act.put, List.setIfInBounds_toArray, List.set_cons_zero, List.set_cons_succ]
      refine wpAnyH_take (i := 21) (v := ?_) (pickS (pickS (pickS (pickS (pickS (pickS (pickS (pickS (pickS (pickS (pickS (pickS (pickS (pickS (pickS (pickS (pickS (pickS (pickS (pickS (pickS pick0))))))))))))))))))))) (by kernel_rfl) (by kernel_rfl) (by kernel_rfl) (fun _ _ _ h => h) (Or.inl ⟨by rfl, ?_⟩) (by assumption) ?_
      rotate_left 1
      · (intro wx hSw; go_simp; try with_reducible rfl)
      try simp only [Act.put, List.setIfInBounds_toArray, List.set_cons_zero, List.set_cons_succ]
      refine wpAnyH_take (i := 22) (v := ?_) (pickS (pickS (pickS (pickS (pickS (pickS (pickS (pickS (pickS (pickS (pickS (pickS (pickS (pickS (pickS (pickS (pickS (pickS (pickS (pickS (pickS (pickS pick0)))))))))))))))))))))) (by kernel_rfl) (by kernel_rfl) (by kernel_rfl) (fun _ _ _ h => h) (Or.inl ⟨by rfl, ?_⟩) (by assumption) ?_
      rotate_left 1
      · (intro wx hSw; obtain ⟨⟨s1, s2⟩, ⟨s3, s4⟩, ⟨s5, s6, s7, s8, s9, s10, s11⟩, ⟨r5, r6, r7, r8, r9, r10, r11⟩⟩ := hSw; go_simp; try with_reducible rfl)
      try simp only [Act.put, List.setIfInBounds_toArray, List.set_cons_zero, List.set_cons_succ]
      refine wpAnyH_take (i := 23) (v := ?_) (pickS (pickS (pickS (pickS (pickS (pickS (pickS (pickS (pickS (pickS (pickS (pickS (pickS (pickS (pickS (pickS (pickS (pickS (pickS (pickS (pickS (pickS (pickS pick0))))))))))))))))))))))) (by kernel_rfl) (by kernel_rfl) (by kernel_rfl) (fun _ _ _ h => h) (Or.inl ⟨by rfl, ?_⟩) (by assumption) ?_
      rotate_left 1
      · (intro wx hSw; go_simp; try with_reducible rfl)
      try simp only [Act.put, List.setIfInBounds_toArray, List.set_cons_zero, List.set_cons_succ]
      refine wpAnyH_take (i := 24) (v := ?_) (pickS (pickS (pickS (pickS (pickS (pickS (pickS (pickS (pickS (pickS (pickS (pickS (pickS (pickS (pickS (pickS (pickS (pickS (pickS (pickS (pickS (pickS (pickS (pickS pick0)))))))))))))))))))))))) (by kernel_rfl) (by kernel_rfl) (by kernel_rfl) (fun _ _ _ h => h) (Or.inl ⟨by rfl, ?_⟩) (by assumption) ?_
      rotate_left 1
      · (intro wx hSw; go_simp; try with_reducible rfl)
      try simp only [Act.put, List.setIfInBounds_toArray, List.set_cons_zero, List.set_cons_succ]
      refine wpAnyH_take (i := 25) (v := ?_) (pickS (pickS (pickS (pickS (pickS (pickS (pickS (pickS (pickS (pickS (pickS (pickS (pickS (pickS (pickS (pickS (pickS (pickS (pickS (pickS (pickS (pickS (pickS (pickS (pickS pick0))))))))))))))))))))))))) (by kernel_rfl) (by kernel_rfl) (by kernel_rfl) (fun _ _ _ h => h) (Or.inl ⟨by rfl, ?_⟩) (by assumption) ?_
      rotate_left 1
      · (intro wx hSw; go_simp; try with_reducible rfl)
      try simp only [Act.put, List.setIfInBounds_toArray, List.set_cons_zero, List.set_cons_succ]
      refine wpAnyH_take (i := 26) (v := ?_) (pickS (pickS (pickS (pickS (pickS (pickS (pickS (pickS (pickS (pickS (pickS (pickS (pickS (pickS (pickS (pickS (pickS (pickS (pickS (pickS (pickS (pickS (pickS (pickS (pickS (pickS pick0)))))))))))))))))))))))))) (by kernel_rfl) (by kernel_rfl) (by kernel_rfl) (fun _ _ _ h => h) (Or.inl ⟨by rfl, ?_⟩) (by assumption) ?_
      rotate_left 1
      · (intro wx hSw; obtain ⟨⟨s1, s2⟩, ⟨s3, s4⟩, ⟨s5, s6, s7, s8, s9, s10, s11⟩, ⟨r5, r6, r7, r8, r9, r10, r11⟩⟩ := hSw; go_simp; try with_reducible rfl)
      try simp only [Act.put, List.setIfInBounds_toArray, List.set_cons_zero, List.set_cons_succ]
      refine wpAnyH_ready (rs := [20, 27]) (by kernel_rfl) (by simp) ?_
      refine AllReadyH.cons (pickS (pickS (pickS (pickS (pickS (pickS (pickS (pickS (pickS (pickS (pickS (pickS (pickS (pickS (pickS (pickS (pickS (pickS (pickS (pickS pick0)))))))))))))))))))) (fun K hK => ?left) (AllReadyH.cons (pickS (pickS (pickS (pickS (pickS (pickS (pickS (pickS (pickS (pickS (pickS (pickS (pickS (pickS (pickS (pickS (pickS (pickS (pickS (pickS (pickS (pickS (pickS (pickS (pickS (pickS (pickS pick0))))))))))))))))))))))))))) (fun K hK => ?right) AllReadyH.nil)
      case left =>
        go_simp
        refine hK.out _ _ (KP.out _ (((Chg.refl nob wr).drew).alloc _)) (fun hHeld => ?_)
        clear hK K
        try simp only [Act.put, List.setIfInBounds_toArray, List.set_cons_zero, List.set_cons_succ]
        refine wpAnyH_ready (rs := [27]) (by kernel_rfl) (by simp) ?_
        refine AllReadyH.cons (pickS (pickS (pickS (pickS (pickS (pickS (pickS (pickS (pickS (pickS (pickS (pickS (pickS (pickS (pickS (pickS (pickS (pickS (pickS (pickS (pickS (pickS (pickS (pickS (pickS (pickS (pickS pick0))))))))))))))))))))))))))) (fun K hK => ?_) AllReadyH.nil
        go_simp
        refine hK.out _ _ (KP.out _ ((((Chg.refl nob wr).drew).alloc _).alloc _)) (fun hHeld => ?_)
        clear hK K
        try simp only [Act.put, List.setIfInBounds_toArray, List.set_cons_zero, List.set_cons_succ]
        refine wpAnyH_ready (rs := [28]) (by kernel_rfl) (by simp) ?_
        refine AllReadyH.cons (pickS (pickS (pickS (pickS (pickS (pickS (pickS (pickS (pickS (pickS (pickS (pickS (pickS (pickS (pickS (pickS (pickS (pickS (pickS (pickS (pickS (pickS (pickS (pickS (pickS (pickS (pickS (pickS pick0)))))))))))))))))))))))))))) (fun K hK => ?_) AllReadyH.nil
        go_simp
        refine (r_sameV (l := [y.1]) rfl (lit2 45 KA.out KB.out).1 (lit2 45 KA.out KB.out).2).mono ?_
        rintro e w' ⟨rfl, hc⟩
        have hcw := ((((Chg.refl nob wr).drew).alloc _).alloc _).thenNew hc
        go_simp
        refine hK.out _ _ (KP.out _ hcw) (fun hHeld => ?_)
        clear hK K
        try simp only [Act.put, List.setIfInBounds_toArray, List.set_cons_zero, List.set_cons_succ]
        refine wpAnyH_take (i := 29) (v := ?_) (pickS (pickS (pickS (pickS (pickS (pickS (pickS (pickS (pickS (pickS (pickS (pickS (pickS (pickS (pickS (pickS (pickS (pickS (pickS (pickS (pickS (pickS (pickS (pickS (pickS (pickS (pickS (pickS (pickS pick0))))))))))))))))))))))))))))) (by kernel_rfl) (by kernel_rfl) (by kernel_rfl) (fun _ _ _ h => h) (Or.inl ⟨by rfl, ?_⟩) (by assumption) ?_
        rotate_left 1
        · (intro wx hSw; go_simp; try with_reducible rfl)
        try simp only [Act.put, List.setIfInBounds_toArray, List.set_cons_zero, List.set_cons_succ]
        refine wpAnyH_take (i := 30) (v := ?_) (pickS (pickS (pickS (pickS (pickS (pickS (pickS (pickS (pickS (pickS (pickS (pickS (pickS (pickS (pickS (pickS (pickS (pickS (pickS (pickS (pickS (pickS (pickS (pickS (pickS (pickS (pickS (pickS (pickS (pickS pick0)))))))))))))))))))))))))))))) (by kernel_rfl) (by kernel_rfl) (by kernel_rfl) (fun _ _ _ h => h) (Or.inl ⟨by rfl, ?_⟩) (by assumption) ?_
        rotate_left 1
        · (intro wx hSw; go_simp; try with_reducible rfl)
        try simp only [Act.put, List.setIfInBounds_toArray, List.set_cons_zero, List.set_cons_succ]
        refine wpAnyH_done (by kernel_rfl) ?_ _
        have HBN := Lib.hid (HB.out.new hcw)
        go_wp2
        exact ⟨⟨j + 1, hlt, by go_num, HBN⟩, by simp [intOf]; omega⟩
      case right =>
        go_simp
        refine hK.out _ _ (KP.out _ (((Chg.refl nob wr).drew).alloc _)) (fun hHeld => ?_)
        clear hK K
        try simp only [Act.put, List.setIfInBounds_toArray, List.set_cons_zero, List.set_cons_succ]
        refine wpAnyH_ready (rs := [20]) (by kernel_rfl) (by simp) ?_
        refine AllReadyH.cons (pickS (pickS (pickS (pickS (pickS (pickS (pickS (pickS (pickS (pickS (pickS (pickS (pickS (pickS (pickS (pickS (pickS (pickS (pickS (pickS pick0)))))))))))))))))))) (fun K hK => ?_) AllReadyH.nil
        go_simp
        refine hK.out _ _ (KP.out _ ((((Chg.refl nob wr).drew).alloc _).alloc _)) (fun hHeld => ?_)
        clear hK K
        try simp only [Act.put, List.setIfInBounds_toArray, List.set_cons_zero, List.set_cons_succ]
        refine wpAnyH_ready (rs := [28]) (by kernel_rfl) (by simp) ?_
        refine AllReadyH.cons (pickS (pickS (pickS (pickS (pickS (pickS (pickS (pickS (pickS (pickS (pickS (pickS (pickS (pickS (pickS (pickS (pickS (pickS (pickS (pickS (pickS (pickS (pickS (pickS (pickS (pickS (pickS (pickS pick0)))))))))))))))))))))))))))) (fun K hK => ?_) AllReadyH.nil
        go_simp
        refine (r_sameV (l := [y.1]) rfl (lit2 45 KB.out KA.out).2 (lit2 45 KB.out KA.out).1).mono ?_
        rintro e w' ⟨rfl, hc⟩
        have hcw := ((((Chg.refl nob wr).drew).alloc _).alloc _).thenNew hc
        go_simp
        refine hK.out _ _ (KP.out _ hcw) (fun hHeld => ?_)
        clear hK K
        try simp only [Act.put, List.setIfInBounds_toArray, List.set_cons_zero, List.set_cons_succ]
        refine wpAnyH_take (i := 29) (v := ?_) (pickS (pickS (pickS (pickS (pickS (pickS (pickS (pickS (pickS (pickS (pickS (pickS (pickS (pickS (pickS (pickS (pickS (pickS (pickS (pickS (pickS (pickS (pickS (pickS (pickS (pickS (pickS (pickS (pickS pick0))))))))))))))))))))))))))))) (by kernel_rfl) (by kernel_rfl) (by kernel_rfl) (fun _ _ _ h => h) (Or.inl ⟨by rfl, ?_⟩) (by assumption) ?_
        rotate_left 1
        · (intro wx hSw; go_simp; try with_reducible rfl)
        try simp only [Act.put, List.setIfInBounds_toArray, List.set_cons_zero, List.set_cons_succ]
        refine wpAnyH_take (i := 30) (v := ?_) (pickS (pickS (pickS (pickS (pickS (pickS (pickS (pickS (pickS (pickS (pickS (pickS (pickS (pickS (pickS (pickS (pickS (pickS (pickS (pickS (pickS (pickS (pickS (pickS (pickS (pickS (pickS (pickS (pickS (pickS pick0)))))))))))))))))))))))))))))) (by kernel_rfl) (by kernel_rfl) (by kernel_rfl) (fun _ _ _ h => h) (Or.inl ⟨by rfl, ?_⟩) (by assumption) ?_
        rotate_left 1
        · (intro wx hSw; go_simp; try with_reducible rfl)
        try simp only [Act.put, List.setIfInBounds_toArray, List.set_cons_zero, List.set_cons_succ]
        refine wpAnyH_done (by kernel_rfl) ?_ _
        have HBN := Lib.hid (HB.out.new hcw)
        go_wp2
        exact ⟨⟨j + 1, hlt, by go_num, HBN⟩, by simp [intOf]; omega⟩
    · obtain rfl : nI = j := by omega
      have b1 : ¬ (nI : Int) < (nI : Int) := by omega
      obtain ⟨⟨_, _, _, _, _, q5, q6, q7, _, q9, q10⟩, _⟩ := row11c HB.out.a
      obtain ⟨⟨_, _, _, _, _, p5, p6, p7, _, p9, p10⟩, _⟩ := row11c HB.out.b
      go_wp2_with fail
      clear q5 q6 q7 q8 q9 q10 p5 p6 p7 p8 p9 p10
      refine (r_sameV HNS.out (Kd.C_new HS.out.1 HB.out.chg) (Kd.C_new HS.out.2 HB.out.chg)).mono ?_
      rintro e v0 ⟨rfl, hc⟩
      have HB := Lib.hid (HB.out.new hc)
      obtain ⟨⟨_, _, _, _, _, q5, q6, q7, q8, q9, q10⟩, _⟩ := row11c HB.out.a
      obtain ⟨⟨_, _, _, _, _, p5, p6, p7, p8, p9, p10⟩, _⟩ := row11c HB.out.b
      clear hc
      go_wp2_with fail
      clear q5 q6 q7 q8 q9 q10 p5 p6 p7 p8 p9 p10
      refine (r_sameC (Kd.C_new HK.out.1 HB.out.chg) (Kd.C_new HK.out.2 HB.out.chg) HNK.out).mono ?_
      rintro e v1 ⟨rfl, hc⟩
      have HB := Lib.hid (HB.out.new hc)
      obtain ⟨⟨_, _, _, _, _, q5, q6, q7, q8, q9, q10⟩, _⟩ := row11c HB.out.a
      obtain ⟨⟨_, _, _, _, _, p5, p6, p7, p8, p9, p10⟩, _⟩ := row11c HB.out.b
      clear hc
      go_wp2_with fail
      clear q5 q6 q7 q8 q9 q10 p5 p6 p7 p8 p9 p10
      refine (r_sameN (Kd.C_new HN.out.1 HB.out.chg) (Kd.C_new HN.out.2 HB.out.chg) HNN.out).mono ?_
      rintro e v2 ⟨rfl, hc⟩
      have HB := Lib.hid (HB.out.new hc)
      obtain ⟨⟨_, _, _, _, _, q5, q6, q7, q8, q9, q10⟩, _⟩ := row11c HB.out.a
      obtain ⟨⟨_, _, _, _, _, p5, p6, p7, p8, p9, p10⟩, _⟩ := row11c HB.out.b
      clear hc
      go_wp2_with fail
      clear q5 q6 q7 q8 q9 q10 p5 p6 p7 p8 p9 p10
      refine (r_sameE (Kd.C_new HE.out.1 HB.out.chg) (Kd.C_new HE.out.2 HB.out.chg) HNE.out).mono ?_
      rintro e v3 ⟨rfl, hc⟩
      have HB := Lib.hid (HB.out.new hc)
      obtain ⟨⟨_, _, _, _, _, q5, q6, q7, q8, q9, q10⟩, _⟩ := row11c HB.out.a
      obtain ⟨⟨_, _, _, _, _, p5, p6, p7, p8, p9, p10⟩, _⟩ := row11c HB.out.b
      clear hc
      go_wp2_with fail
      clear q5 q6 q7 q8 q9 q10 p5 p6 p7 p8 p9 p10
      refine (r_sameT (Kd.C_new HT.out.1 HB.out.chg) (Kd.C_new HT.out.2 HB.out.chg) HNT.out).mono ?_
      rintro e v4 ⟨rfl, hc⟩
      have HB := Lib.hid (HB.out.new hc)
      obtain ⟨⟨_, _, _, _, _, q5, q6, q7, q8, q9, q10⟩, _⟩ := row11c HB.out.a
      obtain ⟨⟨_, _, _, _, _, p5, p6, p7, p8, p9, p10⟩, _⟩ := row11c HB.out.b
      clear hc
      go_wp2
      go_ret
      exact ⟨rfl, HB.out.chg⟩
end Go.Proofs.Ytkclceghhebfaaa
