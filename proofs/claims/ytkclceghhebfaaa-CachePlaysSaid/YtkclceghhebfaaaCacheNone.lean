/- What the law CacheNone answers. -/
import Derived.Test.YtkclceghhebfaaaCacheWorks
import Derived.Test.YtkclceghhebfaaaCacheNo
import Derived.Test.YtkclceghhebfaaaSameAns
namespace Go.Proofs.Ytkclceghhebfaaa
open Go.RowKit
set_option linter.unusedVariables false
set_option linter.unusedSimpArgs false
theorem row18 {w : World} {g t : Nat} {a0 a1 a2 a3 a4 a5 a6 a7 a8 a9 a10 a11 a12 a13 a14 a15 a16 a17 : Value} (h : w.heap[g]? = some (.cells #[a0, a1, a2, a3, a4, a5, a6, a7, a8, a9, a10, a11, a12, a13, a14, a15, a16, a17] t (0, 0))) :
    (w.cell? ⟨g, 0, none⟩ = some a0 ∧ w.cell? ⟨g, 1, none⟩ = some a1 ∧ w.cell? ⟨g, 2, none⟩ = some a2 ∧ w.cell? ⟨g, 3, none⟩ = some a3 ∧ w.cell? ⟨g, 4, none⟩ = some a4 ∧ w.cell? ⟨g, 5, none⟩ = some a5 ∧ w.cell? ⟨g, 6, none⟩ = some a6) ∧
    (w.cell? ⟨g, 7, none⟩ = some a7 ∧ w.cell? ⟨g, 8, none⟩ = some a8 ∧ w.cell? ⟨g, 9, none⟩ = some a9 ∧ w.cell? ⟨g, 10, none⟩ = some a10 ∧ w.cell? ⟨g, 11, none⟩ = some a11 ∧ w.cell? ⟨g, 12, none⟩ = some a12 ∧ w.cell? ⟨g, 13, none⟩ = some a13 ∧ w.cell? ⟨g, 14, none⟩ = some a14 ∧ w.cell? ⟨g, 15, none⟩ = some a15 ∧ w.cell? ⟨g, 16, none⟩ = some a16 ∧ w.cell? ⟨g, 17, none⟩ = some a17) := by
  refine ⟨⟨?_, ?_, ?_, ?_, ?_, ?_, ?_⟩, ?_, ?_, ?_, ?_, ?_, ?_, ?_, ?_, ?_, ?_, ?_⟩
  all_goals (rw [cell_of_row _ _ _ _ _ _ h]; rfl)
/-- What stays in each round. -/
structure NoneSt (v wx : World) : Prop where
  chg : Chg nob v wx
set_option maxRecDepth 100000 in
set_option maxHeartbeats 4000000 in
theorem cacheNone_walk {w : World} {ok : Nat → Prop} {k : Int} {q : Qry} {x : Ans} {S K N I E T : Option Addr} {nS nK nN nI nE nT sd kd nd id ed td : Nat}
    (hk : ansK.K w ok x (#[.int .i64 x.1, .int .u64 x.2.1, .bool x.2.2.1.1, .int .i64 x.2.2.1.2.1, .string x.2.2.1.2.2.1, .slice S nS sd, .slice K nK kd, .slice N nN nd, .slice I nI id, .slice E nE ed, .slice T nT td] : Array Value).toList) :
    Calls Try.prog 6 #[.agg #[.int .i64 k, .int .i64 q.1, .int .i64 q.2.1, .string q.2.2.1, .string q.2.2.2.1, .string q.2.2.2.2.1, .bool q.2.2.2.2.2, .int .i64 x.1, .int .u64 x.2.1, .bool x.2.2.1.1, .int .i64 x.2.2.1.2.1, .string x.2.2.1.2.2.1, .slice S nS sd, .slice K nK kd, .slice N nN nd, .slice I nI id, .slice E nE ed, .slice T nT td]] w
      fun e w' => e = .returned (.bool true) ∧ Chg nob w w' := by
  obtain ⟨g, hg⟩ : ∃ g, w.heap.size = g := ⟨_, rfl⟩
  obtain ⟨w1, hw1⟩ : ∃ w1, w.alloc (.cells #[.int .i64 k, .int .i64 q.1, .int .i64 q.2.1, .string q.2.2.1, .string q.2.2.2.1, .string q.2.2.2.2.1, .bool q.2.2.2.2.2, .int .i64 x.1, .int .u64 x.2.1, .bool x.2.2.1.1, .int .i64 x.2.2.1.2.1, .string x.2.2.1.2.2.1, .slice S nS sd, .slice K nK kd, .slice N nN nd, .slice I nI id, .slice E nE ed, .slice T nT td] 54) = w1 := ⟨_, rfl⟩
  have hz1 : w1.heap.size = g + 1 := by rw [← hw1, World.size_alloc, hg]
  have hb1 := heap_alloc_new w (.cells #[.int .i64 k, .int .i64 q.1, .int .i64 q.2.1, .string q.2.2.1, .string q.2.2.2.1, .string q.2.2.2.2.1, .bool q.2.2.2.2.2, .int .i64 x.1, .int .u64 x.2.1, .bool x.2.2.1.1, .int .i64 x.2.2.1.2.1, .string x.2.2.1.2.2.1, .slice S nS sd, .slice K nK kd, .slice N nN nd, .slice I nI id, .slice E nE ed, .slice T nT td] 54)
  have hc1 : Chg nob w w1 := by rw [← hw1]; exact (Chg.refl nob w).alloc _
  rw [hw1, hg] at hb1
  obtain ⟨w2, hw2⟩ : ∃ w2, w1.alloc (.cells #[.map none, .slice none 0 0] 66) = w2 := ⟨_, rfl⟩
  have hz2 : w2.heap.size = g + 2 := by rw [← hw2, World.size_alloc, hz1]
  have hb2 := heap_alloc_new w1 (.cells #[.map none, .slice none 0 0] 66)
  have hc2 : Chg nob w1 w2 := by rw [← hw2]; exact (Chg.refl nob w1).alloc _
  rw [hw2, hz1] at hb2
  obtain ⟨v, hw3⟩ : ∃ w3, w2.alloc (.cells #[.pointer none, .pointer (some ⟨g + 1, 0, none⟩)] 36) = w3 := ⟨_, rfl⟩
  have hb3 := heap_alloc_new w2 (.cells #[.pointer none, .pointer (some ⟨g + 1, 0, none⟩)] 36)
  have hc3 : Chg nob w2 v := by rw [← hw3]; exact (Chg.refl nob w2).alloc _
  rw [hw3, hz2] at hb3
  have HX := Lib.hid ((hc2.thenNew hc3).heap hb1 (not_nob _))
  have HZ := Lib.hid (hc3.heap hb2 (not_nob _))
  have HL := Lib.hid hb3
  have HCV := Lib.hid (hc1.thenNew (hc2.thenNew hc3))
  have HKX : Hid (ansK.K v ok x (#[.int .i64 x.1, .int .u64 x.2.1, .bool x.2.2.1.1, .int .i64 x.2.2.1.2.1, .string x.2.2.1.2.2.1, .slice S nS sd, .slice K nK kd, .slice N nN nd, .slice I nI id, .slice E nE ed, .slice T nT td] : Array Value).toList) := Kd.chg hk HCV.out (fun b _ => not_nob b)
  have HNZ := Lib.hid (fun (wx : World) => zero_K wx (fun _ => False))
  clear hb1 hb2 hb3 hc1 hc2 hc3 hk
  go_enter Try.func6, Try.ntmps6
  go_wp2
  go_loopw [5] (fun i wr => ∃ j : Nat, j ≤ 2 ∧ i = .int .i64 j ∧ Hid (Chg nob v wr)) (fun i _ => 2 - (intOf i).toNat)
  case atStart => exact ⟨0, by omega, rfl, Chg.refl _ _⟩
  case round =>
    obtain ⟨j, hj, rfl, HR⟩ := hrel
    by_cases hlt : j < 2
    · have b1 : (j : Int) < 2 := by omega
      have b2 : (0 : Int) ≤ (j : Int) := by omega
      obtain ⟨p, hp⟩ : ∃ p, v.cell? ⟨g + 2, j, none⟩ = some (.pointer p) ∧ NoCache v p := by
        have hj2 : j = 0 ∨ j = 1 := by omega
        rcases hj2 with rfl | rfl
        · exact ⟨none, by rw [cell_of_row _ _ _ _ _ _ HL.out]; rfl, .inl rfl⟩
        · exact ⟨some ⟨g + 1, 0, none⟩, by rw [cell_of_row _ _ _ _ _ _ HL.out]; rfl, .inr ⟨g + 1, rfl, HZ.out⟩⟩
      obtain ⟨hp, hn⟩ := hp
      have p0 := HR.out.cell hp (not_nob _)
      have HP := Lib.hid hp
      have HN := Lib.hid hn
      clear hp hn
      go_wp2_with fail
      refine (nc_clear (HN.out.new HR.out)).mono ?_
      rintro e w4 ⟨rfl, hww⟩
      subst hww
      go_wp2
      refine wp_region_held_drew (S := fun wx => NoneSt v wx) (by kernel_rfl) (⟨HR.out.drew⟩) (fun hHeld => ?_)
      refine wpAnyH_take (i := 0) (v := ?_) pick0 (by kernel_rfl) (by kernel_rfl) (by kernel_rfl) (fun _ _ _ h => h) (Or.inl ⟨by rfl, ?_⟩) (by assumption) ?_
      rotate_left 1
      · (intro wx hSw; go_simp; try with_reducible rfl)
      try simp only [Act.put, List.setIfInBounds_toArray, List.set_cons_zero, List.set_cons_succ]
      refine wpAnyH_take (i := 1) (v := ?_) (pickS pick0) (by kernel_rfl) (by kernel_rfl) (by kernel_rfl) (fun _ _ _ h => h) (Or.inl ⟨by rfl, ?_⟩) (by assumption) ?_
      rotate_left 1
      · (intro wx hSw; go_simp; try with_reducible rfl)
      try simp only [Act.put, List.setIfInBounds_toArray, List.set_cons_zero, List.set_cons_succ]
      refine wpAnyH_take (i := 2) (v := ?_) (pickS (pickS pick0)) (by kernel_rfl) (by kernel_rfl) (by kernel_rfl) (fun _ _ _ h => h) (Or.inl ⟨by rfl, ?_⟩) (by assumption) ?_
      rotate_left 1
      · (intro wx hSw; go_simp; try with_reducible rfl)
      try simp only [Act.put, List.setIfInBounds_toArray, List.set_cons_zero, List.set_cons_succ]
      refine wpAnyH_take (i := 3) (v := ?_) (pickS (pickS (pickS pick0))) (by kernel_rfl) (by kernel_rfl) (by kernel_rfl) (fun _ _ _ h => h) (Or.inl ⟨by rfl, ?_⟩) (by assumption) ?_
      rotate_left 1
      · (intro wx hSw; have p0 := hSw.chg.cell HP.out (not_nob _); go_simp; try with_reducible rfl)
      try simp only [Act.put, List.setIfInBounds_toArray, List.set_cons_zero, List.set_cons_succ]
      refine wpAnyH_take (i := 4) (v := ?_) (pickS (pickS (pickS (pickS pick0)))) (by kernel_rfl) (by kernel_rfl) (by kernel_rfl) (fun _ _ _ h => h) (Or.inl ⟨by rfl, ?_⟩) (by assumption) ?_
      rotate_left 1
      · (intro wx hSw; go_simp; try with_reducible rfl)
      try simp only [Act.put, List.setIfInBounds_toArray, List.set_cons_zero, List.set_cons_succ]
      refine wpAnyH_take (i := 5) (v := ?_) (pickS (pickS (pickS (pickS (pickS pick0))))) (by kernel_rfl) (by kernel_rfl) (by kernel_rfl) (fun _ _ _ h => h) (Or.inl ⟨by rfl, ?_⟩) (by assumption) ?_
      rotate_left 1
      · (intro wx hSw; obtain ⟨⟨s0, s1, s2, s3, s4, s5, s6⟩, -⟩ := row18 (hSw.chg.heap HX.out (not_nob _)); go_simp; try with_reducible rfl)
      try simp only [Act.put, List.setIfInBounds_toArray, List.set_cons_zero, List.set_cons_succ]
      refine wpAnyH_take (i := 6) (v := ?_) (pickS (pickS (pickS (pickS (pickS (pickS pick0)))))) (by kernel_rfl) (by kernel_rfl) (by kernel_rfl) (fun _ _ _ h => h) (Or.inl ⟨by rfl, ?_⟩) (by assumption) ?_
      rotate_left 1
      · (intro wx hSw; go_simp; try with_reducible rfl)
      try simp only [Act.put, List.setIfInBounds_toArray, List.set_cons_zero, List.set_cons_succ]
      refine wpAnyH_take (i := 7) (v := ?_) (pickS (pickS (pickS (pickS (pickS (pickS (pickS pick0))))))) (by kernel_rfl) (by kernel_rfl) (by kernel_rfl) (fun _ _ _ h => h) (Or.inl ⟨by rfl, ?_⟩) (by assumption) ?_
      rotate_left 1
      · (intro wx hSw; obtain ⟨-, z0, z1, z2, z3, z4, z5, z6, z7, z8, z9, z10⟩ := row18 (hSw.chg.heap HX.out (not_nob _)); go_simp; try with_reducible rfl)
      try simp only [Act.put, List.setIfInBounds_toArray, List.set_cons_zero, List.set_cons_succ]
      refine wpAnyH_ready (rs := [8]) (by kernel_rfl) (by simp) ?_
      refine AllReadyH.cons (pickS (pickS (pickS (pickS (pickS (pickS (pickS (pickS pick0)))))))) (fun K hK => ?_) AllReadyH.nil
      go_simp
      refine (nc_put (q := q) (HN.out.new hHeld.chg) (Kd.chg HKX.out hHeld.chg (fun b _ => not_nob b))).mono ?_
      rintro e w5 ⟨rfl, hc5⟩
      have HS5 : Hid (NoneSt v w5) := ⟨hHeld.chg.thenNew hc5⟩
      clear hc5
      go_wp2_with fail
      refine hK.out _ _ (HS5.out) (fun hHeld => ?_)
      clear hK K
      try simp only [Act.put, List.setIfInBounds_toArray, List.set_cons_zero, List.set_cons_succ]
      refine wpAnyH_take (i := 9) (v := ?_) (pickS (pickS (pickS (pickS (pickS (pickS (pickS (pickS (pickS pick0))))))))) (by kernel_rfl) (by kernel_rfl) (by kernel_rfl) (fun _ _ _ h => h) (Or.inl ⟨by rfl, ?_⟩) (by assumption) ?_
      rotate_left 1
      · (intro wx hSw; go_simp; try with_reducible rfl)
      try simp only [Act.put, List.setIfInBounds_toArray, List.set_cons_zero, List.set_cons_succ]
      refine wpAnyH_done (by kernel_rfl) ?_ _
      go_upto_region 8 with fail
      go_cut [7, 8] (fun p8 s8 wx => ∃ b, p8 = .pointer (some ⟨b, 0, none⟩) ∧ s8 = .bool false ∧ Hid (wx.heap[b]? = some (.cells #[.int .i64 0, .int .u64 0, .bool false, .int .i64 0, .string ByteArray.empty, .slice none 0 0, .slice none 0 0, .slice none 0 0, .slice none 0 0, .slice none 0 0, .slice none 0 0] 32 (0, 0))) ∧ Hid (NoneSt v wx))
      case first =>
        refine wp_region_held_drew (S := fun wx => NoneSt v wx) (by kernel_rfl) (⟨HS5.out.chg.drew⟩) (fun hHeld => ?_)
        refine wpAnyH_take (i := 0) (v := ?_) pick0 (by kernel_rfl) (by kernel_rfl) (by kernel_rfl) (fun _ _ _ h => h) (Or.inl ⟨by rfl, ?_⟩) (by assumption) ?_
        rotate_left 1
        · (intro wx hSw; go_simp; try with_reducible rfl)
        try simp only [Act.put, List.setIfInBounds_toArray, List.set_cons_zero, List.set_cons_succ]
        refine wpAnyH_take (i := 1) (v := ?_) (pickS pick0) (by kernel_rfl) (by kernel_rfl) (by kernel_rfl) (fun _ _ _ h => h) (Or.inl ⟨by rfl, ?_⟩) (by assumption) ?_
        rotate_left 1
        · (intro wx hSw; go_simp; try with_reducible rfl)
        try simp only [Act.put, List.setIfInBounds_toArray, List.set_cons_zero, List.set_cons_succ]
        refine wpAnyH_take (i := 2) (v := ?_) (pickS (pickS pick0)) (by kernel_rfl) (by kernel_rfl) (by kernel_rfl) (fun _ _ _ h => h) (Or.inl ⟨by rfl, ?_⟩) (by assumption) ?_
        rotate_left 1
        · (intro wx hSw; go_simp; try with_reducible rfl)
        try simp only [Act.put, List.setIfInBounds_toArray, List.set_cons_zero, List.set_cons_succ]
        refine wpAnyH_take (i := 3) (v := ?_) (pickS (pickS (pickS pick0))) (by kernel_rfl) (by kernel_rfl) (by kernel_rfl) (fun _ _ _ h => h) (Or.inl ⟨by rfl, ?_⟩) (by assumption) ?_
        rotate_left 1
        · (intro wx hSw; have p0 := hSw.chg.cell HP.out (not_nob _); go_simp; try with_reducible rfl)
        try simp only [Act.put, List.setIfInBounds_toArray, List.set_cons_zero, List.set_cons_succ]
        refine wpAnyH_take (i := 4) (v := ?_) (pickS (pickS (pickS (pickS pick0)))) (by kernel_rfl) (by kernel_rfl) (by kernel_rfl) (fun _ _ _ h => h) (Or.inl ⟨by rfl, ?_⟩) (by assumption) ?_
        rotate_left 1
        · (intro wx hSw; go_simp; try with_reducible rfl)
        try simp only [Act.put, List.setIfInBounds_toArray, List.set_cons_zero, List.set_cons_succ]
        refine wpAnyH_take (i := 5) (v := ?_) (pickS (pickS (pickS (pickS (pickS pick0))))) (by kernel_rfl) (by kernel_rfl) (by kernel_rfl) (fun _ _ _ h => h) (Or.inl ⟨by rfl, ?_⟩) (by assumption) ?_
        rotate_left 1
        · (intro wx hSw; obtain ⟨⟨s0, s1, s2, s3, s4, s5, s6⟩, -⟩ := row18 (hSw.chg.heap HX.out (not_nob _)); go_simp; try with_reducible rfl)
        try simp only [Act.put, List.setIfInBounds_toArray, List.set_cons_zero, List.set_cons_succ]
        refine wpAnyH_ready (rs := [6, 10]) (by kernel_rfl) (by simp) ?_
        refine AllReadyH.cons (pickS (pickS (pickS (pickS (pickS (pickS pick0)))))) (fun K hK => ?left) (AllReadyH.cons (pickS (pickS (pickS (pickS (pickS (pickS (pickS (pickS (pickS (pickS pick0)))))))))) (fun K hK => ?right) AllReadyH.nil)
        case left =>
          go_simp
          refine (nc_get (HN.out.new hHeld.chg) q).mono ?_
          rintro e w6 ⟨rfl, hc6⟩
          have HS6 : Hid (NoneSt v w6) := ⟨hHeld.chg.thenNew hc6⟩
          clear hc6
          unfold ansZ
          go_wp2_with fail
          refine hK.out _ _ (HS6.out) (fun hHeld => ?_)
          clear hK K
          try simp only [Act.put, List.setIfInBounds_toArray, List.set_cons_zero, List.set_cons_succ]
          refine wpAnyH_take (i := 7) (v := ?_) (pickS (pickS (pickS (pickS (pickS (pickS (pickS pick0))))))) (by kernel_rfl) (by kernel_rfl) (by kernel_rfl) (fun _ _ _ h => h) (Or.inl ⟨by rfl, ?_⟩) (by assumption) ?_
          rotate_left 1
          · (intro wx hSw; go_simp; try with_reducible rfl)
          try simp only [Act.put, List.setIfInBounds_toArray, List.set_cons_zero, List.set_cons_succ]
          refine wpAnyH_take (i := 8) (v := ?_) (pickS (pickS (pickS (pickS (pickS (pickS (pickS (pickS pick0)))))))) (by kernel_rfl) (by kernel_rfl) (by kernel_rfl) (fun _ _ _ h => h) (Or.inl ⟨by rfl, ?_⟩) (by assumption) ?_
          rotate_left 1
          · (intro wx hSw; go_simp; try with_reducible rfl)
          try simp only [Act.put, List.setIfInBounds_toArray, List.set_cons_zero, List.set_cons_succ]
          refine wpAnyH_take (i := 9) (v := ?_) (pickS (pickS (pickS (pickS (pickS (pickS (pickS (pickS (pickS pick0))))))))) (by kernel_rfl) (by kernel_rfl) (by kernel_rfl) (fun _ _ _ h => h) (Or.inl ⟨by rfl, ?_⟩) (by assumption) ?_
          rotate_left 1
          · (intro wx hSw; go_simp; try with_reducible rfl)
          try simp only [Act.put, List.setIfInBounds_toArray, List.set_cons_zero, List.set_cons_succ]
          refine wpAnyH_ready (rs := [10]) (by kernel_rfl) (by simp) ?_
          refine AllReadyH.cons (pickS (pickS (pickS (pickS (pickS (pickS (pickS (pickS (pickS (pickS pick0)))))))))) (fun K hK => ?_) AllReadyH.nil
          go_simp
          refine hK.out _ _ (⟨HS6.out.chg.alloc _⟩) (fun hHeld => ?_)
          clear hK K
          try simp only [Act.put, List.setIfInBounds_toArray, List.set_cons_zero, List.set_cons_succ]
          refine wpAnyH_ready (rs := [11]) (by kernel_rfl) (by simp) ?_
          refine AllReadyH.cons (pickS (pickS (pickS (pickS (pickS (pickS (pickS (pickS (pickS (pickS (pickS pick0))))))))))) (fun K hK => ?_) AllReadyH.nil
          go_simp
          refine hK.out _ _ (⟨HS6.out.chg.alloc _⟩) (fun hHeld => ?_)
          clear hK K
          try simp only [Act.put, List.setIfInBounds_toArray, List.set_cons_zero, List.set_cons_succ]
          refine wpAnyH_take (i := 12) (v := ?_) (pickS (pickS (pickS (pickS (pickS (pickS (pickS (pickS (pickS (pickS (pickS (pickS pick0)))))))))))) (by kernel_rfl) (by kernel_rfl) (by kernel_rfl) (fun _ _ _ h => h) (Or.inl ⟨by rfl, ?_⟩) (by assumption) ?_
          rotate_left 1
          · (intro wx hSw; go_simp; try with_reducible rfl)
          try simp only [Act.put, List.setIfInBounds_toArray, List.set_cons_zero, List.set_cons_succ]
          refine wpAnyH_done (by kernel_rfl) ?_ _
          go_wp2
          go_meet
          exact ⟨w6.heap.size, rfl, rfl, heap_alloc_new w6 _, ⟨HS6.out.chg.alloc _⟩⟩
        case right =>
          go_simp
          refine hK.out _ _ (⟨(HS5.out.chg.drew).alloc _⟩) (fun hHeld => ?_)
          clear hK K
          try simp only [Act.put, List.setIfInBounds_toArray, List.set_cons_zero, List.set_cons_succ]
          refine wpAnyH_ready (rs := [6]) (by kernel_rfl) (by simp) ?_
          refine AllReadyH.cons (pickS (pickS (pickS (pickS (pickS (pickS pick0)))))) (fun K hK => ?_) AllReadyH.nil
          go_simp
          refine (nc_get (HN.out.new hHeld.chg) q).mono ?_
          rintro e w6 ⟨rfl, hc6⟩
          have HS6 : Hid (NoneSt v w6) := ⟨hHeld.chg.thenNew hc6⟩
          have hz : w6.heap[w5.heap.size]? = some (.cells #[.int .i64 0, .int .u64 0, .bool false, .int .i64 0, .string ByteArray.empty, .slice none 0 0, .slice none 0 0, .slice none 0 0, .slice none 0 0, .slice none 0 0, .slice none 0 0] 32 (0, 0)) := hc6.heap (heap_alloc_new w5 _) (not_nob _)
          have HZ6 := Lib.hid hz
          obtain ⟨⟨z0, z1, z2, z3, z4, z5, z6, z7, z8, z9, z10⟩, zf⟩ := row11c hz
          have y0 := zf 0
          have y1 := zf 1
          have y2 := zf 2
          have y3 := zf 3
          have y4 := zf 4
          have y5 := zf 5
          have y6 := zf 6
          have y7 := zf 7
          have y8 := zf 8
          have y9 := zf 9
          have y10 := zf 10
          clear hc6 hz zf
          unfold ansZ
          go_wp2_with fail
          refine hK.out _ _ (HS6.out) (fun hHeld => ?_)
          clear hK K
          try simp only [Act.put, List.setIfInBounds_toArray, List.set_cons_zero, List.set_cons_succ]
          refine wpAnyH_take (i := 7) (v := ?_) (pickS (pickS (pickS (pickS (pickS (pickS (pickS pick0))))))) (by kernel_rfl) (by kernel_rfl) (by kernel_rfl) (fun _ _ _ h => h) (Or.inl ⟨by rfl, ?_⟩) (by assumption) ?_
          rotate_left 1
          · (intro wx hSw; go_simp; try with_reducible rfl)
          try simp only [Act.put, List.setIfInBounds_toArray, List.set_cons_zero, List.set_cons_succ]
          refine wpAnyH_take (i := 8) (v := ?_) (pickS (pickS (pickS (pickS (pickS (pickS (pickS (pickS pick0)))))))) (by kernel_rfl) (by kernel_rfl) (by kernel_rfl) (fun _ _ _ h => h) (Or.inl ⟨by rfl, ?_⟩) (by assumption) ?_
          rotate_left 1
          · (intro wx hSw; go_simp; try with_reducible rfl)
          try simp only [Act.put, List.setIfInBounds_toArray, List.set_cons_zero, List.set_cons_succ]
          refine wpAnyH_take (i := 9) (v := ?_) (pickS (pickS (pickS (pickS (pickS (pickS (pickS (pickS (pickS pick0))))))))) (by kernel_rfl) (by kernel_rfl) (by kernel_rfl) (fun _ _ _ h => h) (Or.inl ⟨by rfl, ?_⟩) (by assumption) ?_
          rotate_left 1
          · (intro wx hSw; go_simp; try with_reducible rfl)
          try simp only [Act.put, List.setIfInBounds_toArray, List.set_cons_zero, List.set_cons_succ]
          refine wpAnyH_ready (rs := [11]) (by kernel_rfl) (by simp) ?_
          refine AllReadyH.cons (pickS (pickS (pickS (pickS (pickS (pickS (pickS (pickS (pickS (pickS (pickS pick0))))))))))) (fun K hK => ?_) AllReadyH.nil
          go_simp
          refine hK.out _ _ (⟨HS6.out.chg.trans (set11 HZ6.out _ _ _ _ _ _ _ _ _ _ _).2 (fun i hi => .inr (by rw [show i = w5.heap.size from hi]; exact HS5.out.chg.size))⟩) (fun hHeld => ?_)
          clear hK K
          try simp only [Act.put, List.setIfInBounds_toArray, List.set_cons_zero, List.set_cons_succ]
          refine wpAnyH_take (i := 12) (v := ?_) (pickS (pickS (pickS (pickS (pickS (pickS (pickS (pickS (pickS (pickS (pickS (pickS pick0)))))))))))) (by kernel_rfl) (by kernel_rfl) (by kernel_rfl) (fun _ _ _ h => h) (Or.inl ⟨by rfl, ?_⟩) (by assumption) ?_
          rotate_left 1
          · (intro wx hSw; go_simp; try with_reducible rfl)
          try simp only [Act.put, List.setIfInBounds_toArray, List.set_cons_zero, List.set_cons_succ]
          refine wpAnyH_done (by kernel_rfl) ?_ _
          go_wp2
          go_meet
          exact ⟨w5.heap.size, rfl, rfl, (set11 HZ6.out _ _ _ _ _ _ _ _ _ _ _).1, ⟨HS6.out.chg.trans (set11 HZ6.out _ _ _ _ _ _ _ _ _ _ _).2 (fun i hi => .inr (by rw [show i = w5.heap.size from hi]; exact HS5.out.chg.size))⟩⟩
      case rest =>
        obtain ⟨b, rfl, rfl, HB, HS⟩ := hcut
        have HZK : ∀ wx : World, ansK.K wx nob zeroA (#[.int .i64 0, .int .u64 0, .bool false, .int .i64 0, .string ByteArray.empty, .slice none 0 0, .slice none 0 0, .slice none 0 0, .slice none 0 0, .slice none 0 0, .slice none 0 0] : Array Value).toList := fun wx => zero_K wx nob
        have HZK := Lib.hid HZK
        go_wp2
        refine wp_region_held_drew (S := fun wx => Chg nob wc wx) (by kernel_rfl) ((Chg.refl nob wc).drew) (fun hHeld => ?_)
        refine wpAnyH_take (i := 0) (v := ?_) pick0 (by kernel_rfl) (by kernel_rfl) (by kernel_rfl) (fun _ _ _ h => h) (Or.inl ⟨by rfl, ?_⟩) (by assumption) ?_
        rotate_left 1
        · (intro wx hSw; go_simp; try with_reducible rfl)
        try simp only [Act.put, List.setIfInBounds_toArray, List.set_cons_zero, List.set_cons_succ]
        refine wpAnyH_take (i := 1) (v := ?_) (pickS pick0) (by kernel_rfl) (by kernel_rfl) (by kernel_rfl) (fun _ _ _ h => h) (Or.inl ⟨by rfl, ?_⟩) (by assumption) ?_
        rotate_left 1
        · (intro wx hSw; go_simp; try with_reducible rfl)
        try simp only [Act.put, List.setIfInBounds_toArray, List.set_cons_zero, List.set_cons_succ]
        refine wpAnyH_take (i := 2) (v := ?_) (pickS (pickS pick0)) (by kernel_rfl) (by kernel_rfl) (by kernel_rfl) (fun _ _ _ h => h) (Or.inl ⟨by rfl, ?_⟩) (by assumption) ?_
        rotate_left 1
        · (intro wx hSw; go_simp; try with_reducible rfl)
        try simp only [Act.put, List.setIfInBounds_toArray, List.set_cons_zero, List.set_cons_succ]
        refine wpAnyH_take (i := 3) (v := ?_) (pickS (pickS (pickS pick0))) (by kernel_rfl) (by kernel_rfl) (by kernel_rfl) (fun _ _ _ h => h) (Or.inl ⟨by rfl, ?_⟩) (by assumption) ?_
        rotate_left 1
        · (intro wx hSw; go_simp; try with_reducible rfl)
        try simp only [Act.put, List.setIfInBounds_toArray, List.set_cons_zero, List.set_cons_succ]
        refine wpAnyH_take (i := 4) (v := ?_) (pickS (pickS (pickS (pickS pick0)))) (by kernel_rfl) (by kernel_rfl) (by kernel_rfl) (fun _ _ _ h => h) (Or.inl ⟨by rfl, ?_⟩) (by assumption) ?_
        rotate_left 1
        · (intro wx hSw; go_simp; try with_reducible rfl)
        try simp only [Act.put, List.setIfInBounds_toArray, List.set_cons_zero, List.set_cons_succ]
        refine wpAnyH_take (i := 5) (v := ?_) (pickS (pickS (pickS (pickS (pickS pick0))))) (by kernel_rfl) (by kernel_rfl) (by kernel_rfl) (fun _ _ _ h => h) (Or.inl ⟨by rfl, ?_⟩) (by assumption) ?_
        rotate_left 1
        · (intro wx hSw; obtain ⟨⟨z0, z1, z2, z3, z4, z5, z6, z7, z8, z9, z10⟩, zf⟩ := row11c (hSw.heap HB.out (not_nob _)); go_simp; try with_reducible rfl)
        try simp only [Act.put, List.setIfInBounds_toArray, List.set_cons_zero, List.set_cons_succ]
        refine wpAnyH_take (i := 6) (v := ?_) (pickS (pickS (pickS (pickS (pickS (pickS pick0)))))) (by kernel_rfl) (by kernel_rfl) (by kernel_rfl) (fun _ _ _ h => h) (Or.inl ⟨by rfl, ?_⟩) (by assumption) ?_
        rotate_left 1
        · (intro wx hSw; go_simp; try with_reducible rfl)
        try simp only [Act.put, List.setIfInBounds_toArray, List.set_cons_zero, List.set_cons_succ]
        refine wpAnyH_ready (rs := [7]) (by kernel_rfl) (by simp) ?_
        refine AllReadyH.cons (pickS (pickS (pickS (pickS (pickS (pickS (pickS pick0))))))) (fun K hK => ?_) AllReadyH.nil
        go_simp
        refine (r_sameA (HZK.out _) (HZK.out _)).mono ?_
        rintro e w7 ⟨rfl, hc7⟩
        have HC7 := Lib.hid (hHeld.thenNew hc7)
        clear hc7
        go_wp2_with fail
        refine hK.out _ _ (HC7.out) (fun hHeld => ?_)
        clear hK K
        try simp only [Act.put, List.setIfInBounds_toArray, List.set_cons_zero, List.set_cons_succ]
        refine wpAnyH_take (i := 8) (v := ?_) (pickS (pickS (pickS (pickS (pickS (pickS (pickS (pickS pick0)))))))) (by kernel_rfl) (by kernel_rfl) (by kernel_rfl) (fun _ _ _ h => h) (Or.inl ⟨by rfl, ?_⟩) (by assumption) ?_
        rotate_left 1
        · (intro wx hSw; go_simp; try with_reducible rfl)
        try simp only [Act.put, List.setIfInBounds_toArray, List.set_cons_zero, List.set_cons_succ]
        refine wpAnyH_take (i := 9) (v := ?_) (pickS (pickS (pickS (pickS (pickS (pickS (pickS (pickS (pickS pick0))))))))) (by kernel_rfl) (by kernel_rfl) (by kernel_rfl) (fun _ _ _ h => h) (Or.inl ⟨by rfl, ?_⟩) (by assumption) ?_
        rotate_left 1
        · (intro wx hSw; go_simp; try with_reducible rfl)
        try simp only [Act.put, List.setIfInBounds_toArray, List.set_cons_zero, List.set_cons_succ]
        refine wpAnyH_take (i := 10) (v := ?_) (pickS (pickS (pickS (pickS (pickS (pickS (pickS (pickS (pickS (pickS pick0)))))))))) (by kernel_rfl) (by kernel_rfl) (by kernel_rfl) (fun _ _ _ h => h) (Or.inl ⟨by rfl, ?_⟩) (by assumption) ?_
        rotate_left 1
        · (intro wx hSw; go_simp; try with_reducible rfl)
        try simp only [Act.put, List.setIfInBounds_toArray, List.set_cons_zero, List.set_cons_succ]
        refine wpAnyH_take (i := 11) (v := ?_) (pickS (pickS (pickS (pickS (pickS (pickS (pickS (pickS (pickS (pickS (pickS pick0))))))))))) (by kernel_rfl) (by kernel_rfl) (by kernel_rfl) (fun _ _ _ h => h) (Or.inl ⟨by rfl, ?_⟩) (by assumption) ?_
        rotate_left 1
        · (intro wx hSw; go_simp; try with_reducible rfl)
        try simp only [Act.put, List.setIfInBounds_toArray, List.set_cons_zero, List.set_cons_succ]
        refine wpAnyH_take (i := 12) (v := ?_) (pickS (pickS (pickS (pickS (pickS (pickS (pickS (pickS (pickS (pickS (pickS (pickS pick0)))))))))))) (by kernel_rfl) (by kernel_rfl) (by kernel_rfl) (fun _ _ _ h => h) (Or.inl ⟨by rfl, ?_⟩) (by assumption) ?_
        rotate_left 1
        · (intro wx hSw; go_simp; try with_reducible rfl)
        try simp only [Act.put, List.setIfInBounds_toArray, List.set_cons_zero, List.set_cons_succ]
        refine wpAnyH_take (i := 13) (v := ?_) (pickS (pickS (pickS (pickS (pickS (pickS (pickS (pickS (pickS (pickS (pickS (pickS (pickS pick0))))))))))))) (by kernel_rfl) (by kernel_rfl) (by kernel_rfl) (fun _ _ _ h => h) (Or.inl ⟨by rfl, ?_⟩) (by assumption) ?_
        rotate_left 1
        · (intro wx hSw; go_simp; try with_reducible rfl)
        try simp only [Act.put, List.setIfInBounds_toArray, List.set_cons_zero, List.set_cons_succ]
        refine wpAnyH_take (i := 14) (v := ?_) (pickS (pickS (pickS (pickS (pickS (pickS (pickS (pickS (pickS (pickS (pickS (pickS (pickS (pickS pick0)))))))))))))) (by kernel_rfl) (by kernel_rfl) (by kernel_rfl) (fun _ _ _ h => h) (Or.inl ⟨by rfl, ?_⟩) (by assumption) ?_
        rotate_left 1
        · (intro wx hSw; have p0 := (HS.out.chg.thenNew hSw).cell HP.out (not_nob _); go_simp; try with_reducible rfl)
        try simp only [Act.put, List.setIfInBounds_toArray, List.set_cons_zero, List.set_cons_succ]
        refine wpAnyH_take (i := 15) (v := ?_) (pickS (pickS (pickS (pickS (pickS (pickS (pickS (pickS (pickS (pickS (pickS (pickS (pickS (pickS (pickS pick0))))))))))))))) (by kernel_rfl) (by kernel_rfl) (by kernel_rfl) (fun _ _ _ h => h) (Or.inl ⟨by rfl, ?_⟩) (by assumption) ?_
        rotate_left 1
        · (intro wx hSw; go_simp; try with_reducible rfl)
        try simp only [Act.put, List.setIfInBounds_toArray, List.set_cons_zero, List.set_cons_succ]
        refine wpAnyH_take (i := 16) (v := ?_) (pickS (pickS (pickS (pickS (pickS (pickS (pickS (pickS (pickS (pickS (pickS (pickS (pickS (pickS (pickS (pickS pick0)))))))))))))))) (by kernel_rfl) (by kernel_rfl) (by kernel_rfl) (fun _ _ _ h => h) (Or.inl ⟨by rfl, ?_⟩) (by assumption) ?_
        rotate_left 1
        · (intro wx hSw; obtain ⟨⟨s0, s1, s2, s3, s4, s5, s6⟩, -⟩ := row18 ((HS.out.chg.thenNew hSw).heap HX.out (not_nob _)); go_simp; try with_reducible rfl)
        try simp only [Act.put, List.setIfInBounds_toArray, List.set_cons_zero, List.set_cons_succ]
        refine wpAnyH_ready (rs := [17]) (by kernel_rfl) (by simp) ?_
        refine AllReadyH.cons (pickS (pickS (pickS (pickS (pickS (pickS (pickS (pickS (pickS (pickS (pickS (pickS (pickS (pickS (pickS (pickS (pickS pick0))))))))))))))))) (fun K hK => ?_) AllReadyH.nil
        go_simp
        refine (nc_index (HN.out.new (HS.out.chg.thenNew hHeld)) q).mono ?_
        rintro e w8 ⟨rfl, hc8⟩
        have HC8 := Lib.hid (hHeld.thenNew hc8)
        clear hc8
        go_wp2_with fail
        refine hK.out _ _ (HC8.out) (fun hHeld => ?_)
        clear hK K
        try simp only [Act.put, List.setIfInBounds_toArray, List.set_cons_zero, List.set_cons_succ]
        refine wpAnyH_take (i := 18) (v := ?_) (pickS (pickS (pickS (pickS (pickS (pickS (pickS (pickS (pickS (pickS (pickS (pickS (pickS (pickS (pickS (pickS (pickS (pickS pick0)))))))))))))))))) (by kernel_rfl) (by kernel_rfl) (by kernel_rfl) (fun _ _ _ h => h) (Or.inl ⟨by rfl, ?_⟩) (by assumption) ?_
        rotate_left 1
        · (intro wx hSw; go_simp; try with_reducible rfl)
        try simp only [Act.put, List.setIfInBounds_toArray, List.set_cons_zero, List.set_cons_succ]
        refine wpAnyH_take (i := 19) (v := ?_) (pickS (pickS (pickS (pickS (pickS (pickS (pickS (pickS (pickS (pickS (pickS (pickS (pickS (pickS (pickS (pickS (pickS (pickS (pickS pick0))))))))))))))))))) (by kernel_rfl) (by kernel_rfl) (by kernel_rfl) (fun _ _ _ h => h) (Or.inl ⟨by rfl, ?_⟩) (by assumption) ?_
        rotate_left 1
        · (intro wx hSw; go_simp; try with_reducible rfl)
        try simp only [Act.put, List.setIfInBounds_toArray, List.set_cons_zero, List.set_cons_succ]
        refine wpAnyH_take (i := 20) (v := ?_) (pickS (pickS (pickS (pickS (pickS (pickS (pickS (pickS (pickS (pickS (pickS (pickS (pickS (pickS (pickS (pickS (pickS (pickS (pickS (pickS pick0)))))))))))))))))))) (by kernel_rfl) (by kernel_rfl) (by kernel_rfl) (fun _ _ _ h => h) (Or.inl ⟨by rfl, ?_⟩) (by assumption) ?_
        rotate_left 1
        · (intro wx hSw; go_simp; try with_reducible rfl)
        try simp only [Act.put, List.setIfInBounds_toArray, List.set_cons_zero, List.set_cons_succ]
        refine wpAnyH_take (i := 21) (v := ?_) (pickS (pickS (pickS (pickS (pickS (pickS (pickS (pickS (pickS (pickS (pickS (pickS (pickS (pickS (pickS (pickS (pickS (pickS (pickS (pickS (pickS pick0))))))))))))))))))))) (by kernel_rfl) (by kernel_rfl) (by kernel_rfl) (fun _ _ _ h => h) (Or.inl ⟨by rfl, ?_⟩) (by assumption) ?_
        rotate_left 1
        · (intro wx hSw; go_simp; try with_reducible rfl)
        try simp only [Act.put, List.setIfInBounds_toArray, List.set_cons_zero, List.set_cons_succ]
        refine wpAnyH_take (i := 22) (v := ?_) (pickS (pickS (pickS (pickS (pickS (pickS (pickS (pickS (pickS (pickS (pickS (pickS (pickS (pickS (pickS (pickS (pickS (pickS (pickS (pickS (pickS (pickS pick0)))))))))))))))))))))) (by kernel_rfl) (by kernel_rfl) (by kernel_rfl) (fun _ _ _ h => h) (Or.inl ⟨by rfl, ?_⟩) (by assumption) ?_
        rotate_left 1
        · (intro wx hSw; go_simp; try with_reducible rfl)
        try simp only [Act.put, List.setIfInBounds_toArray, List.set_cons_zero, List.set_cons_succ]
        refine wpAnyH_take (i := 23) (v := ?_) (pickS (pickS (pickS (pickS (pickS (pickS (pickS (pickS (pickS (pickS (pickS (pickS (pickS (pickS (pickS (pickS (pickS (pickS (pickS (pickS (pickS (pickS (pickS pick0))))))))))))))))))))))) (by kernel_rfl) (by kernel_rfl) (by kernel_rfl) (fun _ _ _ h => h) (Or.inl ⟨by rfl, ?_⟩) (by assumption) ?_
        rotate_left 1
        · (intro wx hSw; go_simp; try with_reducible rfl)
        try simp only [Act.put, List.setIfInBounds_toArray, List.set_cons_zero, List.set_cons_succ]
        refine wpAnyH_take (i := 24) (v := ?_) (pickS (pickS (pickS (pickS (pickS (pickS (pickS (pickS (pickS (pickS (pickS (pickS (pickS (pickS (pickS (pickS (pickS (pickS (pickS (pickS (pickS (pickS (pickS (pickS pick0)))))))))))))))))))))))) (by kernel_rfl) (by kernel_rfl) (by kernel_rfl) (fun _ _ _ h => h) (Or.inl ⟨by rfl, ?_⟩) (by assumption) ?_
        rotate_left 1
        · (intro wx hSw; have p0 := (HS.out.chg.thenNew hSw).cell HP.out (not_nob _); go_simp; try with_reducible rfl)
        try simp only [Act.put, List.setIfInBounds_toArray, List.set_cons_zero, List.set_cons_succ]
        refine wpAnyH_ready (rs := [25]) (by kernel_rfl) (by simp) ?_
        refine AllReadyH.cons (pickS (pickS (pickS (pickS (pickS (pickS (pickS (pickS (pickS (pickS (pickS (pickS (pickS (pickS (pickS (pickS (pickS (pickS (pickS (pickS (pickS (pickS (pickS (pickS (pickS pick0))))))))))))))))))))))))) (fun K hK => ?_) AllReadyH.nil
        go_simp
        refine (nc_list (HN.out.new (HS.out.chg.thenNew hHeld))).mono ?_
        rintro e w9 ⟨rfl, hww⟩
        subst hww
        go_wp2_with fail
        refine hK.out _ _ (hHeld) (fun hHeld => ?_)
        clear hK K
        try simp only [Act.put, List.setIfInBounds_toArray, List.set_cons_zero, List.set_cons_succ]
        refine wpAnyH_take (i := 26) (v := ?_) (pickS (pickS (pickS (pickS (pickS (pickS (pickS (pickS (pickS (pickS (pickS (pickS (pickS (pickS (pickS (pickS (pickS (pickS (pickS (pickS (pickS (pickS (pickS (pickS (pickS (pickS pick0)))))))))))))))))))))))))) (by kernel_rfl) (by kernel_rfl) (by kernel_rfl) (fun _ _ _ h => h) (Or.inl ⟨by rfl, ?_⟩) (by assumption) ?_
        rotate_left 1
        · (intro wx hSw; go_simp; try with_reducible rfl)
        try simp only [Act.put, List.setIfInBounds_toArray, List.set_cons_zero, List.set_cons_succ]
        refine wpAnyH_take (i := 27) (v := ?_) (pickS (pickS (pickS (pickS (pickS (pickS (pickS (pickS (pickS (pickS (pickS (pickS (pickS (pickS (pickS (pickS (pickS (pickS (pickS (pickS (pickS (pickS (pickS (pickS (pickS (pickS (pickS pick0))))))))))))))))))))))))))) (by kernel_rfl) (by kernel_rfl) (by kernel_rfl) (fun _ _ _ h => h) (Or.inl ⟨by rfl, ?_⟩) (by assumption) ?_
        rotate_left 1
        · (intro wx hSw; go_simp; try with_reducible rfl)
        try simp only [Act.put, List.setIfInBounds_toArray, List.set_cons_zero, List.set_cons_succ]
        refine wpAnyH_take (i := 28) (v := ?_) (pickS (pickS (pickS (pickS (pickS (pickS (pickS (pickS (pickS (pickS (pickS (pickS (pickS (pickS (pickS (pickS (pickS (pickS (pickS (pickS (pickS (pickS (pickS (pickS (pickS (pickS (pickS (pickS pick0)))))))))))))))))))))))))))) (by kernel_rfl) (by kernel_rfl) (by kernel_rfl) (fun _ _ _ h => h) (Or.inl ⟨by rfl, ?_⟩) (by assumption) ?_
        rotate_left 1
        · (intro wx hSw; go_simp; try with_reducible rfl)
        try simp only [Act.put, List.setIfInBounds_toArray, List.set_cons_zero, List.set_cons_succ]
        refine wpAnyH_done (by kernel_rfl) ?_ _
        go_wp2
        go_roundw
        case rel => exact ⟨j + 1, by omega, by go_num, HS.out.chg.thenNew HC8.out⟩
        case measure => simp [intOf]; omega
    · obtain rfl : j = 2 := by omega
      go_wp2_with fail
      refine (cache_works wr).mono ?_
      rintro e w9 ⟨rfl, hc9⟩
      have HC9 := Lib.hid (HCV.out.thenNew (HR.out.thenNew hc9))
      clear hc9
      go_wp2
      go_ret
      exact ⟨rfl, HC9.out⟩
end Go.Proofs.Ytkclceghhebfaaa
