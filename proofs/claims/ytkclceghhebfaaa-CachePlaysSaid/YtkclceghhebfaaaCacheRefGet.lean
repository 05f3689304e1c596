/- What a call of the reference's Get leaves. -/
import Derived.Test.YtkclceghhebfaaaCacheRef
namespace Go.Proofs.Ytkclceghhebfaaa
open Go.RowKit
set_option linter.unusedVariables false
set_option linter.unusedSimpArgs false
theorem ans_lits {w : World} {ok : Nat → Prop} {x : Ans} {cs : Array Value} (h : ansK.K w ok x cs.toList) : ∃ S nS sd K nK kd N nN nd I nI id E nE ed T nT td, cs = #[.int .i64 x.1, .int .u64 x.2.1, .bool x.2.2.1.1, .int .i64 x.2.2.1.2.1, .string x.2.2.1.2.2.1, .slice S nS sd, .slice K nK kd, .slice N nN nd, .slice I nI id, .slice E nE ed, .slice T nT td] := by
  obtain ⟨S, sd, K, kd, N, nd, I, id, E, ed, T, td, hcs, -⟩ := (ans_cells h).ex
  exact ⟨S, _, sd, K, _, kd, N, _, nd, I, _, id, E, _, ed, T, _, td, Array.toList_inj.1 (by rw [hcs])⟩
/-- An element of the row of answers, cell by cell. -/
theorem raw_at {w : World} {ok : Nat → Prop} {A : Option Addr} {rs : List (Array Value)} (h : rawK.C w ok A rs) {j : Nat} {c : Array Value} (hx : rs[j]? = some c) :
    ∃ b o, A = some ⟨b, o, none⟩ ∧ ok b ∧ ∀ i u, c[i]? = some u → w.cell? ⟨b, o + j * 11 + i, none⟩ = some u := by
  obtain ⟨b, o, cs, e, hb, hk, hc⟩ := Kd.C_at' h hx
  have hk' := hk.1
  subst hk'
  exact ⟨b, o, e, hb, fun i u hu => hc i u (by rw [Array.getElem?_toList]; exact hu)⟩
set_option maxRecDepth 100000 in
set_option maxHeartbeats 4000000 in
theorem rf_get {w : World} {rown okl : Nat → Prop} {g : Nat} {m : QMap} {l : Known} (h : RSt w rown okl g m l) (hl : m.length ≤ 1000) (hokl : ∀ b, okl b → b < w.heap.size) (q : Qry) :
    Calls Try.prog 15 #[.pointer (some ⟨g, 0, none⟩), .agg (qryV q)] w fun e w' => ∃ cs, e = .returned (.tuple #[.agg cs, .bool (seekA l q).isSome]) ∧ ansK.K w' okl ((seekA l q).getD zeroA) cs.toList ∧ Chg nob w w' := by
  have hb0 : ((w.alloc (.cells (qryV q) 34)).alloc (.cells #[.int .i64 0, .int .u64 0, .bool false, .int .i64 0, .string ⟨#[]⟩, .slice none 0 0, .slice none 0 0, .slice none 0 0, .slice none 0 0, .slice none 0 0, .slice none 0 0] 32)).heap[w.heap.size]? = some (.cells (qryV q) 34 (0, 0)) := by
    rw [Below.heap_alloc _ _ _ (by simp)]
    exact heap_alloc_new w _
  have hz0 := heap_alloc_new (w.alloc (.cells (qryV q) 34)) (.cells #[.int .i64 0, .int .u64 0, .bool false, .int .i64 0, .string ⟨#[]⟩, .slice none 0 0, .slice none 0 0, .slice none 0 0, .slice none 0 0, .slice none 0 0, .slice none 0 0] 32)
  rw [World.size_alloc] at hz0
  have hc0 : Chg nob w ((w.alloc (.cells (qryV q) 34)).alloc (.cells #[.int .i64 0, .int .u64 0, .bool false, .int .i64 0, .string ⟨#[]⟩, .slice none 0 0, .slice none 0 0, .slice none 0 0, .slice none 0 0, .slice none 0 0, .slice none 0 0] 32)) := ((Chg.refl nob w).alloc _).alloc _
  obtain ⟨u0, hu0⟩ : ∃ u : World, (w.alloc (.cells (qryV q) 34)).alloc (.cells #[.int .i64 0, .int .u64 0, .bool false, .int .i64 0, .string ⟨#[]⟩, .slice none 0 0, .slice none 0 0, .slice none 0 0, .slice none 0 0, .slice none 0 0, .slice none 0 0] 32) = u := ⟨_, rfl⟩
  rw [hu0] at hb0 hz0 hc0
  obtain ⟨gg, hg⟩ : ∃ gg, w.heap.size = gg := ⟨_, rfl⟩
  have HG := Lib.hid hg
  have HOK := Lib.hid hokl
  rw [hg] at hb0 hz0
  have HB0 := Lib.hid hb0
  have HZ0 := Lib.hid hz0
  have HC0 := Lib.hid hc0
  have HST := Lib.hid (h.new hc0)
  obtain ⟨s0, s1, s2, s3, s4, s5⟩ := row6 hb0
  clear h hb0 hz0 hc0 hokl
  go_enter Try.func15, Try.ntmps15
  go_wp2_with fail
  have hu0' := hu0
  unfold qryV at hu0'
  first | rw [hu0] | rw [hu0'] | skip
  refine (rf_find HST.out.row hl q).mono ?_
  rintro e w1 ⟨hp, hc1⟩
  have HC1 := Lib.hid hc1
  have HST1 := Lib.hid (HST.out.new hc1)
  have hz1 := hc1.heap HZ0.out (not_nob _)
  have HZ1 := Lib.hid hz1
  clear hc1 s0 s1 s2 s3 s4 s5
  rcases hp with ⟨j, c, rfl, hp⟩ | ⟨rfl, hp⟩
  · obtain ⟨a, ha, hka, hm⟩ := rf_pair HST1.out.ents hp
    obtain ⟨S, nS, sd, K, nK, kd, N, nN, nd, I, nI, id, E, nE, ed, T, nT, td, hlit⟩ := ans_lits hka
    subst hlit
    obtain ⟨⟨OQ, cq, OA, ca, r1, r2, r3, -, -⟩, -⟩ := HST1.out.row
    have hj : j < m.length := (List.getElem?_eq_some_iff.1 hm).1
    have hms : (m.map Prod.snd)[j]? = some #[.int .i64 a.1, .int .u64 a.2.1, .bool a.2.2.1.1, .int .i64 a.2.2.1.2.1, .string a.2.2.1.2.2.1, .slice S nS sd, .slice K nK kd, .slice N nN nd, .slice I nI id, .slice E nE ed, .slice T nT td] := by rw [List.getElem?_map, hm]; rfl
    obtain ⟨rb, ro, rfl, _, hcell⟩ := raw_at (Kd.R_read r3).1 hms
    obtain ⟨n, hn⟩ : ∃ n, m.length = n := ⟨_, rfl⟩
    rw [List.length_map, List.length_map, hn] at r1
    rw [hn] at hj hl
    have e0 : w1.cell? ⟨rb, ro + j * 11, none⟩ = some (.int .i64 a.1) := hcell 0 _ rfl
    have e1 : w1.cell? ⟨rb, ro + j * 11 + 1, none⟩ = some (.int .u64 a.2.1) := hcell 1 _ rfl
    have e2 : w1.cell? ⟨rb, ro + j * 11 + 2, none⟩ = some (.bool a.2.2.1.1) := hcell 2 _ rfl
    have e3 : w1.cell? ⟨rb, ro + j * 11 + 3, none⟩ = some (.int .i64 a.2.2.1.2.1) := hcell 3 _ rfl
    have e4 : w1.cell? ⟨rb, ro + j * 11 + 4, none⟩ = some (.string a.2.2.1.2.2.1) := hcell 4 _ rfl
    have e5 : w1.cell? ⟨rb, ro + j * 11 + 5, none⟩ = some (.slice S nS sd) := hcell 5 _ rfl
    have e6 : w1.cell? ⟨rb, ro + j * 11 + 6, none⟩ = some (.slice K nK kd) := hcell 6 _ rfl
    have e7 : w1.cell? ⟨rb, ro + j * 11 + 7, none⟩ = some (.slice N nN nd) := hcell 7 _ rfl
    have e8 : w1.cell? ⟨rb, ro + j * 11 + 8, none⟩ = some (.slice I nI id) := hcell 8 _ rfl
    have e9 : w1.cell? ⟨rb, ro + j * 11 + 9, none⟩ = some (.slice E nE ed) := hcell 9 _ rfl
    have e10 : w1.cell? ⟨rb, ro + j * 11 + 10, none⟩ = some (.slice T nT td) := hcell 10 _ rfl
    obtain ⟨d0, d1, -⟩ := row2 r1
    obtain ⟨⟨z0, z1, z2, z3, z4, z5, z6, z7, z8, z9, z10⟩, zf⟩ := row11c hz1
    have y0 := zf 0
    have y1 := zf 1
    have y2 := zf 2
    have y3 := zf 3
    have y4 := zf 4
    have y5 := zf 5
    have y6 := zf 6
    have y7 := zf 7
    have y8 := zf 8
    have y9 := zf 9
    have y10 := zf 10
    have b1 : ¬ (j : Int) < 0 := by omega
    have b2 : (0 : Int) ≤ (j : Int) := by omega
    have b3 : (j : Int) < (n : Int) := by omega
    obtain ⟨hbf, hcf⟩ := set11 hz1 (.int .i64 a.1) (.int .u64 a.2.1) (.bool a.2.2.1.1) (.int .i64 a.2.2.1.2.1) (.string a.2.2.1.2.2.1) (.slice S nS sd) (.slice K nK kd) (.slice N nN nd) (.slice I nI id) (.slice E nE ed) (.slice T nT td)
    obtain ⟨wf, hwf⟩ : ∃ W, (((((((((((w1.setCell ⟨gg + 1, 0, none⟩ (.int .i64 a.1)).setCell ⟨gg + 1, 1, none⟩ (.int .u64 a.2.1)).setCell ⟨gg + 1, 2, none⟩ (.bool a.2.2.1.1)).setCell ⟨gg + 1, 3, none⟩ (.int .i64 a.2.2.1.2.1)).setCell ⟨gg + 1, 4, none⟩ (.string a.2.2.1.2.2.1)).setCell ⟨gg + 1, 5, none⟩ (.slice S nS sd)).setCell ⟨gg + 1, 6, none⟩ (.slice K nK kd)).setCell ⟨gg + 1, 7, none⟩ (.slice N nN nd)).setCell ⟨gg + 1, 8, none⟩ (.slice I nI id)).setCell ⟨gg + 1, 9, none⟩ (.slice E nE ed)).setCell ⟨gg + 1, 10, none⟩ (.slice T nT td)) = W := ⟨_, rfl⟩
    rw [hwf] at hbf hcf
    have HKA := Lib.hid hka
    have HHA := Lib.hid ha
    have HBF := Lib.hid hbf
    have HCF := Lib.hid hcf
    have HG1 : Hid (gg + 1 < w1.heap.size) := heap_lt HZ1.out
    clear hcell hms hm hka ha hp r1 r2 r3 hz1 zf hn hbf hcf
    go_wp2
    first | rw [hwf] | skip
    try simp only [Exit.inBlock, Exit.then]
    refine bodyPost_ret (results_cell_tmp_row rfl _ _ (gg + 1) _ _ (0, 0) _ rfl HBF.out Try.underlying32 rfl (by kernel_rfl)) rfl ?_
    rw [HHA.out]
    refine ⟨_, rfl, ?_, ((HC0.out.thenNew HC1.out).trans HCF.out (fun b hb => .inr (by have h1 : b = gg + 1 := hb; have := HG.out; omega)))⟩
    exact Kd.chg HKA.out HCF.out (fun b hb e => by have h1 : b = gg + 1 := e; have h2 := HOK.out b hb; have h3 := HG.out; omega)
  · have hs := rf_nopair HST1.out.ents hp
    have HS := Lib.hid hs
    obtain ⟨⟨z0, z1, z2, z3, z4, z5, z6, z7, z8, z9, z10⟩, zf⟩ := row11c hz1
    have y0 := zf 0
    have y1 := zf 1
    have y2 := zf 2
    have y3 := zf 3
    have y4 := zf 4
    have y5 := zf 5
    have y6 := zf 6
    have y7 := zf 7
    have y8 := zf 8
    have y9 := zf 9
    have y10 := zf 10
    obtain ⟨hbf, hcf⟩ := set11 hz1 (.int .i64 0) (.int .u64 0) (.bool false) (.int .i64 0) (.string ⟨#[]⟩) (.slice none 0 0) (.slice none 0 0) (.slice none 0 0) (.slice none 0 0) (.slice none 0 0) (.slice none 0 0)
    have HBF := Lib.hid hbf
    have HCF := Lib.hid hcf
    clear hp hs hz1 zf hbf hcf
    go_wp2
    try simp only [Exit.inBlock, Exit.then]
    refine bodyPost_ret (results_cell_tmp_row rfl _ _ (gg + 1) _ _ (0, 0) _ rfl HBF.out Try.underlying32 rfl (by kernel_rfl)) rfl ?_
    rw [HS.out]
    exact ⟨_, rfl, zero_K _ _, ((HC0.out.thenNew HC1.out).trans HCF.out (fun b hb => .inr (by have h1 : b = gg + 1 := hb; have := HG.out; omega)))⟩
#print axioms rf_get
end Go.Proofs.Ytkclceghhebfaaa
