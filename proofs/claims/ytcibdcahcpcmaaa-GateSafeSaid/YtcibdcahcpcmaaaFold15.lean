import Derived.Test.YtcibdcahcpcmaaaFold14
/- What a call of Get, Index, List, Clear leaves. -/
namespace Go.Proofs.Ytcibdcahcpcmaaa
open Go.RowKit
set_option linter.unusedVariables false
set_option linter.unusedSimpArgs false
def zeroA : Ans := (0, 0, (false, 0, ByteArray.empty, [], []), [], [], [], [])
theorem zero_K (w : World) (ok : Nat → Prop) : ansK.K w ok zeroA ansZ.toList :=
  ans_mk (x := zeroA) (S := none) (K := none) (N := none) (I := none) (E := none) (T := none) (sd := 0) (kd := 0) (nd := 0) (id := 0) (ed := 0) (td := 0)
    ⟨Kd.C_nil _ _ _ _, Nat.le_refl _, by decide⟩ ⟨Kd.C_nil _ _ _ _, Nat.le_refl _, by decide⟩ ⟨Kd.C_nil _ _ _ _, Nat.le_refl _, by decide⟩ ⟨Kd.C_nil _ _ _ _, Nat.le_refl _, by decide⟩ ⟨Kd.C_nil _ _ _ _, Nat.le_refl _, by decide⟩ ⟨Kd.C_nil _ _ _ _, Nat.le_refl _, by decide⟩
theorem CopiedAs.back {w w1 w' : World} {ok : Nat → Prop} {x : Ans} {cs : Array Value} (h : CopiedAs w1 w' ok x cs) (hs : w.heap.size ≤ w1.heap.size) : CopiedAs w w' ok x cs := by
  obtain ⟨hK, S, sd, K, kd, N, nd, I, id, E, ed, T, td, e, hN, hI, hE⟩ := h
  refine ⟨ansK.mono (fun b hb => ?_) hK, S, sd, K, kd, N, nd, I, id, E, ed, T, td, e, ?_, ?_, ?_⟩
  · rcases hb with hb | hb
    · by_cases hlt : b < w.heap.size
      · exact .inl ⟨hb.1, hlt⟩
      · exact .inr (by omega)
    · exact .inr (by omega)
  · intro hm; obtain ⟨g, e, hg, hc⟩ := hN hm; exact ⟨g, e, by omega, hc⟩
  · intro hm; obtain ⟨g, e, hg, hc⟩ := hI hm; exact ⟨g, e, by omega, hc⟩
  · intro hm; obtain ⟨g, e, hg, hc⟩ := hE hm; exact ⟨g, e, by omega, hc⟩
theorem Wr.chg {w w' : World} {base m : Nat} {A : Option Addr} {S : Nat → Prop} (h : Wr w base A m) (hc : Chg S w w') (hs : ∀ b, base ≤ b → ¬ S b) : Wr w' base A m := by
  intro hm
  obtain ⟨g, e, hg, h1⟩ := h hm
  refine ⟨g, e, hg, fun j hj => ?_⟩
  obtain ⟨⟨v, hv⟩, hf⟩ := h1 j hj
  refine ⟨⟨v, hc.cell hv (hs g hg)⟩, ?_⟩
  have hb := hc.block g (heap_lt_of_cell hv) (hs g hg)
  unfold World.frozen? at hf ⊢
  dsimp only at hf ⊢
  rw [hb]
  exact hf
theorem CopiedAs.chg {w1 w2 w' : World} {ok S : Nat → Prop} {x : Ans} {cs : Array Value} (h : CopiedAs w1 w2 ok x cs) (hc : Chg S w2 w') (h1 : ∀ b, ok b → b < w1.heap.size → ¬ S b) (h2 : ∀ b, w1.heap.size ≤ b → ¬ S b) : CopiedAs w1 w' ok x cs := by
  obtain ⟨hK, S, sd, K, kd, N, nd, I, id, E, ed, T, td, e, hN, hI, hE⟩ := h
  exact ⟨ansK.chg hK hc (fun b hb => hb.elim (fun k => h1 b k.1 k.2) (h2 b)), S, sd, K, kd, N, nd, I, id, E, ed, T, td, e, hN.chg hc h2, hI.chg hc h2, hE.chg hc h2⟩
theorem CopiedAs.imp {w w' : World} {ok ok' : Nat → Prop} {x : Ans} {cs : Array Value} (h : CopiedAs w w' ok x cs) (hk : ∀ b, ok b → ok' b) : CopiedAs w w' ok' x cs :=
  ⟨ansK.mono (fun b hb => hb.imp (fun k => ⟨hk b k.1, k.2⟩) (fun k => k)) h.K, h.wr⟩
theorem results_cell_tmp_row {P : Program} {fn : Func} {p u : Tmp} {ty : TypeId} (h : fn.results = #[.cell p ty, .tmp u]) (tmps : Array Value) (w : World) (g : Nat) (t : TypeId) (cs : Array Value) (fr : Nat × Nat) (d : TypeDesc)
    (hp : tmps.getD p undef = .pointer (some ⟨g, 0, none⟩)) (hg : w.heap[g]? = some (.cells cs t fr)) (hu : P.underlying ty = some d) (hd : (match d with | .struct _ | .array _ _ => true | _ => false) = true) (hi : (P.info? ty).map (·.size) = some cs.size) :
    (results fn tmps).run P w = .ok (.tuple #[.agg cs, tmps.getD u undef]) w := by
  rw [results_cell_tmp h, hp]
  simp [asAddr, run_loadVar_row w g t ty cs fr d hg hu hd hi]
theorem row6 {w : World} {g t : Nat} {a0 a1 a2 a3 a4 a5 : Value} (h : w.heap[g]? = some (.cells #[a0, a1, a2, a3, a4, a5] t (0, 0))) :
    w.cell? ⟨g, 0, none⟩ = some a0 ∧ w.cell? ⟨g, 1, none⟩ = some a1 ∧ w.cell? ⟨g, 2, none⟩ = some a2 ∧ w.cell? ⟨g, 3, none⟩ = some a3 ∧ w.cell? ⟨g, 4, none⟩ = some a4 ∧ w.cell? ⟨g, 5, none⟩ = some a5 :=
  ⟨by rw [cell_of_row _ _ _ _ _ _ h]; rfl, by rw [cell_of_row _ _ _ _ _ _ h]; rfl, by rw [cell_of_row _ _ _ _ _ _ h]; rfl, by rw [cell_of_row _ _ _ _ _ _ h]; rfl, by rw [cell_of_row _ _ _ _ _ _ h]; rfl, by rw [cell_of_row _ _ _ _ _ _ h]; rfl⟩
theorem get_pair {w : World} {ok : Nat → Prop} {m : QMap} {l : Known} (h : Ents w ok m l) (q : Qry) : ansK.K w ok ((seekA l q).getD zeroA) ((seekQ m q).getD ansZ).toList ∧ (seekQ m q).isSome = (seekA l q).isSome := by
  rcases h.seek (q := q) with ⟨h1, h2⟩ | ⟨c, a, h1, h2, h3⟩
  · rw [h1, h2]
    exact ⟨zero_K w ok, rfl⟩
  · rw [h1, h2]
    exact ⟨h3, rfl⟩
set_option maxHeartbeats 2000000 in
theorem ca_get {w : World} {own av : Nat → Prop} {c : Nat} {l : Known} (h : CSt w own av c l) (q : Qry) :
    Calls Try.prog 20 #[.pointer (some ⟨c, 0, none⟩), .agg (qryV q)] w fun e w' =>
      ∃ cs, e = .returned (.tuple #[.agg cs, .bool (seekA l q).isSome]) ∧ CopiedAs w w' (fun b => ¬ (own b ∨ av b)) ((seekA l q).getD zeroA) cs ∧ Chg nob w w' := by
  have HST := Lib.hid h
  have hb0 : ((w.alloc (.cells (qryV q) 61)).alloc (.cells #[.int .i64 0, .int .u64 0, .bool false, .int .i64 0, .string ⟨#[]⟩, .slice none 0 0, .slice none 0 0, .slice none 0 0, .slice none 0 0, .slice none 0 0, .slice none 0 0] 57)).heap[w.heap.size]? = some (.cells (qryV q) 61 (0, 0)) := by
    rw [Below.heap_alloc _ _ _ (by simp)]
    exact heap_alloc_new w _
  have hz0 := heap_alloc_new (w.alloc (.cells (qryV q) 61)) (.cells #[.int .i64 0, .int .u64 0, .bool false, .int .i64 0, .string ⟨#[]⟩, .slice none 0 0, .slice none 0 0, .slice none 0 0, .slice none 0 0, .slice none 0 0, .slice none 0 0] 57)
  rw [World.size_alloc] at hz0
  have hc0 : Chg nob w ((w.alloc (.cells (qryV q) 61)).alloc (.cells #[.int .i64 0, .int .u64 0, .bool false, .int .i64 0, .string ⟨#[]⟩, .slice none 0 0, .slice none 0 0, .slice none 0 0, .slice none 0 0, .slice none 0 0, .slice none 0 0] 57)) := ((Chg.refl nob w).alloc _).alloc _
  obtain ⟨u0, hu0⟩ : ∃ u : World, (w.alloc (.cells (qryV q) 61)).alloc (.cells #[.int .i64 0, .int .u64 0, .bool false, .int .i64 0, .string ⟨#[]⟩, .slice none 0 0, .slice none 0 0, .slice none 0 0, .slice none 0 0, .slice none 0 0, .slice none 0 0] 57) = u := ⟨_, rfl⟩
  rw [hu0] at hb0 hz0 hc0
  obtain ⟨g, hg⟩ : ∃ g, w.heap.size = g := ⟨_, rfl⟩
  have HG := Lib.hid hg
  rw [hg] at hb0 hz0
  have HB0 := Lib.hid hb0
  have HZ0 := Lib.hid hz0
  have HC0 := Lib.hid hc0
  have HST0 := Lib.hid (h.new hc0)
  clear h hb0 hz0 hc0
  go_enter Try.func20, Try.ntmps20
  go_wp2_with fail
  have hu0' := hu0
  unfold qryV at hu0'
  first | rw [hu0] | rw [hu0'] | skip
  refine (ca_none HST0.out).mono ?_
  rintro e w' ⟨rfl, hww⟩
  subst hww
  obtain ⟨r, O, oc, m, h1, ho1, ho2, hcr, hM, hE, -⟩ := HST.out.ex
  replace h1 := HC0.out.heap h1 (not_nob _)
  replace hM := hM.keep HC0.out (not_nob _)
  replace hE := hE.imp (w' := w') (ok' := fun b => ¬ (own b ∨ av b) ∧ b < w.heap.size) (fun a cs hk => Kd.step (ansK.bound hk) (fun b hb _ => HC0.out.block b hb.2 (not_nob _)))
  obtain ⟨c0, c1, _⟩ := row2 h1
  obtain ⟨s0, s1, s2, s3, s4, s5⟩ := row6 HB0.out
  obtain ⟨hkk, his⟩ := get_pair hE q
  obtain ⟨x, hx⟩ : ∃ x, (seekA l q).getD zeroA = x := ⟨_, rfl⟩
  obtain ⟨cs, hcs⟩ : ∃ cs, (seekQ m q).getD ansZ = cs := ⟨_, rfl⟩
  obtain ⟨bo, hbo⟩ : ∃ bo, (seekA l q).isSome = bo := ⟨_, rfl⟩
  have hL : ∀ wx, Chg nob w' wx → (Instr.lookup 80 (.map (some r)) (.agg (qryV q)) true).run Try.prog wx = .ok (.tuple #[.agg cs, .bool bo]) wx := fun wx hc => by
    rw [run_lookQ (hM.keep hc (not_nob _)) q, hcs, his, hbo]
  rw [hx, hcs] at hkk
  have HX := Lib.hid hx
  have HBO := Lib.hid hbo
  obtain ⟨S, sd, K, kd, N, nd, I, id, E, ed, T, td, hlit, -⟩ := (ans_cells hkk).ex
  obtain ⟨nS, hnS⟩ : ∃ n, x.2.2.1.2.2.2.1.length = n := ⟨_, rfl⟩
  obtain ⟨nK, hnK⟩ : ∃ n, x.2.2.1.2.2.2.2.length = n := ⟨_, rfl⟩
  obtain ⟨nN, hnN⟩ : ∃ n, x.2.2.2.1.length = n := ⟨_, rfl⟩
  obtain ⟨nI, hnI⟩ : ∃ n, x.2.2.2.2.1.length = n := ⟨_, rfl⟩
  obtain ⟨nE, hnE⟩ : ∃ n, x.2.2.2.2.2.1.length = n := ⟨_, rfl⟩
  obtain ⟨nT, hnT⟩ : ∃ n, x.2.2.2.2.2.2.length = n := ⟨_, rfl⟩
  rw [hnS, hnK, hnN, hnI, hnE, hnT] at hlit
  have hcs2 : cs = #[.int .i64 x.1, .int .u64 x.2.1, .bool x.2.2.1.1, .int .i64 x.2.2.1.2.1, .string x.2.2.1.2.2.1, .slice S nS sd, .slice K nK kd, .slice N nN nd, .slice I nI id, .slice E nE ed, .slice T nT td] := Array.toList_inj.1 (by rw [hlit])
  clear hlit hnS hnK hnN hnI hnE hnT hcs his hx hbo
  subst hcs2
  have HKK := Lib.hid hkk
  have HL := Lib.hid hL
  have HC0C := Lib.hid c0
  have HS := Lib.hid (And.intro s0 (And.intro s1 (And.intro s2 (And.intro s3 (And.intro s4 s5)))))
  clear h1 hM hE hkk hL s0 s1 s2 s3 s4 s5 c0 c1
  have HZL : Hid (g + 1 < w'.heap.size) := heap_lt HZ0.out
  have HCN : Hid (Chg nob w' ((w'.alloc (.cells #[.int .i64 x.1, .int .u64 x.2.1, .bool x.2.2.1.1, .int .i64 x.2.2.1.2.1, .string x.2.2.1.2.2.1, .slice S nS sd, .slice K nK kd, .slice N nN nd, .slice I nI id, .slice E nE ed, .slice T nT td] 57)).drew)) := ((Chg.refl nob w').alloc _).drew
  go_wp2
  refine wp_region_held_drew (S := fun wx => Chg nob w' wx) (by kernel_rfl) ((Chg.refl nob w').drew) (fun hHeld => ?_)
  refine wpAnyH_take (i := 0) (v := ?_) pick0 (by kernel_rfl) (by kernel_rfl) (by kernel_rfl) (fun _ _ _ h => h) (Or.inl ⟨by rfl, ?_⟩) (by assumption) ?_
  rotate_left 1
  · (intro wx hSw; go_simp; try with_reducible rfl)
  try simp only [Act.put, List.setIfInBounds_toArray, List.set_cons_zero, List.set_cons_succ]
  refine wpAnyH_take (i := 1) (v := ?_) (pickS pick0) (by kernel_rfl) (by kernel_rfl) (by kernel_rfl) (fun _ _ _ h => h) (Or.inl ⟨by rfl, ?_⟩) (by assumption) ?_
  rotate_left 1
  · (intro wx hSw; go_simp; try with_reducible rfl)
  try simp only [Act.put, List.setIfInBounds_toArray, List.set_cons_zero, List.set_cons_succ]
  refine wpAnyH_take (i := 2) (v := ?_) (pickS (pickS pick0)) (by kernel_rfl) (by kernel_rfl) (by kernel_rfl) (fun _ _ _ h => h) (Or.inl ⟨by rfl, ?_⟩) (by assumption) ?_
  rotate_left 1
  · (intro wx hSw; go_simp; try with_reducible rfl)
  try simp only [Act.put, List.setIfInBounds_toArray, List.set_cons_zero, List.set_cons_succ]
  refine wpAnyH_take (i := 3) (v := ?_) (pickS (pickS (pickS pick0))) (by kernel_rfl) (by kernel_rfl) (by kernel_rfl) (fun _ _ _ h => h) (Or.inl ⟨by rfl, ?_⟩) (by assumption) ?_
  rotate_left 1
  · (intro wx hSw; have c0 := hSw.cell HC0C.out (not_nob _); go_simp; try with_reducible rfl)
  try simp only [Act.put, List.setIfInBounds_toArray, List.set_cons_zero, List.set_cons_succ]
  refine wpAnyH_take (i := 4) (v := ?_) (pickS (pickS (pickS (pickS pick0)))) (by kernel_rfl) (by kernel_rfl) (by kernel_rfl) (fun _ _ _ h => h) (Or.inl ⟨by rfl, ?_⟩) (by assumption) ?_
  rotate_left 1
  · (intro wx hSw; obtain ⟨s0, s1, s2, s3, s4, s5⟩ := HS.out; have s0 := hSw.cell s0 (not_nob _); have s1 := hSw.cell s1 (not_nob _); have s2 := hSw.cell s2 (not_nob _); have s3 := hSw.cell s3 (not_nob _); have s4 := hSw.cell s4 (not_nob _); have s5 := hSw.cell s5 (not_nob _); go_simp; try with_reducible rfl)
  try simp only [Act.put, List.setIfInBounds_toArray, List.set_cons_zero, List.set_cons_succ]
  refine wpAnyH_take (i := 5) (v := ?_) (pickS (pickS (pickS (pickS (pickS pick0))))) (by kernel_rfl) (by kernel_rfl) (by kernel_rfl) (fun _ _ _ h => h) (Or.inl ⟨by rfl, ?_⟩) (by assumption) ?_
  rotate_left 1
  · (intro wx hSw; have hL := HL.out _ hSw; unfold qryV at hL; go_simp; try with_reducible rfl)
  try simp only [Act.put, List.setIfInBounds_toArray, List.set_cons_zero, List.set_cons_succ]
  refine wpAnyH_take (i := 6) (v := ?_) (pickS (pickS (pickS (pickS (pickS (pickS pick0)))))) (by kernel_rfl) (by kernel_rfl) (by kernel_rfl) (fun _ _ _ h => h) (Or.inl ⟨by rfl, ?_⟩) (by assumption) ?_
  rotate_left 1
  · (intro wx hSw; go_simp; try with_reducible rfl)
  try simp only [Act.put, List.setIfInBounds_toArray, List.set_cons_zero, List.set_cons_succ]
  refine wpAnyH_take (i := 7) (v := ?_) (pickS (pickS (pickS (pickS (pickS (pickS (pickS pick0))))))) (by kernel_rfl) (by kernel_rfl) (by kernel_rfl) (fun _ _ _ h => h) (Or.inl ⟨by rfl, ?_⟩) (by assumption) ?_
  rotate_left 1
  · (intro wx hSw; go_simp; try with_reducible rfl)
  try simp only [Act.put, List.setIfInBounds_toArray, List.set_cons_zero, List.set_cons_succ]
  refine wpAnyH_take (i := 8) (v := ?_) (pickS (pickS (pickS (pickS (pickS (pickS (pickS (pickS pick0)))))))) (by kernel_rfl) (by kernel_rfl) (by kernel_rfl) (fun _ _ _ h => h) (Or.inl ⟨by rfl, ?_⟩) (by assumption) ?_
  rotate_left 1
  · (intro wx hSw; go_simp; try with_reducible rfl)
  try simp only [Act.put, List.setIfInBounds_toArray, List.set_cons_zero, List.set_cons_succ]
  refine wpAnyH_ready (rs := [9]) (by kernel_rfl) (by simp) ?_
  refine AllReadyH.cons (pickS (pickS (pickS (pickS (pickS (pickS (pickS (pickS (pickS pick0))))))))) (fun K hK => ?_) AllReadyH.nil
  go_simp
  refine hK.out _ _ (((Chg.refl nob w').drew).alloc _) (fun hHeld => ?_)
  clear hK K
  try simp only [Act.put, List.setIfInBounds_toArray, List.set_cons_zero, List.set_cons_succ]
  refine wpAnyH_ready (rs := [10]) (by kernel_rfl) (by simp) ?_
  refine AllReadyH.cons (pickS (pickS (pickS (pickS (pickS (pickS (pickS (pickS (pickS (pickS pick0)))))))))) (fun K hK => ?_) AllReadyH.nil
  go_simp
  refine hK.out _ _ (HCN.out) (fun hHeld => ?_)
  clear hK K
  try simp only [Act.put, List.setIfInBounds_toArray, List.set_cons_zero, List.set_cons_succ]
  refine wpAnyH_take (i := 11) (v := ?_) (pickS (pickS (pickS (pickS (pickS (pickS (pickS (pickS (pickS (pickS (pickS pick0))))))))))) (by kernel_rfl) (by kernel_rfl) (by kernel_rfl) (fun _ _ _ h => h) (Or.inl ⟨by rfl, ?_⟩) (by assumption) ?_
  rotate_left 1
  · (intro wx hSw; go_simp; try with_reducible rfl)
  try simp only [Act.put, List.setIfInBounds_toArray, List.set_cons_zero, List.set_cons_succ]
  refine wpAnyH_done (by kernel_rfl) ?_ _
  go_wp2_with fail
  refine (c_copied (ok := fun b => ¬ (own b ∨ av b) ∧ b < w.heap.size) (x := x) (ansK.mono (fun _ hb => hb) (Kd.step HKK.out (fun b _ hb => HCN.out.block b hb (not_nob _))))).mono ?_
  rintro e v2 ⟨cs, rfl, hcp, hc2⟩
  have hcw : Chg nob w' v2 := HCN.out.thenNew hc2
  obtain ⟨S1, sd1, K1, kd1, N1, nd1, I1, id1, E1, ed1, T1, td1, hlit, -⟩ := hcp.wr
  obtain ⟨mS, hmS⟩ : ∃ n, x.2.2.1.2.2.2.1.length = n := ⟨_, rfl⟩
  obtain ⟨mK, hmK⟩ : ∃ n, x.2.2.1.2.2.2.2.length = n := ⟨_, rfl⟩
  obtain ⟨mN, hmN⟩ : ∃ n, x.2.2.2.1.length = n := ⟨_, rfl⟩
  obtain ⟨mI, hmI⟩ : ∃ n, x.2.2.2.2.1.length = n := ⟨_, rfl⟩
  obtain ⟨mE, hmE⟩ : ∃ n, x.2.2.2.2.2.1.length = n := ⟨_, rfl⟩
  obtain ⟨mT, hmT⟩ : ∃ n, x.2.2.2.2.2.2.length = n := ⟨_, rfl⟩
  rw [hmS, hmK, hmN, hmI, hmE, hmT] at hlit
  subst hlit
  have hz := hcw.heap HZ0.out (not_nob _)
  obtain ⟨hbf, hcf⟩ := set11 hz (.int .i64 x.1) (.int .u64 x.2.1) (.bool x.2.2.1.1) (.int .i64 x.2.2.1.2.1) (.string x.2.2.1.2.2.1) (.slice S1 mS sd1) (.slice K1 mK kd1) (.slice N1 mN nd1) (.slice I1 mI id1) (.slice E1 mE ed1) (.slice T1 mT td1)
  obtain ⟨wf, hwf⟩ : ∃ W, (((((((((((v2.setCell ⟨g + 1, 0, none⟩ (.int .i64 x.1)).setCell ⟨g + 1, 1, none⟩ (.int .u64 x.2.1)).setCell ⟨g + 1, 2, none⟩ (.bool x.2.2.1.1)).setCell ⟨g + 1, 3, none⟩ (.int .i64 x.2.2.1.2.1)).setCell ⟨g + 1, 4, none⟩ (.string x.2.2.1.2.2.1)).setCell ⟨g + 1, 5, none⟩ (.slice S1 mS sd1)).setCell ⟨g + 1, 6, none⟩ (.slice K1 mK kd1)).setCell ⟨g + 1, 7, none⟩ (.slice N1 mN nd1)).setCell ⟨g + 1, 8, none⟩ (.slice I1 mI id1)).setCell ⟨g + 1, 9, none⟩ (.slice E1 mE ed1)).setCell ⟨g + 1, 10, none⟩ (.slice T1 mT td1)) = W := ⟨_, rfl⟩
  rw [hwf] at hbf hcf
  have HBF := Lib.hid hbf
  have HEND : Hid (CopiedAs w wf (fun b => ¬ (own b ∨ av b)) x #[.int .i64 x.1, .int .u64 x.2.1, .bool x.2.2.1.1, .int .i64 x.2.2.1.2.1, .string x.2.2.1.2.2.1, .slice S1 mS sd1, .slice K1 mK kd1, .slice N1 mN nd1, .slice I1 mI id1, .slice E1 mE ed1, .slice T1 mT td1] ∧ Chg nob w wf) := ⟨((hcp.chg hcf (by have := HG.out; rintro b hb _ e; have h2 := hb.2; have h3 : b = g + 1 := e; omega) (by have := HZL.out; have h4 := HCN.out.size; rintro b hb e; have h3 : b = g + 1 := e; omega)).back (w := w) (Nat.le_trans HC0.out.size HCN.out.size)).imp (fun b hb => hb.1), (HC0.out.thenNew hcw).trans hcf (fun b hb => .inr (by have := HG.out; omega))⟩
  obtain ⟨⟨z0, z1, z2, z3, z4, z5, z6, z7, z8, z9, z10⟩, zf⟩ := row11c hz
  have y0 := zf 0
  have y1 := zf 1
  have y2 := zf 2
  have y3 := zf 3
  have y4 := zf 4
  have y5 := zf 5
  have y6 := zf 6
  have y7 := zf 7
  have y8 := zf 8
  have y9 := zf 9
  have y10 := zf 10
  clear zf hcp hz hbf hcf hc2 hmS hmK hmN hmI hmE hmT
  go_wp2
  first | rw [hwf] | skip
  try simp only [Exit.inBlock, Exit.then]
  refine bodyPost_ret (results_cell_tmp_row rfl _ _ (g + 1) _ _ (0, 0) _ rfl HBF.out Try.underlying57 rfl (by kernel_rfl)) rfl ?_
  rw [HX.out, HBO.out]
  exact ⟨_, rfl, HEND.out.1, HEND.out.2⟩
end Go.Proofs.Ytcibdcahcpcmaaa
