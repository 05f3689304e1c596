import Derived.Test.YtcibdcahcpcmaaaFold39
import Derived.Test.YtcibdcahcpcmaaaFold42
import Derived.Test.YtcibdcahcpcmaaaFold23
import Derived.Deep.RegionLaw
import Derived.Deep.CutRange
import Derived.Deep.DeepCutAuto
/- What a call of Put leaves. -/
namespace Go.Proofs.Ytcibdcahcpcmaaa
open Go.RowKit
set_option linter.unusedVariables false
set_option linter.unusedSimpArgs false
section
variable {w : World} {ops : Array Oper} {o : Oper} {a : Act} {K : Act → World → Prop} {Q : Exit → Act → World → Prop} {E : Prop} {r : Nat} {l : QMap} {q : Qry}
theorem step_updQ (hgd : o.guard = none) (m x v : Operand) (hop : o.op = Op.mapUpdate 80 m x v) (hm : a.eval m = .map (some r)) (hx : a.eval x = .agg (qryV q)) (c : Array Value) (hv : a.eval v = .agg c) (h : MapRaw w r l)
    (hK : ∀ w', MapRaw w' r (putQ l q c) → Chg (fun b => b = r) w w' → w'.heap.size = w.heap.size → K (a.put o.dst undef) w') : if Region.wanted o (yielded ops a.tmps) = true then Oper.wp Try.prog o a w K Q else E := by
  obtain ⟨w', hrun, r1, r2, r3⟩ := run_updQ h q c
  rw [if_pos (show Region.wanted o (yielded ops a.tmps) = true from by simp [Region.wanted, hgd])]
  unfold Oper.wp
  simp [execOp, hop, hm, hx, hv, hrun, Result.andThen]
  exact hK w' r1 r2 r3
end
/-- Whether an answer is taken. -/
def putOk (l : Known) (q : Qry) (x : Ans) : Bool := qRight q && decide (x.1 = q.1) && (match seekA l q with | some y => decide (y.2.1 ≤ x.2.1) | none => decide (l.length < 8))
def putL (l : Known) (q : Qry) (x : Ans) : Known := if putOk l q x then putA l q x else l
theorem putOk_right {l : Known} {q : Qry} {x : Ans} (h : qRight q = false) : putOk l q x = false := by simp [putOk, h]
theorem putOk_kind {l : Known} {q : Qry} {x : Ans} (h : ¬ x.1 = q.1) : putOk l q x = false := by simp [putOk, h]
theorem putOk_some {l : Known} {q : Qry} {x y : Ans} (h1 : qRight q = true) (h2 : x.1 = q.1) (h : seekA l q = some y) : putOk l q x = decide (y.2.1 ≤ x.2.1) := by simp [putOk, h1, h2, h]
theorem putOk_none {l : Known} {q : Qry} {x : Ans} (h1 : qRight q = true) (h2 : x.1 = q.1) (h : seekA l q = none) : putOk l q x = decide (l.length < 8) := by simp [putOk, h1, h2, h]
/-- What a call of Put leaves. -/
structure PutPost (w w' : World) (own av : Nat → Prop) (c : Nat) (l : Known) : Prop where
  ex : ∃ own', CSt w' own' av c l ∧ Chg own w w' ∧ (∀ b, own' b → b < w'.heap.size) ∧ (∀ b, own b → own' b) ∧ ∀ b, own' b → own b ∨ w.heap.size ≤ b
theorem PutPost.same {w w' : World} {own av : Nat → Prop} {c : Nat} {l : Known} (h : CSt w own av c l) (hown : ∀ b, own b → b < w.heap.size) (hc : Chg nob w w') : PutPost w w' own av c l :=
  ⟨own, h.new hc, hc.ofNew, fun b hb => Nat.lt_of_lt_of_le (hown b hb) hc.size, fun _ hb => hb, fun _ hb => .inl hb⟩
/-- The cache ahead of the map's update: its order is already as it will be. -/
structure MidSt (w w' : World) (own own' av : Nat → Prop) (c r : Nat) (m : QMap) (l : Known) (ks : List Qry) : Prop where
  row : ∃ O oc, w'.heap[c]? = some (.cells #[.map (some r), .slice O ks.length oc] 82 (0, 0)) ∧ qryK.R 61 w' 0 (fun k => some k = (Value.slice O ks.length oc).ownBlock) (.slice O ks.length oc) ks ∧ ∀ k, (Value.slice O ks.length oc).ownBlock = some k → own' k ∧ k ≠ c ∧ k ≠ r
  chg : Chg own w w'
  map : MapRaw w' r m
  ents : Ents w' (fun b => ¬ (own' b ∨ av b) ∧ b < w'.heap.size) m l
  lt : ∀ b, own' b → b < w'.heap.size
  sub : ∀ b, own b → own' b
  sup : ∀ b, own' b → own b ∨ w.heap.size ≤ b
set_option maxRecDepth 100000 in
set_option maxHeartbeats 4000000 in
theorem ca_put {w : World} {own av : Nat → Prop} {c : Nat} {l : Known} (h : CSt w own av c l) (hown : ∀ b, own b → b < w.heap.size) (hav : ∀ b, av b → b < w.heap.size) (hl : l.length ≤ 1000) {ok : Nat → Prop} {x : Ans} {cs : Array Value} (hk : ansK.K w ok x cs.toList) (hdis : ∀ b, ok b → ¬ (own b ∨ av b) ∧ b < w.heap.size) (q : Qry) (hz : QSz q) :
    Calls Try.prog 15 #[.pointer (some ⟨c, 0, none⟩), .agg (qryV q), .agg cs] w fun e w' => e = .returned (.bool (putOk l q x)) ∧ PutPost w w' own av c (putL l q x) := by
  obtain ⟨S0, sd0, K0, kd0, N0, nd0, I0, id0, E0, ed0, T0, td0, hcs, -⟩ := (ans_cells hk).ex
  have hcs' : cs = #[.int .i64 x.1, .int .u64 x.2.1, .bool x.2.2.1.1, .int .i64 x.2.2.1.2.1, .string x.2.2.1.2.2.1, .slice S0 x.2.2.1.2.2.2.1.length sd0, .slice K0 x.2.2.1.2.2.2.2.length kd0, .slice N0 x.2.2.2.1.length nd0, .slice I0 x.2.2.2.2.1.length id0, .slice E0 x.2.2.2.2.2.1.length ed0, .slice T0 x.2.2.2.2.2.2.length td0] := Array.toList_inj.1 (by rw [hcs])
  obtain ⟨nS, hnS⟩ : ∃ n, x.2.2.1.2.2.2.1.length = n := ⟨_, rfl⟩
  obtain ⟨nK, hnK⟩ : ∃ n, x.2.2.1.2.2.2.2.length = n := ⟨_, rfl⟩
  obtain ⟨nN, hnN⟩ : ∃ n, x.2.2.2.1.length = n := ⟨_, rfl⟩
  obtain ⟨nI, hnI⟩ : ∃ n, x.2.2.2.2.1.length = n := ⟨_, rfl⟩
  obtain ⟨nE, hnE⟩ : ∃ n, x.2.2.2.2.2.1.length = n := ⟨_, rfl⟩
  obtain ⟨nT, hnT⟩ : ∃ n, x.2.2.2.2.2.2.length = n := ⟨_, rfl⟩
  rw [hnS, hnK, hnN, hnI, hnE, hnT] at hcs'
  clear hcs hnS hnK hnN hnI hnE hnT
  subst hcs'
  have hb0 : ((w.alloc (.cells (qryV q) 61)).alloc (.cells #[.int .i64 x.1, .int .u64 x.2.1, .bool x.2.2.1.1, .int .i64 x.2.2.1.2.1, .string x.2.2.1.2.2.1, .slice S0 nS sd0, .slice K0 nK kd0, .slice N0 nN nd0, .slice I0 nI id0, .slice E0 nE ed0, .slice T0 nT td0] 57)).heap[w.heap.size]? = some (.cells (qryV q) 61 (0, 0)) := by
    rw [Below.heap_alloc _ _ _ (by simp)]
    exact heap_alloc_new w _
  have hz0 := heap_alloc_new (w.alloc (.cells (qryV q) 61)) (.cells #[.int .i64 x.1, .int .u64 x.2.1, .bool x.2.2.1.1, .int .i64 x.2.2.1.2.1, .string x.2.2.1.2.2.1, .slice S0 nS sd0, .slice K0 nK kd0, .slice N0 nN nd0, .slice I0 nI id0, .slice E0 nE ed0, .slice T0 nT td0] 57)
  rw [World.size_alloc] at hz0
  have hc0 : Chg nob w ((w.alloc (.cells (qryV q) 61)).alloc (.cells #[.int .i64 x.1, .int .u64 x.2.1, .bool x.2.2.1.1, .int .i64 x.2.2.1.2.1, .string x.2.2.1.2.2.1, .slice S0 nS sd0, .slice K0 nK kd0, .slice N0 nN nd0, .slice I0 nI id0, .slice E0 nE ed0, .slice T0 nT td0] 57)) := ((Chg.refl nob w).alloc _).alloc _
  obtain ⟨u0, hu0⟩ : ∃ u : World, (w.alloc (.cells (qryV q) 61)).alloc (.cells #[.int .i64 x.1, .int .u64 x.2.1, .bool x.2.2.1.1, .int .i64 x.2.2.1.2.1, .string x.2.2.1.2.2.1, .slice S0 nS sd0, .slice K0 nK kd0, .slice N0 nN nd0, .slice I0 nI id0, .slice E0 nE ed0, .slice T0 nT td0] 57) = u := ⟨_, rfl⟩
  rw [hu0] at hb0 hz0 hc0
  obtain ⟨g, hg⟩ : ∃ g, w.heap.size = g := ⟨_, rfl⟩
  have HG := Lib.hid hg
  rw [hg] at hb0 hz0
  have HB0 := Lib.hid hb0
  have HZ0 := Lib.hid hz0
  have HC0 := Lib.hid hc0
  have HST := Lib.hid h
  have HST0 := Lib.hid (h.new hc0)
  have HKX := Lib.hid hk
  have HDIS := Lib.hid hdis
  have HOWN := Lib.hid hown
  have HAV := Lib.hid hav
  clear h hb0 hz0 hc0 hk hdis hown hav
  go_enter Try.func15, Try.ntmps15
  go_wp2_with fail
  have hu0' := hu0
  unfold qryV at hu0'
  first | rw [hu0] | rw [hu0'] | skip
  refine (ca_none HST0.out).mono ?_
  rintro e w1 ⟨rfl, hww⟩
  subst hww
  obtain ⟨s0, s1, s2, s3, s4, s5⟩ := row6 HB0.out
  obtain ⟨⟨z0, z1, z2, z3, z4, z5, z6, z7, z8, z9, z10⟩, -⟩ := row11c HZ0.out
  go_wp2_with fail
  refine (q_right q hz).mono ?_
  rintro e w2 ⟨rfl, hc2⟩
  have HC2 := Lib.hid (HC0.out.thenNew hc2)
  have hb2 := hc2.heap HB0.out (not_nob _)
  have hz2 := hc2.heap HZ0.out (not_nob _)
  have HB2 := Lib.hid hb2
  have HZ2 := Lib.hid hz2
  clear s0 s1 s2 s3 s4 s5 z0 z1 z2 z3 z4 z5 z6 z7 z8 z9 z10 hc2
  obtain ⟨s0, s1, s2, s3, s4, s5⟩ := row6 hb2
  obtain ⟨⟨z0, z1, z2, z3, z4, z5, z6, z7, z8, z9, z10⟩, -⟩ := row11c hz2
  clear hb2 hz2
  obtain ⟨rb, hrb⟩ : ∃ b, qRight q = b := ⟨_, rfl⟩
  have HRB := Lib.hid hrb
  rw [hrb]
  clear hrb
  cases rb with
  | false =>
    have HF : Hid (putOk l q x = false) := putOk_right HRB.out
    go_wp2
    go_ret
    unfold putL
    rw [HF.out]
    exact ⟨rfl, PutPost.same HST.out HOWN.out HC2.out⟩
  | true =>
    by_cases hkd : x.1 = q.1
    · have c1 : (x.1 != q.1) = false := by rw [hkd]; simp
      have HKD := Lib.hid hkd
      clear hkd
      obtain ⟨r, O, oc, m, h1, o1, o2, hcr, hM, hE, hR, hO⟩ := HST.out.ex
      have h12 := HC2.out.heap h1 (not_nob _)
      have hM2 := hM.keep HC2.out (not_nob _)
      have hE2 := hE.imp (w' := w2) (ok' := fun b => ¬ (own b ∨ av b) ∧ b < w.heap.size) (fun a cs hk => Kd.step (ansK.bound hk) (fun b hb _ => HC2.out.block b hb.2 (not_nob _)))
      have hR2 := Kd.R_new hR HC2.out
      have hlm : m.length = l.length := hE.len
      obtain ⟨d0, d1, _⟩ := row2 h12
      obtain ⟨hkk, his⟩ := get_pair hE2 q
      obtain ⟨y, hy⟩ : ∃ y, (seekA l q).getD zeroA = y := ⟨_, rfl⟩
      obtain ⟨cs1, hcs1⟩ : ∃ cs, (seekQ m q).getD ansZ = cs := ⟨_, rfl⟩
      obtain ⟨bo, hbo⟩ : ∃ bo, (seekA l q).isSome = bo := ⟨_, rfl⟩
      have hL : ∀ wx, Chg nob w2 wx → (Instr.lookup 80 (.map (some r)) (.agg (qryV q)) true).run Try.prog wx = .ok (.tuple #[.agg cs1, .bool bo]) wx := fun wx hc => by
        rw [run_lookQ (hM2.keep hc (not_nob _)) q, hcs1, his, hbo]
      have hLen : ∀ wx ty, Chg nob w2 wx → (Builtin.len_ #[80] ty #[.map (some r)]).run Try.prog wx = .ok (.int .i64 l.length) wx := fun wx ty hc => by
        rw [run_lenQ (hM2.keep hc (not_nob _)) ty, hlm]
      rw [hy, hcs1] at hkk
      have HY := Lib.hid hy
      have HBO := Lib.hid hbo
      obtain ⟨S, sd, K, kd, N, nd, I, id, E, ed, T, td, hlit, -⟩ := (ans_cells hkk).ex
      have hcs2 : cs1 = #[.int .i64 y.1, .int .u64 y.2.1, .bool y.2.2.1.1, .int .i64 y.2.2.1.2.1, .string y.2.2.1.2.2.1, .slice S y.2.2.1.2.2.2.1.length sd, .slice K y.2.2.1.2.2.2.2.length kd, .slice N y.2.2.2.1.length nd, .slice I y.2.2.2.2.1.length id, .slice E y.2.2.2.2.2.1.length ed, .slice T y.2.2.2.2.2.2.length td] := Array.toList_inj.1 (by rw [hlit])
      clear hlit hcs1 his hy hbo hkk
      obtain ⟨mS, hmS⟩ : ∃ n, y.2.2.1.2.2.2.1.length = n := ⟨_, rfl⟩
      obtain ⟨mK, hmK⟩ : ∃ n, y.2.2.1.2.2.2.2.length = n := ⟨_, rfl⟩
      obtain ⟨mN, hmN⟩ : ∃ n, y.2.2.2.1.length = n := ⟨_, rfl⟩
      obtain ⟨mI, hmI⟩ : ∃ n, y.2.2.2.2.1.length = n := ⟨_, rfl⟩
      obtain ⟨mE, hmE⟩ : ∃ n, y.2.2.2.2.2.1.length = n := ⟨_, rfl⟩
      obtain ⟨mT, hmT⟩ : ∃ n, y.2.2.2.2.2.2.length = n := ⟨_, rfl⟩
      rw [hmS, hmK, hmN, hmI, hmE, hmT] at hcs2
      clear hmS hmK hmN hmI hmE hmT
      subst hcs2
      have HL := Lib.hid hL
      have HD0 := Lib.hid d0
      have HS := Lib.hid (And.intro s0 (And.intro s1 (And.intro s2 (And.intro s3 (And.intro s4 s5)))))
      have HCN : Hid (Chg nob w2 ((w2.alloc (.cells #[.int .i64 y.1, .int .u64 y.2.1, .bool y.2.2.1.1, .int .i64 y.2.2.1.2.1, .string y.2.2.1.2.2.1, .slice S mS sd, .slice K mK kd, .slice N mN nd, .slice I mI id, .slice E mE ed, .slice T mT td] 57)).drew)) := ((Chg.refl nob w2).alloc _).drew
      have HMID : Hid (∀ w3, Chg nob w2 w3 → MidSt w w3 own own av c r m l (l.map Prod.fst)) := fun w3 hc3 =>
        ⟨⟨O, oc, by rw [List.length_map]; exact hc3.heap h12 (not_nob _), by rw [List.length_map]; exact Kd.R_new hR2 hc3, fun k hk => hO k (by rw [List.length_map] at hk; exact hk)⟩, (HC2.out.thenNew hc3).ofNew, hM2.keep hc3 (not_nob _),
          hE2.imp (fun a cs hk => ansK.mono (fun b hb => ⟨hb.1, Nat.lt_of_lt_of_le hb.2 (HC2.out.thenNew hc3).size⟩) (Kd.chg hk hc3 (fun b _ => not_nob b))), fun b hb => Nat.lt_of_lt_of_le (HOWN.out b hb) (HC2.out.thenNew hc3).size, fun b hb => hb, fun b hb => .inl hb⟩
      have hlv := fun ty => hLen _ ty HCN.out
      clear h1 hM hE hR hO h12 hM2 hE2 hR2 hlm hL hLen d0 d1 s1 s2 s3 s4 s5
      go_wp2
      refine wp_region_held_drew (S := fun wx => Chg nob w2 wx) (by kernel_rfl) ((Chg.refl nob w2).drew) (fun hHeld => ?_)
      refine wpAnyH_take (i := 0) (v := ?_) pick0 (by kernel_rfl) (by kernel_rfl) (by kernel_rfl) (fun _ _ _ h => h) (Or.inl ⟨by rfl, ?_⟩) (by assumption) ?_
      rotate_left 1
      · (intro wx hSw; go_simp; try with_reducible rfl)
      try simp only [Act.put, List.setIfInBounds_toArray, List.set_cons_zero, List.set_cons_succ]
      refine wpAnyH_take (i := 1) (v := ?_) (pickS pick0) (by kernel_rfl) (by kernel_rfl) (by kernel_rfl) (fun _ _ _ h => h) (Or.inl ⟨by rfl, ?_⟩) (by assumption) ?_
      rotate_left 1
      · (intro wx hSw; go_simp; try with_reducible rfl)
      try simp only [Act.put, List.setIfInBounds_toArray, List.set_cons_zero, List.set_cons_succ]
      refine wpAnyH_take (i := 2) (v := ?_) (pickS (pickS pick0)) (by kernel_rfl) (by kernel_rfl) (by kernel_rfl) (fun _ _ _ h => h) (Or.inl ⟨by rfl, ?_⟩) (by assumption) ?_
      rotate_left 1
      · (intro wx hSw; go_simp; try with_reducible rfl)
      try simp only [Act.put, List.setIfInBounds_toArray, List.set_cons_zero, List.set_cons_succ]
      refine wpAnyH_take (i := 3) (v := ?_) (pickS (pickS (pickS pick0))) (by kernel_rfl) (by kernel_rfl) (by kernel_rfl) (fun _ _ _ h => h) (Or.inl ⟨by rfl, ?_⟩) (by assumption) ?_
      rotate_left 1
      · (intro wx hSw; have c0 := hSw.cell HD0.out (not_nob _); go_simp; try with_reducible rfl)
      try simp only [Act.put, List.setIfInBounds_toArray, List.set_cons_zero, List.set_cons_succ]
      refine wpAnyH_take (i := 4) (v := ?_) (pickS (pickS (pickS (pickS pick0)))) (by kernel_rfl) (by kernel_rfl) (by kernel_rfl) (fun _ _ _ h => h) (Or.inl ⟨by rfl, ?_⟩) (by assumption) ?_
      rotate_left 1
      · (intro wx hSw; obtain ⟨s0, s1, s2, s3, s4, s5⟩ := HS.out; have s0 := hSw.cell s0 (not_nob _); have s1 := hSw.cell s1 (not_nob _); have s2 := hSw.cell s2 (not_nob _); have s3 := hSw.cell s3 (not_nob _); have s4 := hSw.cell s4 (not_nob _); have s5 := hSw.cell s5 (not_nob _); go_simp; try with_reducible rfl)
      try simp only [Act.put, List.setIfInBounds_toArray, List.set_cons_zero, List.set_cons_succ]
      refine wpAnyH_take (i := 5) (v := ?_) (pickS (pickS (pickS (pickS (pickS pick0))))) (by kernel_rfl) (by kernel_rfl) (by kernel_rfl) (fun _ _ _ h => h) (Or.inl ⟨by rfl, ?_⟩) (by assumption) ?_
      rotate_left 1
      · (intro wx hSw; have hL := HL.out _ hSw; unfold qryV at hL; go_simp; try with_reducible rfl)
      try simp only [Act.put, List.setIfInBounds_toArray, List.set_cons_zero, List.set_cons_succ]
      refine wpAnyH_take (i := 6) (v := ?_) (pickS (pickS (pickS (pickS (pickS (pickS pick0)))))) (by kernel_rfl) (by kernel_rfl) (by kernel_rfl) (fun _ _ _ h => h) (Or.inl ⟨by rfl, ?_⟩) (by assumption) ?_
      rotate_left 1
      · (intro wx hSw; go_simp; try with_reducible rfl)
      try simp only [Act.put, List.setIfInBounds_toArray, List.set_cons_zero, List.set_cons_succ]
      refine wpAnyH_take (i := 7) (v := ?_) (pickS (pickS (pickS (pickS (pickS (pickS (pickS pick0))))))) (by kernel_rfl) (by kernel_rfl) (by kernel_rfl) (fun _ _ _ h => h) (Or.inl ⟨by rfl, ?_⟩) (by assumption) ?_
      rotate_left 1
      · (intro wx hSw; go_simp; try with_reducible rfl)
      try simp only [Act.put, List.setIfInBounds_toArray, List.set_cons_zero, List.set_cons_succ]
      refine wpAnyH_take (i := 8) (v := ?_) (pickS (pickS (pickS (pickS (pickS (pickS (pickS (pickS pick0)))))))) (by kernel_rfl) (by kernel_rfl) (by kernel_rfl) (fun _ _ _ h => h) (Or.inl ⟨by rfl, ?_⟩) (by assumption) ?_
      rotate_left 1
      · (intro wx hSw; go_simp; try with_reducible rfl)
      try simp only [Act.put, List.setIfInBounds_toArray, List.set_cons_zero, List.set_cons_succ]
      refine wpAnyH_ready (rs := [9]) (by kernel_rfl) (by simp) ?_
      refine AllReadyH.cons (pickS (pickS (pickS (pickS (pickS (pickS (pickS (pickS (pickS pick0))))))))) (fun K hK => ?_) AllReadyH.nil
      go_simp
      refine hK.out _ _ (((Chg.refl nob w2).drew).alloc _) (fun hHeld => ?_)
      clear hK K
      try simp only [Act.put, List.setIfInBounds_toArray, List.set_cons_zero, List.set_cons_succ]
      refine wpAnyH_ready (rs := [10]) (by kernel_rfl) (by simp) ?_
      refine AllReadyH.cons (pickS (pickS (pickS (pickS (pickS (pickS (pickS (pickS (pickS (pickS pick0)))))))))) (fun K hK => ?_) AllReadyH.nil
      go_simp
      refine hK.out _ _ (HCN.out) (fun hHeld => ?_)
      clear hK K
      try simp only [Act.put, List.setIfInBounds_toArray, List.set_cons_zero, List.set_cons_succ]
      refine wpAnyH_take (i := 11) (v := ?_) (pickS (pickS (pickS (pickS (pickS (pickS (pickS (pickS (pickS (pickS (pickS pick0))))))))))) (by kernel_rfl) (by kernel_rfl) (by kernel_rfl) (fun _ _ _ h => h) (Or.inl ⟨by rfl, ?_⟩) (by assumption) ?_
      rotate_left 1
      · (intro wx hSw; go_simp; try with_reducible rfl)
      try simp only [Act.put, List.setIfInBounds_toArray, List.set_cons_zero, List.set_cons_succ]
      refine wpAnyH_done (by kernel_rfl) ?_ _
      obtain ⟨v, hv⟩ : ∃ v, (w2.alloc (.cells #[.int .i64 y.1, .int .u64 y.2.1, .bool y.2.2.1.1, .int .i64 y.2.2.1.2.1, .string y.2.2.1.2.2.1, .slice S mS sd, .slice K mK kd, .slice N mN nd, .slice I mI id, .slice E mE ed, .slice T mT td] 57)).drew = v := ⟨_, rfl⟩
      have hnw : ((w2.alloc (.cells #[.int .i64 y.1, .int .u64 y.2.1, .bool y.2.2.1.1, .int .i64 y.2.2.1.2.1, .string y.2.2.1.2.2.1, .slice S mS sd, .slice K mK kd, .slice N mN nd, .slice I mI id, .slice E mE ed, .slice T mT td] 57)).drew).heap[w2.heap.size]? = some (.cells #[.int .i64 y.1, .int .u64 y.2.1, .bool y.2.2.1.1, .int .i64 y.2.2.1.2.1, .string y.2.2.1.2.2.1, .slice S mS sd, .slice K mK kd, .slice N mN nd, .slice I mI id, .slice E mE ed, .slice T mT td] 57 (0, 0)) := heap_alloc_new w2 _
      rw [hv] at HCN hlv hnw ⊢
      have d0 := HCN.out.cell HD0.out (not_nob _)
      have z1 := HCN.out.cell z1 (not_nob _)
      have n1 := (row11c hnw).1.2.1
      clear hnw hv
      cases bo with
      | true =>
        have hs : seekA l q = some y := by
          have h1 := HBO.out
          have h2 := HY.out
          cases hq : seekA l q with
          | none => rw [hq] at h1; cases h1
          | some y' => rw [hq] at h2; exact congrArg some h2
        have HOK := Lib.hid (putOk_some (x := x) HRB.out HKD.out hs)
        have HKS : Hid ((putA l q x).map Prod.fst = l.map Prod.fst) := putA_keys hs
        clear hs
        by_cases hlt : x.2.1 < y.2.1
        · have HF : Hid (putOk l q x = false) := by show _ = _; rw [HOK.out]; exact decide_eq_false (by omega)
          go_wp2
          go_ret
          unfold putL
          rw [HF.out]
          exact ⟨rfl, PutPost.same HST.out HOWN.out (HC2.out.thenNew HCN.out)⟩
        · have HF : Hid (putOk l q x = true) := by show _ = _; rw [HOK.out]; exact decide_eq_true (by omega)
          go_upto_region 8 with fail
          have HM8 := Lib.hid (HMID.out v HCN.out)
          have HX8 : Hid (Chg own w2 v) := HCN.out.ofNew
          obtain ⟨ks, hks⟩ : ∃ ks, l.map Prod.fst = ks := ⟨_, rfl⟩
          rw [hks] at HM8 HKS
          clear hks
          obtain ⟨own1, hown1⟩ : ∃ o, own = o := ⟨_, rfl⟩
          have HM8 : Hid (MidSt w v own own1 av c r m l ks) := by rw [← hown1]; exact HM8
          clear hown1
          obtain ⟨O8, oc8, h8, hR8, hO8⟩ := HM8.out.row
          have HD8 := Lib.hid (row2 h8).1
          have HH8 := Lib.hid h8
          have HR8 := Lib.hid hR8
          have HO8 := Lib.hid hO8
          have HRG : Hid (r < g ∧ r ≠ c) := by
            have h1 := HOWN.out r o2
            have h2 := HG.out
            exact ⟨by omega, fun e => hcr e.symm⟩
          have HB8 := Lib.hid (HX8.out.heap HB2.out (fun e => absurd (HOWN.out _ e) (by rw [HG.out]; exact Nat.lt_irrefl _)))
          have HZ8 := Lib.hid (HX8.out.heap HZ2.out (fun e => absurd (HOWN.out _ e) (by rw [HG.out]; omega)))
          have HKV : Hid (ansK.K v.drew ok x [.int .i64 x.1, .int .u64 x.2.1, .bool x.2.2.1.1, .int .i64 x.2.2.1.2.1, .string x.2.2.1.2.2.1, .slice S0 nS sd0, .slice K0 nK kd0, .slice N0 nN nd0, .slice I0 nI id0, .slice E0 nE ed0, .slice T0 nT td0]) := Kd.chg HKX.out HM8.out.chg.drew (fun b hb e => (HDIS.out b hb).1 (.inl e))
          clear h8 hR8 hO8
          refine wp_region_held_drew (S := fun wx => Chg (fun b => b = r) v wx) (by kernel_rfl) ((Chg.refl _ v).drew) (fun hHeld => ?_)
          refine wpAnyH_take (i := 0) (v := ?_) pick0 (by kernel_rfl) (by kernel_rfl) (by kernel_rfl) (fun _ _ _ h => h) (Or.inl ⟨by rfl, ?_⟩) (by assumption) ?_
          rotate_left 1
          · (intro wx hSw; go_simp; try with_reducible rfl)
          try simp only [Act.put, List.setIfInBounds_toArray, List.set_cons_zero, List.set_cons_succ]
          refine wpAnyH_take (i := 1) (v := ?_) (pickS pick0) (by kernel_rfl) (by kernel_rfl) (by kernel_rfl) (fun _ _ _ h => h) (Or.inl ⟨by rfl, ?_⟩) (by assumption) ?_
          rotate_left 1
          · (intro wx hSw; go_simp; try with_reducible rfl)
          try simp only [Act.put, List.setIfInBounds_toArray, List.set_cons_zero, List.set_cons_succ]
          refine wpAnyH_take (i := 2) (v := ?_) (pickS (pickS pick0)) (by kernel_rfl) (by kernel_rfl) (by kernel_rfl) (fun _ _ _ h => h) (Or.inl ⟨by rfl, ?_⟩) (by assumption) ?_
          rotate_left 1
          · (intro wx hSw; go_simp; try with_reducible rfl)
          try simp only [Act.put, List.setIfInBounds_toArray, List.set_cons_zero, List.set_cons_succ]
          refine wpAnyH_take (i := 3) (v := ?_) (pickS (pickS (pickS pick0))) (by kernel_rfl) (by kernel_rfl) (by kernel_rfl) (fun _ _ _ h => h) (Or.inl ⟨by rfl, ?_⟩) (by assumption) ?_
          rotate_left 1
          · (intro wx hSw; have c0 := hSw.cell HD8.out (fun e => HRG.out.2 e.symm); go_simp; try with_reducible rfl)
          try simp only [Act.put, List.setIfInBounds_toArray, List.set_cons_zero, List.set_cons_succ]
          refine wpAnyH_take (i := 4) (v := ?_) (pickS (pickS (pickS (pickS pick0)))) (by kernel_rfl) (by kernel_rfl) (by kernel_rfl) (fun _ _ _ h => h) (Or.inl ⟨by rfl, ?_⟩) (by assumption) ?_
          rotate_left 1
          · (intro wx hSw; obtain ⟨s0, s1, s2, s3, s4, s5⟩ := row6 (hSw.heap HB8.out (fun e => by have := HRG.out.1; omega)); go_simp; try with_reducible rfl)
          try simp only [Act.put, List.setIfInBounds_toArray, List.set_cons_zero, List.set_cons_succ]
          refine wpAnyH_take (i := 5) (v := ?_) (pickS (pickS (pickS (pickS (pickS pick0))))) (by kernel_rfl) (by kernel_rfl) (by kernel_rfl) (fun _ _ _ h => h) (Or.inl ⟨by rfl, ?_⟩) (by assumption) ?_
          rotate_left 1
          · (intro wx hSw; obtain ⟨⟨z0, z1, z2, z3, z4, z5, z6, z7, z8, z9, z10⟩, -⟩ := row11c (hSw.heap HZ8.out (fun e => by have := HRG.out.1; omega)); go_simp; try with_reducible rfl)
          try simp only [Act.put, List.setIfInBounds_toArray, List.set_cons_zero, List.set_cons_succ]
          refine wpAnyH_ready (rs := [6]) (by kernel_rfl) (by simp) ?_
          refine AllReadyH.cons (pickS (pickS (pickS (pickS (pickS (pickS pick0)))))) (fun K hK => ?_) AllReadyH.nil
          go_simp
          refine (c_copied (ok := ok) (x := x) HKV.out).mono ?_
          rintro e w6 ⟨cs6, rfl, hcp, hc6⟩
          have HC6 : Hid (Chg (fun b => b = r) v w6) := ((Chg.refl _ v).drew).thenNew hc6
          have HM6 := Lib.hid ((HM8.out.map.keep ((Chg.refl nob v).drew) (not_nob _)).keep hc6 (not_nob _))
          have HCP := Lib.hid hcp.K
          clear hcp hc6
          go_wp2_with fail
          refine hK.out _ _ (HC6.out) (fun hHeld => ?_)
          clear hK K
          try simp only [Act.put, List.setIfInBounds_toArray, List.set_cons_zero, List.set_cons_succ]
          refine wpAnyH_ready (rs := [7]) (by kernel_rfl) (by simp) ?_
          refine AllReadyH.cons (pickS (pickS (pickS (pickS (pickS (pickS (pickS pick0))))))) (fun K hK => ?_) AllReadyH.nil
          refine step_updQ rfl (.tmp 67) (.tmp 68) (.tmp 70) rfl rfl rfl cs6 rfl HM6.out ?_
          intro w7 hM7 hc7 hs7
          have HC7 : Hid (Chg (fun b => b = r) v w7) := HC6.out.trans hc7 (fun i hi => .inl hi)
          have HEND : Hid (PutPost w w7 own av c (putA l q x)) := by
            have hks := HKS.out
            have hlk : (putA l q x).length = ks.length := by rw [← hks, List.length_map]
            have hcr1 := HRG.out.1
            refine ⟨own1, ⟨r, O8, oc8, putQ m q cs6, ?_, HM8.out.sub _ o1, HM8.out.sub _ o2, hcr, hM7, ?_, ?_, ?_⟩, HM8.out.chg.trans HC7.out (fun i hi => .inl (by rw [show i = r from hi]; exact o2)), fun b hb => Nat.lt_of_lt_of_le (HM8.out.lt b hb) HC7.out.size, HM8.out.sub, HM8.out.sup⟩
            · rw [hlk]; exact HC7.out.heap HH8.out hcr
            · refine Ents.put ?_ (HM8.out.ents.imp (fun a cs hk => ansK.mono (fun b hb => hb.1) (Kd.chg hk HC7.out (fun b hb e => hb.1 (.inl (by rw [show b = r from e]; exact HM8.out.sub _ o2))))))
              refine ansK.mono (fun b hb h1 => ?_) (Kd.chg HCP.out hc7 (fun b hb e => ?_))
              · rcases h1 with h1 | h1
                · rcases hb with ⟨hb, hl⟩ | hb
                  · have h2 := HDIS.out b hb
                    rcases HM8.out.sup b h1 with h3 | h3
                    · exact h2.1 (.inl h3)
                    · omega
                  · have h2 := HM8.out.lt b h1
                    have h3 : v.drew.heap.size = v.heap.size := rfl
                    omega
                · rcases hb with ⟨hb, hl⟩ | hb
                  · exact (HDIS.out b hb).1 (.inr h1)
                  · have h2 := HAV.out b h1
                    have h3 : v.drew.heap.size = v.heap.size := rfl
                    have h4 := HM8.out.chg.size
                    omega
              · have h2 : b = r := e
                rcases hb with ⟨hb, hl⟩ | hb
                · exact (HDIS.out b hb).1 (.inl (by rw [h2]; exact o2))
                · have h3 := HM8.out.lt r (HM8.out.sub _ o2)
                  have h4 : v.drew.heap.size = v.heap.size := rfl
                  omega
            · rw [hks, hlk]; exact Kd.R_chg HR8.out HC7.out (fun b hb e => (HO8.out b hb.symm).2.2 e)
            · intro k hk; rw [hlk] at hk; exact HO8.out k hk
          clear hM7 hc7 hs7
          refine hK.out _ _ (HC7.out) (fun hHeld => ?_)
          clear hK K
          try simp only [Act.put, List.setIfInBounds_toArray, List.set_cons_zero, List.set_cons_succ]
          refine wpAnyH_done (by kernel_rfl) ?_ _
          go_wp2
          go_ret
          unfold putL
          rw [HF.out]
          exact ⟨rfl, HEND.out⟩
      | false =>
        have hs : seekA l q = none := by
          have h1 := HBO.out
          cases hq : seekA l q with
          | none => rfl
          | some y' => rw [hq] at h1; cases h1
        have HOK := Lib.hid (putOk_none (x := x) HRB.out HKD.out hs)
        have HKS : Hid ((putA l q x).map Prod.fst = l.map Prod.fst ++ [q]) := by show _ = _; rw [putA_new hs, List.map_append]; rfl
        clear hs
        by_cases h8 : 8 ≤ l.length
        · have b8 : (8 : Int) ≤ (l.length : Int) := by omega
          have HF : Hid (putOk l q x = false) := by show _ = _; rw [HOK.out]; exact decide_eq_false (by omega)
          go_wp2
          go_ret
          unfold putL
          rw [HF.out]
          exact ⟨rfl, PutPost.same HST.out HOWN.out (HC2.out.thenNew HCN.out)⟩
        · have b8 : ¬ (8 : Int) ≤ (l.length : Int) := by omega
          have HF : Hid (putOk l q x = true) := by show _ = _; rw [HOK.out]; exact decide_eq_true (by omega)
          have HM7 := Lib.hid (HMID.out v HCN.out)
          obtain ⟨kl, hkl⟩ : ∃ kl, l.map Prod.fst = kl := ⟨_, rfl⟩
          have HN7 : Hid (kl.length = l.length) := by show _ = _; rw [← hkl, List.length_map]
          rw [hkl] at HM7 HKS
          clear hkl
          go_upto_region 7 with fail
          go_cut [] (fun wx => ∃ own1, Hid (MidSt w wx own own1 av c r m l (kl ++ [q])) ∧ Hid (Chg own w2 wx))
          case first =>
            obtain ⟨O7, oc7, h7, hR7, hO7⟩ := HM7.out.row
            obtain ⟨n, hn⟩ : ∃ n, kl.length = n := ⟨_, rfl⟩
            rw [hn] at h7 hR7 hO7
            have HN := Lib.hid hn
            have hnl : n ≤ 1000 := by have := HN7.out; omega
            have HH7 := Lib.hid h7
            have HR7 := Lib.hid hR7
            have HO7 := Lib.hid hO7
            clear hn
            obtain ⟨d0, d1, hf⟩ := row2 h7
            have f1 := hf 1
            clear hf
            obtain ⟨s0, s1, s2, s3, s4, s5⟩ := row6 (HCN.out.heap HB2.out (not_nob _))
            have hcb : Chg nob v (v.alloc (.cells #[.int .i64 q.1, .int .i64 q.2.1, .string q.2.2.1, .string q.2.2.2.1, .string q.2.2.2.2.1, .bool q.2.2.2.2.2] 61)).drew := ((Chg.refl nob v).alloc _).drew
            have hbx : qryK.C (v.alloc (.cells #[.int .i64 q.1, .int .i64 q.2.1, .string q.2.2.1, .string q.2.2.2.1, .string q.2.2.2.2.1, .bool q.2.2.2.2.2] 61)).drew (fun k => False ∨ k = v.heap.size) (some ⟨v.heap.size, 0, none⟩) [q] := boxed (d := qryK) (w := v.drew) (ok := fun _ => False) 61 (qry_mk q)
            have HBX := Lib.hid hbx
            have HCB := Lib.hid hcb
            have HSZ : Hid ((v.alloc (.cells #[.int .i64 q.1, .int .i64 q.2.1, .string q.2.2.1, .string q.2.2.2.1, .string q.2.2.2.2.1, .bool q.2.2.2.2.2] 61)).drew.heap.size = v.heap.size + 1) := by show _ = _; simp
            have HRB7 := Lib.hid (Kd.R_new hR7 hcb)
            have d1b : (v.alloc (.cells #[.int .i64 q.1, .int .i64 q.2.1, .string q.2.2.1, .string q.2.2.2.1, .string q.2.2.2.2.1, .bool q.2.2.2.2.2] 61)).cell? ⟨c, 1, none⟩ = some (.slice O7 n oc7) := hcb.cell d1 (not_nob _)
            have FIN : ∀ (A8 : Option Addr) (c8 : Nat) (w8 : World), qryK.R 61 w8 0 (fun k => some k = (Value.slice A8 (n + 1) c8).ownBlock) (.slice A8 (n + 1) c8) (kl ++ [q]) → Chg (fun k => some k = (Value.slice O7 n oc7).ownBlock) (v.alloc (.cells #[.int .i64 q.1, .int .i64 q.2.1, .string q.2.2.1, .string q.2.2.2.1, .string q.2.2.2.2.1, .bool q.2.2.2.2.2] 61)).drew w8 →
                ((Value.slice A8 (n + 1) c8).ownBlock = (Value.slice O7 n oc7).ownBlock ∨ (Value.slice A8 (n + 1) c8).ownBlock = some (v.alloc (.cells #[.int .i64 q.1, .int .i64 q.2.1, .string q.2.2.1, .string q.2.2.2.1, .string q.2.2.2.2.1, .bool q.2.2.2.2.2] 61)).drew.heap.size) →
                ∃ own1, Hid (MidSt w (w8.setCell ⟨c, 1, none⟩ (.slice A8 (n + 1) c8)) own own1 av c r m l (kl ++ [q])) ∧ Hid (Chg own w2 (w8.setCell ⟨c, 1, none⟩ (.slice A8 (n + 1) c8))) := by
              intro A8 c8 w8 hR8 hC8 hat
              rw [HSZ.out] at hat
              have hoo : ∀ k, some k = (Value.slice O7 n oc7).ownBlock → own k ∧ k ≠ c ∧ k ≠ r := fun k hk => HO7.out k hk.symm
              have hvw : w.heap.size ≤ v.heap.size := (HC2.out.thenNew HCN.out).size
              have hcv : c < v.heap.size := heap_lt HH7.out
              have hrv : r < v.heap.size := HM7.out.map.lt
              have hn8 : ∀ k, (Value.slice A8 (n + 1) c8).ownBlock = some k → (own k ∨ k = v.heap.size + 1) ∧ k ≠ c ∧ k ≠ r := by
                intro k hk
                rcases hat with h1 | h1
                · have h2 := hoo k (by rw [← h1, hk])
                  exact ⟨.inl h2.1, h2.2⟩
                · have h2 : k = v.heap.size + 1 := by rw [hk] at h1; exact Option.some.inj h1
                  exact ⟨.inr h2, by omega, by omega⟩
              have hcv8 : Chg (fun k => some k = (Value.slice O7 n oc7).ownBlock) v w8 := (HCB.out.ofNew (S := fun k => some k = (Value.slice O7 n oc7).ownBlock)).trans hC8 (fun i hi => .inl hi)
              have hcvS : Chg own v (w8.setCell ⟨c, 1, none⟩ (.slice A8 (n + 1) c8)) := (hcv8.mono (fun i hi => .inl (hoo i hi).1)).setCell (p := ⟨c, 1, none⟩) (.inl o1) _
              have hcell : Chg (fun b => b = c) w8 (w8.setCell ⟨c, 1, none⟩ (.slice A8 (n + 1) c8)) := (Chg.refl (fun b => b = c) w8).set1 1 _
              have hsz8 : v.heap.size + 1 ≤ w8.heap.size := by have := hC8.size; rw [HSZ.out] at this; exact this
              have hlk : (kl ++ [q]).length = n + 1 := by rw [List.length_append, HN.out]; rfl
              refine ⟨fun b => own b ∨ (Value.slice A8 (n + 1) c8).ownBlock = some b, ⟨⟨A8, c8, ?_, ?_, ?_⟩, HM7.out.chg.trans hcvS (fun i hi => .inl hi), ?_, ?_, ?_, fun b hb => .inl hb, ?_⟩, (HCN.out.ofNew (S := own)).trans hcvS (fun i hi => .inl hi)⟩
              · have h1 := hcv8.heap HH7.out (fun e => (hoo c e).2.1 rfl)
                have := blk_set h1 1 (.slice A8 (n + 1) c8)
                rw [hlk]
                simpa using this
              · rw [hlk]
                exact Kd.R_chg hR8 hcell (fun b hb e => (hn8 b hb.symm).2.1 e)
              · intro k hk
                rw [hlk] at hk
                exact ⟨.inr hk, (hn8 k hk).2⟩
              · exact (HM7.out.map.keep hcv8 (fun e => (hoo r e).2.2 rfl)).keep hcell (fun e => hcr e.symm)
              · refine HM7.out.ents.imp (fun a cs hk => ansK.mono (fun b hb => ⟨?_, ?_⟩) (Kd.chg hk hcvS (fun b hb e => hb.1 (.inl e))))
                · rintro ((h1 | h1) | h1)
                  · exact hb.1 (.inl h1)
                  · rcases (hn8 b h1).1 with h2 | h2
                    · exact hb.1 (.inl h2)
                    · have := hb.2; omega
                  · exact hb.1 (.inr h1)
                · exact Nat.lt_of_lt_of_le hb.2 hcvS.size
              · rintro b (h1 | h1)
                · exact Nat.lt_of_lt_of_le (HM7.out.lt b h1) hcvS.size
                · exact Nat.lt_of_lt_of_le (Kd.R_own hR8 b h1).2 hcell.size
              · rintro b (h1 | h1)
                · exact .inl h1
                · rcases (hn8 b h1).1 with h2 | h2
                  · exact .inl h2
                  · exact .inr (by omega)
            clear hcb hbx hR7 hO7 h7
            go_region_law (first
              | (refine step_appendF (d := qryK) qry_flat rfl (.tmp 58) (.tmp 60) 66 rfl 61 (.agg #[.int .i64 0, .int .i64 0, .string ByteArray.empty, .string ByteArray.empty, .string ByteArray.empty, .bool false]) 72 Try.underlying66 qry_info rfl 0 _ _ (.slice O7 n oc7) kl [q] (some ⟨v.heap.size, 0, none⟩) 1 1 rfl rfl rfl HRB7.out HBX.out (by rw [HN.out]; unfold maxLen; simp; omega) (by rw [HN.out]; simp; omega) (Nat.zero_le _) (n + 1) (by rw [HN.out]) ?_
                 intro A8 c8 w8 hR8 hC8 hat
                 have hrow8 := hC8.heap (HCB.out.heap HH7.out (not_nob _)) (fun e => (HO7.out c e.symm).2.1 rfl)
                 have d1d := (row2 hrow8).2.1
                 have f1d := (row2 hrow8).2.2 1
                 have HR8 := Lib.hid hR8
                 have HC8 := Lib.hid hC8
                 have HAT := Lib.hid hat
                 clear hR8 hC8 hat hrow8))
            all_goals go_wp2
            all_goals go_meet
            all_goals exact FIN A8 c8 w8 HR8.out HC8.out HAT.out
          case rest =>
            obtain ⟨own1, HM8, HX8⟩ := hcut
            obtain ⟨ks, hks⟩ : ∃ ks, kl ++ [q] = ks := ⟨_, rfl⟩
            rw [hks] at HM8 HKS
            clear hks
            go_upto_region 8 with fail
            obtain ⟨O8, oc8, h8, hR8, hO8⟩ := HM8.out.row
            have HD8 := Lib.hid (row2 h8).1
            have HH8 := Lib.hid h8
            have HR8 := Lib.hid hR8
            have HO8 := Lib.hid hO8
            have HRG : Hid (r < g ∧ r ≠ c) := by
              have h1 := HOWN.out r o2
              have h2 := HG.out
              exact ⟨by omega, fun e => hcr e.symm⟩
            have HB8 := Lib.hid (HX8.out.heap HB2.out (fun e => absurd (HOWN.out _ e) (by rw [HG.out]; exact Nat.lt_irrefl _)))
            have HZ8 := Lib.hid (HX8.out.heap HZ2.out (fun e => absurd (HOWN.out _ e) (by rw [HG.out]; omega)))
            have HKV : Hid (ansK.K wc.drew ok x [.int .i64 x.1, .int .u64 x.2.1, .bool x.2.2.1.1, .int .i64 x.2.2.1.2.1, .string x.2.2.1.2.2.1, .slice S0 nS sd0, .slice K0 nK kd0, .slice N0 nN nd0, .slice I0 nI id0, .slice E0 nE ed0, .slice T0 nT td0]) := Kd.chg HKX.out HM8.out.chg.drew (fun b hb e => (HDIS.out b hb).1 (.inl e))
            clear h8 hR8 hO8
            refine wp_region_held_drew (S := fun wx => Chg (fun b => b = r) wc wx) (by kernel_rfl) ((Chg.refl _ wc).drew) (fun hHeld => ?_)
            refine wpAnyH_take (i := 0) (v := ?_) pick0 (by kernel_rfl) (by kernel_rfl) (by kernel_rfl) (fun _ _ _ h => h) (Or.inl ⟨by rfl, ?_⟩) (by assumption) ?_
            rotate_left 1
            · (intro wx hSw; go_simp; try with_reducible rfl)
            try simp only [Act.put, List.setIfInBounds_toArray, List.set_cons_zero, List.set_cons_succ]
            refine wpAnyH_take (i := 1) (v := ?_) (pickS pick0) (by kernel_rfl) (by kernel_rfl) (by kernel_rfl) (fun _ _ _ h => h) (Or.inl ⟨by rfl, ?_⟩) (by assumption) ?_
            rotate_left 1
            · (intro wx hSw; go_simp; try with_reducible rfl)
            try simp only [Act.put, List.setIfInBounds_toArray, List.set_cons_zero, List.set_cons_succ]
            refine wpAnyH_take (i := 2) (v := ?_) (pickS (pickS pick0)) (by kernel_rfl) (by kernel_rfl) (by kernel_rfl) (fun _ _ _ h => h) (Or.inl ⟨by rfl, ?_⟩) (by assumption) ?_
            rotate_left 1
            · (intro wx hSw; go_simp; try with_reducible rfl)
            try simp only [Act.put, List.setIfInBounds_toArray, List.set_cons_zero, List.set_cons_succ]
            refine wpAnyH_take (i := 3) (v := ?_) (pickS (pickS (pickS pick0))) (by kernel_rfl) (by kernel_rfl) (by kernel_rfl) (fun _ _ _ h => h) (Or.inl ⟨by rfl, ?_⟩) (by assumption) ?_
            rotate_left 1
            · (intro wx hSw; have c0 := hSw.cell HD8.out (fun e => HRG.out.2 e.symm); go_simp; try with_reducible rfl)
            try simp only [Act.put, List.setIfInBounds_toArray, List.set_cons_zero, List.set_cons_succ]
            refine wpAnyH_take (i := 4) (v := ?_) (pickS (pickS (pickS (pickS pick0)))) (by kernel_rfl) (by kernel_rfl) (by kernel_rfl) (fun _ _ _ h => h) (Or.inl ⟨by rfl, ?_⟩) (by assumption) ?_
            rotate_left 1
            · (intro wx hSw; obtain ⟨s0, s1, s2, s3, s4, s5⟩ := row6 (hSw.heap HB8.out (fun e => by have := HRG.out.1; omega)); go_simp; try with_reducible rfl)
            try simp only [Act.put, List.setIfInBounds_toArray, List.set_cons_zero, List.set_cons_succ]
            refine wpAnyH_take (i := 5) (v := ?_) (pickS (pickS (pickS (pickS (pickS pick0))))) (by kernel_rfl) (by kernel_rfl) (by kernel_rfl) (fun _ _ _ h => h) (Or.inl ⟨by rfl, ?_⟩) (by assumption) ?_
            rotate_left 1
            · (intro wx hSw; obtain ⟨⟨z0, z1, z2, z3, z4, z5, z6, z7, z8, z9, z10⟩, -⟩ := row11c (hSw.heap HZ8.out (fun e => by have := HRG.out.1; omega)); go_simp; try with_reducible rfl)
            try simp only [Act.put, List.setIfInBounds_toArray, List.set_cons_zero, List.set_cons_succ]
            refine wpAnyH_ready (rs := [6]) (by kernel_rfl) (by simp) ?_
            refine AllReadyH.cons (pickS (pickS (pickS (pickS (pickS (pickS pick0)))))) (fun K hK => ?_) AllReadyH.nil
            go_simp
            refine (c_copied (ok := ok) (x := x) HKV.out).mono ?_
            rintro e w6 ⟨cs6, rfl, hcp, hc6⟩
            have HC6 : Hid (Chg (fun b => b = r) wc w6) := ((Chg.refl _ wc).drew).thenNew hc6
            have HM6 := Lib.hid ((HM8.out.map.keep ((Chg.refl nob wc).drew) (not_nob _)).keep hc6 (not_nob _))
            have HCP := Lib.hid hcp.K
            clear hcp hc6
            go_wp2_with fail
            refine hK.out _ _ (HC6.out) (fun hHeld => ?_)
            clear hK K
            try simp only [Act.put, List.setIfInBounds_toArray, List.set_cons_zero, List.set_cons_succ]
            refine wpAnyH_ready (rs := [7]) (by kernel_rfl) (by simp) ?_
            refine AllReadyH.cons (pickS (pickS (pickS (pickS (pickS (pickS (pickS pick0))))))) (fun K hK => ?_) AllReadyH.nil
            refine step_updQ rfl (.tmp 67) (.tmp 68) (.tmp 70) rfl rfl rfl cs6 rfl HM6.out ?_
            intro w7 hM7 hc7 hs7
            have HC7 : Hid (Chg (fun b => b = r) wc w7) := HC6.out.trans hc7 (fun i hi => .inl hi)
            have HEND : Hid (PutPost w w7 own av c (putA l q x)) := by
              have hks := HKS.out
              have hlk : (putA l q x).length = ks.length := by rw [← hks, List.length_map]
              have hcr1 := HRG.out.1
              refine ⟨own1, ⟨r, O8, oc8, putQ m q cs6, ?_, HM8.out.sub _ o1, HM8.out.sub _ o2, hcr, hM7, ?_, ?_, ?_⟩, HM8.out.chg.trans HC7.out (fun i hi => .inl (by rw [show i = r from hi]; exact o2)), fun b hb => Nat.lt_of_lt_of_le (HM8.out.lt b hb) HC7.out.size, HM8.out.sub, HM8.out.sup⟩
              · rw [hlk]; exact HC7.out.heap HH8.out hcr
              · refine Ents.put ?_ (HM8.out.ents.imp (fun a cs hk => ansK.mono (fun b hb => hb.1) (Kd.chg hk HC7.out (fun b hb e => hb.1 (.inl (by rw [show b = r from e]; exact HM8.out.sub _ o2))))))
                refine ansK.mono (fun b hb h1 => ?_) (Kd.chg HCP.out hc7 (fun b hb e => ?_))
                · rcases h1 with h1 | h1
                  · rcases hb with ⟨hb, hl⟩ | hb
                    · have h2 := HDIS.out b hb
                      rcases HM8.out.sup b h1 with h3 | h3
                      · exact h2.1 (.inl h3)
                      · omega
                    · have h2 := HM8.out.lt b h1
                      have h3 : wc.drew.heap.size = wc.heap.size := rfl
                      omega
                  · rcases hb with ⟨hb, hl⟩ | hb
                    · exact (HDIS.out b hb).1 (.inr h1)
                    · have h2 := HAV.out b h1
                      have h3 : wc.drew.heap.size = wc.heap.size := rfl
                      have h4 := HM8.out.chg.size
                      omega
                · have h2 : b = r := e
                  rcases hb with ⟨hb, hl⟩ | hb
                  · exact (HDIS.out b hb).1 (.inl (by rw [h2]; exact o2))
                  · have h3 := HM8.out.lt r (HM8.out.sub _ o2)
                    have h4 : wc.drew.heap.size = wc.heap.size := rfl
                    omega
              · rw [hks, hlk]; exact Kd.R_chg HR8.out HC7.out (fun b hb e => (HO8.out b hb.symm).2.2 e)
              · intro k hk; rw [hlk] at hk; exact HO8.out k hk
            clear hM7 hc7 hs7
            refine hK.out _ _ (HC7.out) (fun hHeld => ?_)
            clear hK K
            try simp only [Act.put, List.setIfInBounds_toArray, List.set_cons_zero, List.set_cons_succ]
            refine wpAnyH_done (by kernel_rfl) ?_ _
            go_wp2
            go_ret
            unfold putL
            rw [HF.out]
            exact ⟨rfl, HEND.out⟩
    · have c1 : (x.1 != q.1) = true := by simpa using hkd
      have HF : Hid (putOk l q x = false) := putOk_kind hkd
      clear hkd
      go_wp2
      go_ret
      unfold putL
      rw [HF.out]
      exact ⟨rfl, PutPost.same HST.out HOWN.out HC2.out⟩
end Go.Proofs.Ytcibdcahcpcmaaa
