import Derived.Test.YtcibdcahcpcmaaaFold43
/- The reference's cache: what it is in memory, and what its find and Get leave. -/
namespace Go.Proofs.Ytcibdcahcpcmaaa
open Go.RowKit
set_option linter.unusedVariables false
set_option linter.unusedSimpArgs false
theorem place_hit {q : Qry} {c : Array Value} : ∀ (m : QMap) (i j : Nat), m[j]? = some (q, c) → (∀ k, k < j → ∀ p, m[k]? = some p → p.1 ≠ q) → placeQ m q i = some (i + j, c)
  | [], i, j, h, _ => by simp at h
  | (p, d) :: m, i, 0, h, _ => by
    simp only [List.getElem?_cons_zero, Option.some.injEq, Prod.mk.injEq] at h
    obtain ⟨rfl, rfl⟩ := h
    unfold placeQ
    rw [if_pos (qEq_self _)]
    rfl
  | (p, d) :: m, i, j + 1, h, hn => by
    have hp := hn 0 (by omega) (p, d) rfl
    unfold placeQ
    rw [if_neg (fun e => hp (qEq_iff.1 e).symm), place_hit m (i + 1) j (by simpa using h) (fun k hk p' hp' => hn (k + 1) (by omega) p' (by simpa using hp'))]
    rw [show i + 1 + j = i + (j + 1) from by omega]
theorem place_miss {q : Qry} : ∀ (m : QMap) (i : Nat), (∀ (k : Nat) (p : Qry × Array Value), m[k]? = some p → p.1 ≠ q) → placeQ m q i = none
  | [], i, _ => rfl
  | (p, d) :: m, i, hn => by
    have hp := hn 0 (p, d) rfl
    unfold placeQ
    rw [if_neg (fun e => hp (qEq_iff.1 e).symm), place_miss m (i + 1) (fun k p' hp' => hn (k + 1) p' (by simpa using hp'))]
/-- The eleven cells of an answer, as they are. -/
def rawK : Kd (Array Value) where
  sz := 11
  pos := by decide
  K := fun _ _ x cs => cs = x.toList ∧ x.size = 11 ∧ ∀ u ∈ cs, u.oneCell' = true
  len := fun h => by rw [h.1]; simpa using h.2.1
  one := fun h => h.2.2
  mono := fun _ h => h
  bound := fun h => h
  move := fun _ h => h
theorem raw_flat : rawK.Flat := fun h => h
theorem raw_of {w w' : World} {ok ok' : Nat → Prop} {x : Ans} {cs : Array Value} (h : ansK.K w ok x cs.toList) : rawK.K w' ok' cs cs.toList :=
  ⟨rfl, by have h2 := ansK.len h; rw [Array.length_toList] at h2; exact h2, ansK.one h⟩
theorem raw_info : (Try.prog.info? 57).map (fun i => (i.zero, i.size, i.bytes)) = some (some (.agg ansZ), rawK.sz, 192) := by kernel_rfl
/-- Two rows, and the struct that holds them. -/
structure RRow (w : World) (rown : Nat → Prop) (g : Nat) (ks : List Qry) (rs : List (Array Value)) : Prop where
  ex : ∃ OQ cq OA ca, w.heap[g]? = some (.cells #[.slice OQ ks.length cq, .slice OA rs.length ca] 68 (0, 0)) ∧
    qryK.R 61 w 0 (fun k => some k = (Value.slice OQ ks.length cq).ownBlock) (.slice OQ ks.length cq) ks ∧
    rawK.R 57 w 0 (fun k => some k = (Value.slice OA rs.length ca).ownBlock) (.slice OA rs.length ca) rs ∧
    (∀ k, (Value.slice OQ ks.length cq).ownBlock = some k → rown k ∧ k ≠ g) ∧ (∀ k, (Value.slice OA rs.length ca).ownBlock = some k → rown k ∧ k ≠ g ∧ (Value.slice OQ ks.length cq).ownBlock ≠ some k)
  g : rown g
theorem RRow.chg {w w' : World} {rown S : Nat → Prop} {g : Nat} {ks : List Qry} {rs : List (Array Value)} (h : RRow w rown g ks rs) (hc : Chg S w w') (hS : ∀ b, rown b → ¬ S b) : RRow w' rown g ks rs := by
  obtain ⟨⟨OQ, cq, OA, ca, h1, h2, h3, h4, h5⟩, hg⟩ := h
  exact ⟨⟨OQ, cq, OA, ca, hc.heap h1 (hS g hg), Kd.R_chg h2 hc (fun k hk => hS k (h4 k hk.symm).1), Kd.R_chg h3 hc (fun k hk => hS k (h5 k hk.symm).1), h4, h5⟩, hg⟩
structure RSt (w : World) (rown okl : Nat → Prop) (g : Nat) (m : QMap) (l : Known) : Prop where
  row : RRow w rown g (m.map Prod.fst) (m.map Prod.snd)
  ents : Ents w okl m l
theorem RSt.chg {w w' : World} {rown okl S : Nat → Prop} {g : Nat} {m : QMap} {l : Known} (h : RSt w rown okl g m l) (hc : Chg S w w') (hS : ∀ b, rown b → ¬ S b) (hO : ∀ b, okl b → ¬ S b) : RSt w' rown okl g m l :=
  ⟨h.row.chg hc hS, h.ents.imp (fun a cs hk => Kd.chg hk hc hO)⟩
theorem RSt.new {w w' : World} {rown okl : Nat → Prop} {g : Nat} {m : QMap} {l : Known} (h : RSt w rown okl g m l) (hc : Chg nob w w') : RSt w' rown okl g m l := h.chg hc (fun b _ => not_nob b) (fun b _ => not_nob b)
/-- What is known, and its cells, at a place. -/
theorem rf_pair {w : World} {ok : Nat → Prop} {m : QMap} {l : Known} (h : Ents w ok m l) {q : Qry} {j : Nat} {c : Array Value} (hp : placeQ m q 0 = some (j, c)) : ∃ a, seekA l q = some a ∧ ansK.K w ok a c.toList ∧ m[j]? = some (q, c) := by
  have h1 := placeQ_seek m q 0
  rw [hp] at h1
  obtain ⟨_, h2, _⟩ := placeQ_at hp
  rcases h.seek (q := q) with ⟨h3, _⟩ | ⟨c', a, h3, h4, h5⟩
  · rw [h3] at h1; cases h1
  · rw [h3] at h1
    have : c = c' := Option.some.inj h1
    subst this
    exact ⟨a, h4, h5, by simpa using h2⟩
theorem rf_nopair {w : World} {ok : Nat → Prop} {m : QMap} {l : Known} (h : Ents w ok m l) {q : Qry} (hp : placeQ m q 0 = none) : seekA l q = none := by
  have h1 := placeQ_seek m q 0
  rw [hp] at h1
  rcases h.seek (q := q) with ⟨_, h3⟩ | ⟨c', a, h3, h4, h5⟩
  · exact h3
  · rw [h3] at h1; cases h1
def FindPost (m : QMap) (q : Qry) (e : Ending) : Prop := (∃ (j : Nat) (c : Array Value), e = .returned (.int .i64 j) ∧ placeQ m q 0 = some (j, c)) ∨ (e = .returned (.int .i64 (-1)) ∧ placeQ m q 0 = none)
set_option maxRecDepth 100000 in
set_option maxHeartbeats 4000000 in
theorem rf_find {w : World} {rown : Nat → Prop} {g : Nat} {m : QMap} (h : RRow w rown g (m.map Prod.fst) (m.map Prod.snd)) (hl : m.length ≤ 1000) (q : Qry) :
    Calls Try.prog 26 #[.pointer (some ⟨g, 0, none⟩), .agg (qryV q)] w fun e w' => FindPost m q e ∧ Chg nob w w' := by
  obtain ⟨⟨OQ, cq, OA, ca, h1, h2, -, -, -⟩, -⟩ := h
  obtain ⟨n, hn⟩ : ∃ n, m.length = n := ⟨_, rfl⟩
  rw [List.length_map, hn] at h1 h2
  rw [hn] at hl
  have hb := heap_alloc_new w (.cells (qryV q) 61)
  have hc : Chg nob w (w.alloc (.cells (qryV q) 61)) := (Chg.refl nob w).alloc _
  unfold qryV at *
  obtain ⟨w1, hw1⟩ : ∃ w1, w.alloc (.cells #[.int .i64 q.1, .int .i64 q.2.1, .string q.2.2.1, .string q.2.2.2.1, .string q.2.2.2.2.1, .bool q.2.2.2.2.2] 61) = w1 := ⟨_, rfl⟩
  rw [hw1] at hb hc
  have HB := Lib.hid hb
  have HC := Lib.hid hc
  have HH := Lib.hid (hc.heap h1 (not_nob _))
  have HQ := Lib.hid (Kd.C_new (Kd.R_read h2).1 hc)
  have HN := Lib.hid hn
  clear hb hc h1 h2 hn
  go_enter Try.func26, Try.ntmps26
  go_wp2
  go_loopw [5] (fun i wr => ∃ j : Nat, j ≤ n ∧ i = .int .i64 j ∧ Hid (∀ k, k < j → ∀ p, m[k]? = some p → p.1 ≠ q) ∧ Hid (Chg nob w1 wr)) (fun i _ => n - (intOf i).toNat)
  case atStart => exact ⟨0, Nat.zero_le _, rfl, fun k hk => by omega, Chg.refl _ _⟩
  case round =>
    obtain ⟨j, hj, rfl, HA, HR⟩ := hrel
    obtain ⟨d0, d1, -⟩ := row2 (HR.out.heap HH.out (not_nob _))
    by_cases hlt : j < n
    · have b1 : (j : Int) < (n : Int) := by omega
      have b2 : (0 : Int) ≤ (j : Int) := by omega
      obtain ⟨⟨p, cp⟩, hp⟩ : ∃ p, m[j]? = some p := ⟨_, List.getElem?_eq_getElem (by rw [HN.out]; exact hlt)⟩
      have hp1 : (m.map Prod.fst)[j]? = some p := by rw [List.getElem?_map, hp]; rfl
      obtain ⟨b, o, c, rfl, _, hk, hcell⟩ := Kd.C_at' (Kd.C_new HQ.out HR.out) hp1
      have hk' := qry_cells hk
      subst hk'
      have e0 : wr.cell? ⟨b, o + j * 6, none⟩ = some (.int .i64 p.1) := hcell 0 _ rfl
      have e1 : wr.cell? ⟨b, o + j * 6 + 1, none⟩ = some (.int .i64 p.2.1) := hcell 1 _ rfl
      have e2 : wr.cell? ⟨b, o + j * 6 + 2, none⟩ = some (.string p.2.2.1) := hcell 2 _ rfl
      have e3 : wr.cell? ⟨b, o + j * 6 + 3, none⟩ = some (.string p.2.2.2.1) := hcell 3 _ rfl
      have e4 : wr.cell? ⟨b, o + j * 6 + 4, none⟩ = some (.string p.2.2.2.2.1) := hcell 4 _ rfl
      have e5 : wr.cell? ⟨b, o + j * 6 + 5, none⟩ = some (.bool p.2.2.2.2.2) := hcell 5 _ rfl
      obtain ⟨s0, s1, s2, s3, s4, s5⟩ := row6 (HR.out.heap HB.out (not_nob _))
      have hq := fun wx => eqlQry p q wx
      unfold qryV at hq
      obtain ⟨bq, hbq⟩ : ∃ bq, qEq p q = bq := ⟨_, rfl⟩
      rw [hbq] at hq
      have HBQ := Lib.hid hbq
      have HP := Lib.hid hp
      clear hp hp1 hcell hk hbq
      go_wp2
      go_quiet (fail)
      cases bq with
      | true =>
        go_wp2
        go_ret
        have hpq := qEq_iff.1 HBQ.out
        subst hpq
        refine ⟨.inl ⟨j, cp, rfl, ?_⟩, HC.out.thenNew (HR.out.drewN _)⟩
        have := place_hit m 0 j HP.out HA.out
        rwa [Nat.zero_add] at this
      | false =>
        go_wp2
        refine ⟨⟨j + 1, by omega, by go_num, fun k hk p' hp' => ?_, HR.out.drewN _⟩, by simp [intOf]; omega⟩
        by_cases hkj : k = j
        · subst hkj
          rw [HP.out] at hp'
          cases hp'
          intro e
          have := HBQ.out
          rw [qEq_iff.2 e] at this
          cases this
        · exact HA.out k (by omega) p' hp'
    · obtain rfl : j = n := by omega
      have b1 : ¬ (j : Int) < (j : Int) := by omega
      go_wp2
      go_ret
      refine ⟨.inr ⟨rfl, place_miss m 0 (fun k p hp => HA.out k ?_ p hp)⟩, HC.out.thenNew HR.out⟩
      rw [← HN.out]
      exact (List.getElem?_eq_some_iff.1 hp).1
#print axioms rf_find
end Go.Proofs.Ytcibdcahcpcmaaa

/- What a call of the reference's Get leaves. -/
namespace Go.Proofs.Ytcibdcahcpcmaaa
open Go.RowKit
set_option linter.unusedVariables false
set_option linter.unusedSimpArgs false
theorem ans_lits {w : World} {ok : Nat → Prop} {x : Ans} {cs : Array Value} (h : ansK.K w ok x cs.toList) : ∃ S nS sd K nK kd N nN nd I nI id E nE ed T nT td, cs = #[.int .i64 x.1, .int .u64 x.2.1, .bool x.2.2.1.1, .int .i64 x.2.2.1.2.1, .string x.2.2.1.2.2.1, .slice S nS sd, .slice K nK kd, .slice N nN nd, .slice I nI id, .slice E nE ed, .slice T nT td] := by
  obtain ⟨S, sd, K, kd, N, nd, I, id, E, ed, T, td, hcs, -⟩ := (ans_cells h).ex
  exact ⟨S, _, sd, K, _, kd, N, _, nd, I, _, id, E, _, ed, T, _, td, Array.toList_inj.1 (by rw [hcs])⟩
/-- An element of the row of answers, cell by cell. -/
theorem raw_at {w : World} {ok : Nat → Prop} {A : Option Addr} {rs : List (Array Value)} (h : rawK.C w ok A rs) {j : Nat} {c : Array Value} (hx : rs[j]? = some c) :
    ∃ b o, A = some ⟨b, o, none⟩ ∧ ok b ∧ ∀ i u, c[i]? = some u → w.cell? ⟨b, o + j * 11 + i, none⟩ = some u := by
  obtain ⟨b, o, cs, e, hb, hk, hc⟩ := Kd.C_at' h hx
  have hk' := hk.1
  subst hk'
  exact ⟨b, o, e, hb, fun i u hu => hc i u (by rw [Array.getElem?_toList]; exact hu)⟩
set_option maxRecDepth 100000 in
set_option maxHeartbeats 4000000 in
theorem rf_get {w : World} {rown okl : Nat → Prop} {g : Nat} {m : QMap} {l : Known} (h : RSt w rown okl g m l) (hl : m.length ≤ 1000) (hokl : ∀ b, okl b → b < w.heap.size) (q : Qry) :
    Calls Try.prog 12 #[.pointer (some ⟨g, 0, none⟩), .agg (qryV q)] w fun e w' => ∃ cs, e = .returned (.tuple #[.agg cs, .bool (seekA l q).isSome]) ∧ ansK.K w' okl ((seekA l q).getD zeroA) cs.toList ∧ Chg nob w w' := by
  have hb0 : ((w.alloc (.cells (qryV q) 61)).alloc (.cells #[.int .i64 0, .int .u64 0, .bool false, .int .i64 0, .string ⟨#[]⟩, .slice none 0 0, .slice none 0 0, .slice none 0 0, .slice none 0 0, .slice none 0 0, .slice none 0 0] 57)).heap[w.heap.size]? = some (.cells (qryV q) 61 (0, 0)) := by
    rw [Below.heap_alloc _ _ _ (by simp)]
    exact heap_alloc_new w _
  have hz0 := heap_alloc_new (w.alloc (.cells (qryV q) 61)) (.cells #[.int .i64 0, .int .u64 0, .bool false, .int .i64 0, .string ⟨#[]⟩, .slice none 0 0, .slice none 0 0, .slice none 0 0, .slice none 0 0, .slice none 0 0, .slice none 0 0] 57)
  rw [World.size_alloc] at hz0
  have hc0 : Chg nob w ((w.alloc (.cells (qryV q) 61)).alloc (.cells #[.int .i64 0, .int .u64 0, .bool false, .int .i64 0, .string ⟨#[]⟩, .slice none 0 0, .slice none 0 0, .slice none 0 0, .slice none 0 0, .slice none 0 0, .slice none 0 0] 57)) := ((Chg.refl nob w).alloc _).alloc _
  obtain ⟨u0, hu0⟩ : ∃ u : World, (w.alloc (.cells (qryV q) 61)).alloc (.cells #[.int .i64 0, .int .u64 0, .bool false, .int .i64 0, .string ⟨#[]⟩, .slice none 0 0, .slice none 0 0, .slice none 0 0, .slice none 0 0, .slice none 0 0, .slice none 0 0] 57) = u := ⟨_, rfl⟩
  rw [hu0] at hb0 hz0 hc0
  obtain ⟨gg, hg⟩ : ∃ gg, w.heap.size = gg := ⟨_, rfl⟩
  have HG := Lib.hid hg
  have HOK := Lib.hid hokl
  rw [hg] at hb0 hz0
  have HB0 := Lib.hid hb0
  have HZ0 := Lib.hid hz0
  have HC0 := Lib.hid hc0
  have HST := Lib.hid (h.new hc0)
  obtain ⟨s0, s1, s2, s3, s4, s5⟩ := row6 hb0
  clear h hb0 hz0 hc0 hokl
  go_enter Try.func12, Try.ntmps12
  go_wp2_with fail
  have hu0' := hu0
  unfold qryV at hu0'
  first | rw [hu0] | rw [hu0'] | skip
  refine (rf_find HST.out.row hl q).mono ?_
  rintro e w1 ⟨hp, hc1⟩
  have HC1 := Lib.hid hc1
  have HST1 := Lib.hid (HST.out.new hc1)
  have hz1 := hc1.heap HZ0.out (not_nob _)
  have HZ1 := Lib.hid hz1
  clear hc1 s0 s1 s2 s3 s4 s5
  rcases hp with ⟨j, c, rfl, hp⟩ | ⟨rfl, hp⟩
  · obtain ⟨a, ha, hka, hm⟩ := rf_pair HST1.out.ents hp
    obtain ⟨S, nS, sd, K, nK, kd, N, nN, nd, I, nI, id, E, nE, ed, T, nT, td, hlit⟩ := ans_lits hka
    subst hlit
    obtain ⟨⟨OQ, cq, OA, ca, r1, r2, r3, -, -⟩, -⟩ := HST1.out.row
    have hj : j < m.length := (List.getElem?_eq_some_iff.1 hm).1
    have hms : (m.map Prod.snd)[j]? = some #[.int .i64 a.1, .int .u64 a.2.1, .bool a.2.2.1.1, .int .i64 a.2.2.1.2.1, .string a.2.2.1.2.2.1, .slice S nS sd, .slice K nK kd, .slice N nN nd, .slice I nI id, .slice E nE ed, .slice T nT td] := by rw [List.getElem?_map, hm]; rfl
    obtain ⟨rb, ro, rfl, _, hcell⟩ := raw_at (Kd.R_read r3).1 hms
    obtain ⟨n, hn⟩ : ∃ n, m.length = n := ⟨_, rfl⟩
    rw [List.length_map, List.length_map, hn] at r1
    rw [hn] at hj hl
    have e0 : w1.cell? ⟨rb, ro + j * 11, none⟩ = some (.int .i64 a.1) := hcell 0 _ rfl
    have e1 : w1.cell? ⟨rb, ro + j * 11 + 1, none⟩ = some (.int .u64 a.2.1) := hcell 1 _ rfl
    have e2 : w1.cell? ⟨rb, ro + j * 11 + 2, none⟩ = some (.bool a.2.2.1.1) := hcell 2 _ rfl
    have e3 : w1.cell? ⟨rb, ro + j * 11 + 3, none⟩ = some (.int .i64 a.2.2.1.2.1) := hcell 3 _ rfl
    have e4 : w1.cell? ⟨rb, ro + j * 11 + 4, none⟩ = some (.string a.2.2.1.2.2.1) := hcell 4 _ rfl
    have e5 : w1.cell? ⟨rb, ro + j * 11 + 5, none⟩ = some (.slice S nS sd) := hcell 5 _ rfl
    have e6 : w1.cell? ⟨rb, ro + j * 11 + 6, none⟩ = some (.slice K nK kd) := hcell 6 _ rfl
    have e7 : w1.cell? ⟨rb, ro + j * 11 + 7, none⟩ = some (.slice N nN nd) := hcell 7 _ rfl
    have e8 : w1.cell? ⟨rb, ro + j * 11 + 8, none⟩ = some (.slice I nI id) := hcell 8 _ rfl
    have e9 : w1.cell? ⟨rb, ro + j * 11 + 9, none⟩ = some (.slice E nE ed) := hcell 9 _ rfl
    have e10 : w1.cell? ⟨rb, ro + j * 11 + 10, none⟩ = some (.slice T nT td) := hcell 10 _ rfl
    obtain ⟨d0, d1, -⟩ := row2 r1
    obtain ⟨⟨z0, z1, z2, z3, z4, z5, z6, z7, z8, z9, z10⟩, zf⟩ := row11c hz1
    have y0 := zf 0
    have y1 := zf 1
    have y2 := zf 2
    have y3 := zf 3
    have y4 := zf 4
    have y5 := zf 5
    have y6 := zf 6
    have y7 := zf 7
    have y8 := zf 8
    have y9 := zf 9
    have y10 := zf 10
    have b1 : ¬ (j : Int) < 0 := by omega
    have b2 : (0 : Int) ≤ (j : Int) := by omega
    have b3 : (j : Int) < (n : Int) := by omega
    obtain ⟨hbf, hcf⟩ := set11 hz1 (.int .i64 a.1) (.int .u64 a.2.1) (.bool a.2.2.1.1) (.int .i64 a.2.2.1.2.1) (.string a.2.2.1.2.2.1) (.slice S nS sd) (.slice K nK kd) (.slice N nN nd) (.slice I nI id) (.slice E nE ed) (.slice T nT td)
    obtain ⟨wf, hwf⟩ : ∃ W, (((((((((((w1.setCell ⟨gg + 1, 0, none⟩ (.int .i64 a.1)).setCell ⟨gg + 1, 1, none⟩ (.int .u64 a.2.1)).setCell ⟨gg + 1, 2, none⟩ (.bool a.2.2.1.1)).setCell ⟨gg + 1, 3, none⟩ (.int .i64 a.2.2.1.2.1)).setCell ⟨gg + 1, 4, none⟩ (.string a.2.2.1.2.2.1)).setCell ⟨gg + 1, 5, none⟩ (.slice S nS sd)).setCell ⟨gg + 1, 6, none⟩ (.slice K nK kd)).setCell ⟨gg + 1, 7, none⟩ (.slice N nN nd)).setCell ⟨gg + 1, 8, none⟩ (.slice I nI id)).setCell ⟨gg + 1, 9, none⟩ (.slice E nE ed)).setCell ⟨gg + 1, 10, none⟩ (.slice T nT td)) = W := ⟨_, rfl⟩
    rw [hwf] at hbf hcf
    have HKA := Lib.hid hka
    have HHA := Lib.hid ha
    have HBF := Lib.hid hbf
    have HCF := Lib.hid hcf
    have HG1 : Hid (gg + 1 < w1.heap.size) := heap_lt HZ1.out
    clear hcell hms hm hka ha hp r1 r2 r3 hz1 zf hn hbf hcf
    go_wp2
    first | rw [hwf] | skip
    try simp only [Exit.inBlock, Exit.then]
    refine bodyPost_ret (results_cell_tmp_row rfl _ _ (gg + 1) _ _ (0, 0) _ rfl HBF.out Try.underlying57 rfl (by kernel_rfl)) rfl ?_
    rw [HHA.out]
    refine ⟨_, rfl, ?_, ((HC0.out.thenNew HC1.out).trans HCF.out (fun b hb => .inr (by have h1 : b = gg + 1 := hb; have := HG.out; omega)))⟩
    exact Kd.chg HKA.out HCF.out (fun b hb e => by have h1 : b = gg + 1 := e; have h2 := HOK.out b hb; have h3 := HG.out; omega)
  · have hs := rf_nopair HST1.out.ents hp
    have HS := Lib.hid hs
    obtain ⟨⟨z0, z1, z2, z3, z4, z5, z6, z7, z8, z9, z10⟩, zf⟩ := row11c hz1
    have y0 := zf 0
    have y1 := zf 1
    have y2 := zf 2
    have y3 := zf 3
    have y4 := zf 4
    have y5 := zf 5
    have y6 := zf 6
    have y7 := zf 7
    have y8 := zf 8
    have y9 := zf 9
    have y10 := zf 10
    obtain ⟨hbf, hcf⟩ := set11 hz1 (.int .i64 0) (.int .u64 0) (.bool false) (.int .i64 0) (.string ⟨#[]⟩) (.slice none 0 0) (.slice none 0 0) (.slice none 0 0) (.slice none 0 0) (.slice none 0 0) (.slice none 0 0)
    have HBF := Lib.hid hbf
    have HCF := Lib.hid hcf
    clear hp hs hz1 zf hbf hcf
    go_wp2
    try simp only [Exit.inBlock, Exit.then]
    refine bodyPost_ret (results_cell_tmp_row rfl _ _ (gg + 1) _ _ (0, 0) _ rfl HBF.out Try.underlying57 rfl (by kernel_rfl)) rfl ?_
    rw [HS.out]
    exact ⟨_, rfl, zero_K _ _, ((HC0.out.thenNew HC1.out).trans HCF.out (fun b hb => .inr (by have h1 : b = gg + 1 := hb; have := HG.out; omega)))⟩
#print axioms rf_get
end Go.Proofs.Ytcibdcahcpcmaaa
