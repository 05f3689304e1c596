/- The reference's cache: what it is in memory, and what its find and Get leave. -/
import Derived.Test.YtkclceghhebfaaaCachePut
namespace Go.Proofs.Ytkclceghhebfaaa
open Go.RowKit
set_option linter.unusedVariables false
set_option linter.unusedSimpArgs false
theorem place_hit {q : Qry} {c : Array Value} : ∀ (m : QMap) (i j : Nat), m[j]? = some (q, c) → (∀ k, k < j → ∀ p, m[k]? = some p → p.1 ≠ q) → placeQ m q i = some (i + j, c)
  | [], i, j, h, _ => by simp at h
  | (p, d) :: m, i, 0, h, _ => by
    simp only [List.getElem?_cons_zero, Option.some.injEq, Prod.mk.injEq] at h
    obtain ⟨rfl, rfl⟩ := h
    unfold placeQ
    rw [if_pos (qEq_self _)]
    rfl
  | (p, d) :: m, i, j + 1, h, hn => by
    have hp := hn 0 (by omega) (p, d) rfl
    unfold placeQ
    rw [if_neg (fun e => hp (qEq_iff.1 e).symm), place_hit m (i + 1) j (by simpa using h) (fun k hk p' hp' => hn (k + 1) (by omega) p' (by simpa using hp'))]
    rw [show i + 1 + j = i + (j + 1) from by omega]
theorem place_miss {q : Qry} : ∀ (m : QMap) (i : Nat), (∀ (k : Nat) (p : Qry × Array Value), m[k]? = some p → p.1 ≠ q) → placeQ m q i = none
  | [], i, _ => rfl
  | (p, d) :: m, i, hn => by
    have hp := hn 0 (p, d) rfl
    unfold placeQ
    rw [if_neg (fun e => hp (qEq_iff.1 e).symm), place_miss m (i + 1) (fun k p' hp' => hn (k + 1) p' (by simpa using hp'))]
/-- The eleven cells of an answer, as they are. -/
def rawK : Kd (Array Value) where
  sz := 11
  pos := by decide
  K := fun _ _ x cs => cs = x.toList ∧ x.size = 11 ∧ ∀ u ∈ cs, u.oneCell' = true
  len := fun h => by rw [h.1]; simpa using h.2.1
  one := fun h => h.2.2
  mono := fun _ h => h
  bound := fun h => h
  move := fun _ h => h
theorem raw_flat : rawK.Flat := fun h => h
theorem raw_of {w w' : World} {ok ok' : Nat → Prop} {x : Ans} {cs : Array Value} (h : ansK.K w ok x cs.toList) : rawK.K w' ok' cs cs.toList :=
  ⟨rfl, by have h2 := ansK.len h; rw [Array.length_toList] at h2; exact h2, ansK.one h⟩
theorem raw_info : (Try.prog.info? 32).map (fun i => (i.zero, i.size, i.bytes)) = some (some (.agg ansZ), rawK.sz, 192) := by kernel_rfl
/-- Two rows, and the struct that holds them. -/
structure RRow (w : World) (rown : Nat → Prop) (g : Nat) (ks : List Qry) (rs : List (Array Value)) : Prop where
  ex : ∃ OQ cq OA ca, w.heap[g]? = some (.cells #[.slice OQ ks.length cq, .slice OA rs.length ca] 61 (0, 0)) ∧
    qryK.R 34 w 0 (fun k => some k = (Value.slice OQ ks.length cq).ownBlock) (.slice OQ ks.length cq) ks ∧
    rawK.R 32 w 0 (fun k => some k = (Value.slice OA rs.length ca).ownBlock) (.slice OA rs.length ca) rs ∧
    (∀ k, (Value.slice OQ ks.length cq).ownBlock = some k → rown k ∧ k ≠ g) ∧ (∀ k, (Value.slice OA rs.length ca).ownBlock = some k → rown k ∧ k ≠ g ∧ (Value.slice OQ ks.length cq).ownBlock ≠ some k)
  g : rown g
theorem RRow.chg {w w' : World} {rown S : Nat → Prop} {g : Nat} {ks : List Qry} {rs : List (Array Value)} (h : RRow w rown g ks rs) (hc : Chg S w w') (hS : ∀ b, rown b → ¬ S b) : RRow w' rown g ks rs := by
  obtain ⟨⟨OQ, cq, OA, ca, h1, h2, h3, h4, h5⟩, hg⟩ := h
  exact ⟨⟨OQ, cq, OA, ca, hc.heap h1 (hS g hg), Kd.R_chg h2 hc (fun k hk => hS k (h4 k hk.symm).1), Kd.R_chg h3 hc (fun k hk => hS k (h5 k hk.symm).1), h4, h5⟩, hg⟩
structure RSt (w : World) (rown okl : Nat → Prop) (g : Nat) (m : QMap) (l : Known) : Prop where
  row : RRow w rown g (m.map Prod.fst) (m.map Prod.snd)
  ents : Ents w okl m l
theorem RSt.chg {w w' : World} {rown okl S : Nat → Prop} {g : Nat} {m : QMap} {l : Known} (h : RSt w rown okl g m l) (hc : Chg S w w') (hS : ∀ b, rown b → ¬ S b) (hO : ∀ b, okl b → ¬ S b) : RSt w' rown okl g m l :=
  ⟨h.row.chg hc hS, h.ents.imp (fun a cs hk => Kd.chg hk hc hO)⟩
theorem RSt.new {w w' : World} {rown okl : Nat → Prop} {g : Nat} {m : QMap} {l : Known} (h : RSt w rown okl g m l) (hc : Chg nob w w') : RSt w' rown okl g m l := h.chg hc (fun b _ => not_nob b) (fun b _ => not_nob b)
/-- What is known, and its cells, at a place. -/
theorem rf_pair {w : World} {ok : Nat → Prop} {m : QMap} {l : Known} (h : Ents w ok m l) {q : Qry} {j : Nat} {c : Array Value} (hp : placeQ m q 0 = some (j, c)) : ∃ a, seekA l q = some a ∧ ansK.K w ok a c.toList ∧ m[j]? = some (q, c) := by
  have h1 := placeQ_seek m q 0
  rw [hp] at h1
  obtain ⟨_, h2, _⟩ := placeQ_at hp
  rcases h.seek (q := q) with ⟨h3, _⟩ | ⟨c', a, h3, h4, h5⟩
  · rw [h3] at h1; cases h1
  · rw [h3] at h1
    have : c = c' := Option.some.inj h1
    subst this
    exact ⟨a, h4, h5, by simpa using h2⟩
theorem rf_nopair {w : World} {ok : Nat → Prop} {m : QMap} {l : Known} (h : Ents w ok m l) {q : Qry} (hp : placeQ m q 0 = none) : seekA l q = none := by
  have h1 := placeQ_seek m q 0
  rw [hp] at h1
  rcases h.seek (q := q) with ⟨_, h3⟩ | ⟨c', a, h3, h4, h5⟩
  · exact h3
  · rw [h3] at h1; cases h1
def FindPost (m : QMap) (q : Qry) (e : Ending) : Prop := (∃ (j : Nat) (c : Array Value), e = .returned (.int .i64 j) ∧ placeQ m q 0 = some (j, c)) ∨ (e = .returned (.int .i64 (-1)) ∧ placeQ m q 0 = none)
set_option maxRecDepth 100000 in
set_option maxHeartbeats 4000000 in
theorem rf_find {w : World} {rown : Nat → Prop} {g : Nat} {m : QMap} (h : RRow w rown g (m.map Prod.fst) (m.map Prod.snd)) (hl : m.length ≤ 1000) (q : Qry) :
    Calls Try.prog 26 #[.pointer (some ⟨g, 0, none⟩), .agg (qryV q)] w fun e w' => FindPost m q e ∧ Chg nob w w' := by
  obtain ⟨⟨OQ, cq, OA, ca, h1, h2, -, -, -⟩, -⟩ := h
  obtain ⟨n, hn⟩ : ∃ n, m.length = n := ⟨_, rfl⟩
  rw [List.length_map, hn] at h1 h2
  rw [hn] at hl
  have hb := heap_alloc_new w (.cells (qryV q) 34)
  have hc : Chg nob w (w.alloc (.cells (qryV q) 34)) := (Chg.refl nob w).alloc _
  unfold qryV at *
  obtain ⟨w1, hw1⟩ : ∃ w1, w.alloc (.cells #[.int .i64 q.1, .int .i64 q.2.1, .string q.2.2.1, .string q.2.2.2.1, .string q.2.2.2.2.1, .bool q.2.2.2.2.2] 34) = w1 := ⟨_, rfl⟩
  rw [hw1] at hb hc
  have HB := Lib.hid hb
  have HC := Lib.hid hc
  have HH := Lib.hid (hc.heap h1 (not_nob _))
  have HQ := Lib.hid (Kd.C_new (Kd.R_read h2).1 hc)
  have HN := Lib.hid hn
  clear hb hc h1 h2 hn
  go_enter Try.func26, Try.ntmps26
  go_wp2
  go_loopw [5] (fun i wr => ∃ j : Nat, j ≤ n ∧ i = .int .i64 j ∧ Hid (∀ k, k < j → ∀ p, m[k]? = some p → p.1 ≠ q) ∧ Hid (Chg nob w1 wr)) (fun i _ => n - (intOf i).toNat)
  case atStart => exact ⟨0, Nat.zero_le _, rfl, fun k hk => by omega, Chg.refl _ _⟩
  case round =>
    obtain ⟨j, hj, rfl, HA, HR⟩ := hrel
    obtain ⟨d0, d1, -⟩ := row2 (HR.out.heap HH.out (not_nob _))
    by_cases hlt : j < n
    · have b1 : (j : Int) < (n : Int) := by omega
      have b2 : (0 : Int) ≤ (j : Int) := by omega
      obtain ⟨⟨p, cp⟩, hp⟩ : ∃ p, m[j]? = some p := ⟨_, List.getElem?_eq_getElem (by rw [HN.out]; exact hlt)⟩
      have hp1 : (m.map Prod.fst)[j]? = some p := by rw [List.getElem?_map, hp]; rfl
      obtain ⟨b, o, c, rfl, _, hk, hcell⟩ := Kd.C_at' (Kd.C_new HQ.out HR.out) hp1
      have hk' := qry_cells hk
      subst hk'
      have e0 : wr.cell? ⟨b, o + j * 6, none⟩ = some (.int .i64 p.1) := hcell 0 _ rfl
      have e1 : wr.cell? ⟨b, o + j * 6 + 1, none⟩ = some (.int .i64 p.2.1) := hcell 1 _ rfl
      have e2 : wr.cell? ⟨b, o + j * 6 + 2, none⟩ = some (.string p.2.2.1) := hcell 2 _ rfl
      have e3 : wr.cell? ⟨b, o + j * 6 + 3, none⟩ = some (.string p.2.2.2.1) := hcell 3 _ rfl
      have e4 : wr.cell? ⟨b, o + j * 6 + 4, none⟩ = some (.string p.2.2.2.2.1) := hcell 4 _ rfl
      have e5 : wr.cell? ⟨b, o + j * 6 + 5, none⟩ = some (.bool p.2.2.2.2.2) := hcell 5 _ rfl
      obtain ⟨s0, s1, s2, s3, s4, s5⟩ := row6 (HR.out.heap HB.out (not_nob _))
      have hq := fun wx => eqlQry p q wx
      unfold qryV at hq
      obtain ⟨bq, hbq⟩ : ∃ bq, qEq p q = bq := ⟨_, rfl⟩
      rw [hbq] at hq
      have HBQ := Lib.hid hbq
      have HP := Lib.hid hp
      clear hp hp1 hcell hk hbq
      go_wp2
      go_quiet (fail)
      cases bq with
      | true =>
        go_wp2
        go_ret
        have hpq := qEq_iff.1 HBQ.out
        subst hpq
        refine ⟨.inl ⟨j, cp, rfl, ?_⟩, HC.out.thenNew (HR.out.drewN _)⟩
        have := place_hit m 0 j HP.out HA.out
        rwa [Nat.zero_add] at this
      | false =>
        go_wp2
        refine ⟨⟨j + 1, by omega, by go_num, fun k hk p' hp' => ?_, HR.out.drewN _⟩, by simp [intOf]; omega⟩
        by_cases hkj : k = j
        · subst hkj
          rw [HP.out] at hp'
          cases hp'
          intro e
          have := HBQ.out
          rw [qEq_iff.2 e] at this
          cases this
        · exact HA.out k (by omega) p' hp'
    · obtain rfl : j = n := by omega
      have b1 : ¬ (j : Int) < (j : Int) := by omega
      go_wp2
      go_ret
      refine ⟨.inr ⟨rfl, place_miss m 0 (fun k p hp => HA.out k ?_ p hp)⟩, HC.out.thenNew HR.out⟩
      rw [← HN.out]
      exact (List.getElem?_eq_some_iff.1 hp).1
#print axioms rf_find
end Go.Proofs.Ytkclceghhebfaaa
