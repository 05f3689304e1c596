import Derived.Test.YtcibdcahcpcmaaaFold44
/- What a call of the reference's Put leaves. -/
namespace Go.Proofs.Ytcibdcahcpcmaaa
open Go.RowKit
set_option linter.unusedVariables false
set_option linter.unusedSimpArgs false
theorem raw_set1 {e base n cap g j i : Nat} {w : World} {ok : Nat → Prop} {rs : List (Array Value)} {x : Array Value} {u : Value} (h : rawK.R e w base ok (.slice (some ⟨g, 0, none⟩) n cap) rs) (hx : rs[j]? = some x) (hi : i < 11) (hu : u.oneCell' = true) :
    rawK.R e (w.setCell ⟨g, j * 11 + i, none⟩ u) base ok (.slice (some ⟨g, 0, none⟩) n cap) (rs.set j (x.setIfInBounds i u)) :=
  Kd.R_setField (d := rawK) h hx hi (fun cs hcs => ⟨by rw [hcs.1, Array.toList_setIfInBounds], by rw [Array.size_setIfInBounds]; exact hcs.2.1, fun v hv => by
    rcases List.mem_or_eq_of_mem_set hv with h1 | h1
    · exact hcs.2.2 v h1
    · rw [h1]; exact hu⟩)
theorem set_at {α : Type} {l : List α} {j : Nat} {x y : α} (h : l[j]? = some x) : (l.set j y)[j]? = some y := by
  have := (List.getElem?_eq_some_iff.1 h).1
  simp [this]
/-- One element is written, cell by cell. -/
theorem raw_set11 {e base n cap g j : Nat} {w : World} {ok : Nat → Prop} {rs : List (Array Value)} {a0 a1 a2 a3 a4 a5 a6 a7 a8 a9 a10 v0 v1 v2 v3 v4 v5 v6 v7 v8 v9 v10 : Value} (h : rawK.R e w base ok (.slice (some ⟨g, 0, none⟩) n cap) rs) (hx : rs[j]? = some #[a0, a1, a2, a3, a4, a5, a6, a7, a8, a9, a10])
    (hu : ∀ u ∈ (#[v0, v1, v2, v3, v4, v5, v6, v7, v8, v9, v10] : Array Value).toList, u.oneCell' = true) :
    rawK.R e (((((((((((w.setCell ⟨g, j * 11 + 0, none⟩ v0).setCell ⟨g, j * 11 + 1, none⟩ v1).setCell ⟨g, j * 11 + 2, none⟩ v2).setCell ⟨g, j * 11 + 3, none⟩ v3).setCell ⟨g, j * 11 + 4, none⟩ v4).setCell ⟨g, j * 11 + 5, none⟩ v5).setCell ⟨g, j * 11 + 6, none⟩ v6).setCell ⟨g, j * 11 + 7, none⟩ v7).setCell ⟨g, j * 11 + 8, none⟩ v8).setCell ⟨g, j * 11 + 9, none⟩ v9).setCell ⟨g, j * 11 + 10, none⟩ v10) base ok (.slice (some ⟨g, 0, none⟩) n cap) (rs.set j #[v0, v1, v2, v3, v4, v5, v6, v7, v8, v9, v10]) := by
  have h0 := raw_set1 (i := 0) (u := v0) h hx (by decide) (hu _ (by simp))
  have h1 := raw_set1 (i := 1) (u := v1) h0 (set_at hx) (by decide) (hu _ (by simp))
  have h2 := raw_set1 (i := 2) (u := v2) h1 (set_at (set_at hx)) (by decide) (hu _ (by simp))
  have h3 := raw_set1 (i := 3) (u := v3) h2 (set_at (set_at (set_at hx))) (by decide) (hu _ (by simp))
  have h4 := raw_set1 (i := 4) (u := v4) h3 (set_at (set_at (set_at (set_at hx)))) (by decide) (hu _ (by simp))
  have h5 := raw_set1 (i := 5) (u := v5) h4 (set_at (set_at (set_at (set_at (set_at hx))))) (by decide) (hu _ (by simp))
  have h6 := raw_set1 (i := 6) (u := v6) h5 (set_at (set_at (set_at (set_at (set_at (set_at hx)))))) (by decide) (hu _ (by simp))
  have h7 := raw_set1 (i := 7) (u := v7) h6 (set_at (set_at (set_at (set_at (set_at (set_at (set_at hx))))))) (by decide) (hu _ (by simp))
  have h8 := raw_set1 (i := 8) (u := v8) h7 (set_at (set_at (set_at (set_at (set_at (set_at (set_at (set_at hx)))))))) (by decide) (hu _ (by simp))
  have h9 := raw_set1 (i := 9) (u := v9) h8 (set_at (set_at (set_at (set_at (set_at (set_at (set_at (set_at (set_at hx))))))))) (by decide) (hu _ (by simp))
  have h10 := raw_set1 (i := 10) (u := v10) h9 (set_at (set_at (set_at (set_at (set_at (set_at (set_at (set_at (set_at (set_at hx)))))))))) (by decide) (hu _ (by simp))
  simp only [List.set_set] at h10
  simpa using h10
theorem chg_set11 {w : World} {g j : Nat} (v0 v1 v2 v3 v4 v5 v6 v7 v8 v9 v10 : Value) : Chg (fun b => b = g) w (((((((((((w.setCell ⟨g, j * 11 + 0, none⟩ v0).setCell ⟨g, j * 11 + 1, none⟩ v1).setCell ⟨g, j * 11 + 2, none⟩ v2).setCell ⟨g, j * 11 + 3, none⟩ v3).setCell ⟨g, j * 11 + 4, none⟩ v4).setCell ⟨g, j * 11 + 5, none⟩ v5).setCell ⟨g, j * 11 + 6, none⟩ v6).setCell ⟨g, j * 11 + 7, none⟩ v7).setCell ⟨g, j * 11 + 8, none⟩ v8).setCell ⟨g, j * 11 + 9, none⟩ v9).setCell ⟨g, j * 11 + 10, none⟩ v10) :=
  (((((((((((Chg.refl (fun b => b = g) w).set1 _ v0).set1 _ v1).set1 _ v2).set1 _ v3).set1 _ v4).set1 _ v5).set1 _ v6).set1 _ v7).set1 _ v8).set1 _ v9).set1 _ v10
/-- What a call leaves of the rows. -/
structure RRPost (w w' : World) (rown : Nat → Prop) (g : Nat) (ks : List Qry) (rs : List (Array Value)) : Prop where
  ex : ∃ rown', RRow w' rown' g ks rs ∧ Chg rown w w' ∧ (∀ b, rown' b → b < w'.heap.size) ∧ (∀ b, rown b → rown' b) ∧ ∀ b, rown' b → rown b ∨ w.heap.size ≤ b
structure RPost (w w' : World) (rown okl : Nat → Prop) (g n : Nat) (l : Known) : Prop where
  ex : ∃ rown' m', RSt w' rown' okl g m' l ∧ m'.length ≤ n ∧ Chg rown w w' ∧ (∀ b, rown' b → b < w'.heap.size) ∧ (∀ b, rown b → rown' b) ∧ ∀ b, rown' b → rown b ∨ w.heap.size ≤ b
theorem RPost.same {w w' : World} {rown okl : Nat → Prop} {g : Nat} {m : QMap} {l : Known} (h : RSt w rown okl g m l) (hown : ∀ b, rown b → b < w.heap.size) (hc : Chg nob w w') : RPost w w' rown okl g (m.length + 1) l :=
  ⟨rown, m, h.new hc, Nat.le_succ _, hc.ofNew, fun b hb => Nat.lt_of_lt_of_le (hown b hb) hc.size, fun _ hb => hb, fun _ hb => .inl hb⟩
theorem putQ_len (m : QMap) (q : Qry) (c : Array Value) : (putQ m q c).length ≤ m.length + 1 := by
  induction m with
  | nil => simp [putQ]
  | cons a m ih =>
    obtain ⟨p, b⟩ := a
    unfold putQ
    by_cases hq : qEq q p = true
    · rw [if_pos hq]; simp
    · rw [if_neg hq]; simp only [List.length_cons]; omega
/-- One more question in the row. -/
theorem rr_appQ {w3 v vB w8 : World} {rown rown1 : Nat → Prop} {g n k cq ca c8 : Nat} {OQ OA A8 : Option Addr} {ks : List Qry} {rs : List (Array Value)} {q : Qry} (hn : ks.length = n) (hk : rs.length = k) (h1 : v.heap[g]? = some (.cells #[.slice OQ n cq, .slice OA k ca] 68 (0, 0)))
    (h3 : rawK.R 57 v 0 (fun k' => some k' = (Value.slice OA k ca).ownBlock) (.slice OA k ca) rs) (h4 : ∀ b, (Value.slice OQ n cq).ownBlock = some b → rown1 b ∧ b ≠ g) (h5 : ∀ b, (Value.slice OA k ca).ownBlock = some b → rown1 b ∧ b ≠ g ∧ (Value.slice OQ n cq).ownBlock ≠ some b) (hg : rown1 g)
    (hc : Chg rown w3 v) (hlt : ∀ b, rown1 b → b < v.heap.size) (hsub : ∀ b, rown b → rown1 b) (hsup : ∀ b, rown1 b → rown b ∨ w3.heap.size ≤ b) (hB : Chg nob v vB) (hs : v.heap.size < vB.heap.size)
    (hR8 : qryK.R 61 w8 0 (fun k' => some k' = (Value.slice A8 (n + 1) c8).ownBlock) (.slice A8 (n + 1) c8) (ks ++ [q])) (hC8 : Chg (fun k' => some k' = (Value.slice OQ n cq).ownBlock) vB w8) (hat : (Value.slice A8 (n + 1) c8).ownBlock = (Value.slice OQ n cq).ownBlock ∨ (Value.slice A8 (n + 1) c8).ownBlock = some vB.heap.size) :
    RRPost w3 (w8.setCell ⟨g, 0, none⟩ (.slice A8 (n + 1) c8)) rown g (ks ++ [q]) rs := by
  have hgl := hlt g hg
  have hlk : (ks ++ [q]).length = n + 1 := by rw [List.length_append, hn]; rfl
  have hnew : ∀ b, (Value.slice A8 (n + 1) c8).ownBlock = some b → (rown1 b ∨ v.heap.size < b) ∧ b ≠ g := by
    intro b hb
    rcases hat with h | h
    · have := h4 b (by rw [← h, hb]); exact ⟨.inl this.1, this.2⟩
    · rw [hb] at h; have := Option.some.inj h; exact ⟨.inr (by omega), by omega⟩
  have hc8 : Chg (fun k' => some k' = (Value.slice OQ n cq).ownBlock) v w8 := (hB.ofNew (S := fun k' => some k' = (Value.slice OQ n cq).ownBlock)).trans hC8 (fun i hi => .inl hi)
  have hcell : Chg (fun b => b = g) w8 (w8.setCell ⟨g, 0, none⟩ (.slice A8 (n + 1) c8)) := (Chg.refl (fun b => b = g) w8).set1 0 _
  have hcv : Chg rown1 v (w8.setCell ⟨g, 0, none⟩ (.slice A8 (n + 1) c8)) := (hc8.mono (fun i hi => .inl (h4 i hi.symm).1)).setCell (p := ⟨g, 0, none⟩) (.inl hg) _
  refine ⟨fun b => rown1 b ∨ (Value.slice A8 (n + 1) c8).ownBlock = some b, ⟨⟨A8, c8, OA, ca, ?_, ?_, ?_, ?_, ?_⟩, .inl hg⟩, ?_, ?_, fun b hb => .inl (hsub b hb), ?_⟩
  · have h2 := hc8.heap h1 (fun e => (h4 g e.symm).2 rfl)
    have := blk_set h2 0 (.slice A8 (n + 1) c8)
    rw [hlk, hk]
    simpa using this
  · rw [hlk]
    exact Kd.R_chg hR8 hcell (fun b hb e => (hnew b hb.symm).2 e)
  · rw [hk]
    exact Kd.R_chg (Kd.R_chg h3 hc8 (fun b hb e => (h5 b hb.symm).2.2 e.symm)) hcell (fun b hb e => (h5 b hb.symm).2.1 e)
  · intro b hb
    rw [hlk] at hb
    exact ⟨.inr hb, (hnew b hb).2⟩
  · intro b hb
    rw [hk] at hb
    refine ⟨.inl (h5 b hb).1, (h5 b hb).2.1, fun e => ?_⟩
    rw [hlk] at e
    rcases hat with h | h
    · exact (h5 b hb).2.2 (by rw [← h, e])
    · rw [e] at h
      have h2 := Option.some.inj h
      have h3 := hlt b (h5 b hb).1
      omega
  · exact hc.trans hcv (fun i hi => hsup i hi)
  · rintro b (hb | hb)
    · exact Nat.lt_of_lt_of_le (hlt b hb) hcv.size
    · exact Nat.lt_of_lt_of_le (Kd.R_own hR8 b hb).2 hcell.size
  · rintro b (hb | hb)
    · exact hsup b hb
    · rcases (hnew b hb).1 with h | h
      · exact hsup b h
      · exact .inr (by have := hc.size; omega)
/-- One more answer in the row. -/
theorem rr_appA {w3 v vB w8 : World} {rown rown1 : Nat → Prop} {g n k cq ca c8 : Nat} {OQ OA A8 : Option Addr} {ks : List Qry} {rs : List (Array Value)} {r : Array Value} (hn : ks.length = n) (hk : rs.length = k) (h1 : v.heap[g]? = some (.cells #[.slice OQ n cq, .slice OA k ca] 68 (0, 0)))
    (h2 : qryK.R 61 v 0 (fun k' => some k' = (Value.slice OQ n cq).ownBlock) (.slice OQ n cq) ks) (h4 : ∀ b, (Value.slice OQ n cq).ownBlock = some b → rown1 b ∧ b ≠ g) (h5 : ∀ b, (Value.slice OA k ca).ownBlock = some b → rown1 b ∧ b ≠ g ∧ (Value.slice OQ n cq).ownBlock ≠ some b) (hg : rown1 g)
    (hc : Chg rown w3 v) (hlt : ∀ b, rown1 b → b < v.heap.size) (hsub : ∀ b, rown b → rown1 b) (hsup : ∀ b, rown1 b → rown b ∨ w3.heap.size ≤ b) (hB : Chg nob v vB) (hs : v.heap.size < vB.heap.size)
    (hR8 : rawK.R 57 w8 0 (fun k' => some k' = (Value.slice A8 (k + 1) c8).ownBlock) (.slice A8 (k + 1) c8) (rs ++ [r])) (hC8 : Chg (fun k' => some k' = (Value.slice OA k ca).ownBlock) vB w8) (hat : (Value.slice A8 (k + 1) c8).ownBlock = (Value.slice OA k ca).ownBlock ∨ (Value.slice A8 (k + 1) c8).ownBlock = some vB.heap.size) :
    RRPost w3 (w8.setCell ⟨g, 1, none⟩ (.slice A8 (k + 1) c8)) rown g ks (rs ++ [r]) := by
  have hgl := hlt g hg
  have hlk : (rs ++ [r]).length = k + 1 := by rw [List.length_append, hk]; rfl
  have hnew : ∀ b, (Value.slice A8 (k + 1) c8).ownBlock = some b → (rown1 b ∨ v.heap.size < b) ∧ b ≠ g ∧ (Value.slice OQ n cq).ownBlock ≠ some b := by
    intro b hb
    rcases hat with h | h
    · have := h5 b (by rw [← h, hb]); exact ⟨.inl this.1, this.2⟩
    · rw [hb] at h
      have h7 := Option.some.inj h
      refine ⟨.inr (by omega), by omega, fun e => ?_⟩
      have h8 := hlt b (h4 b e).1
      omega
  have hc8 : Chg (fun k' => some k' = (Value.slice OA k ca).ownBlock) v w8 := (hB.ofNew (S := fun k' => some k' = (Value.slice OA k ca).ownBlock)).trans hC8 (fun i hi => .inl hi)
  have hcell : Chg (fun b => b = g) w8 (w8.setCell ⟨g, 1, none⟩ (.slice A8 (k + 1) c8)) := (Chg.refl (fun b => b = g) w8).set1 1 _
  have hcv : Chg rown1 v (w8.setCell ⟨g, 1, none⟩ (.slice A8 (k + 1) c8)) := (hc8.mono (fun i hi => .inl (h5 i hi.symm).1)).setCell (p := ⟨g, 1, none⟩) (.inl hg) _
  refine ⟨fun b => rown1 b ∨ (Value.slice A8 (k + 1) c8).ownBlock = some b, ⟨⟨OQ, cq, A8, c8, ?_, ?_, ?_, ?_, ?_⟩, .inl hg⟩, ?_, ?_, fun b hb => .inl (hsub b hb), ?_⟩
  · have h7 := hc8.heap h1 (fun e => (h5 g e.symm).2.1 rfl)
    have := blk_set h7 1 (.slice A8 (k + 1) c8)
    rw [hlk, hn]
    simpa using this
  · rw [hn]
    exact Kd.R_chg (Kd.R_chg h2 hc8 (fun b hb e => (h5 b e.symm).2.2 hb.symm)) hcell (fun b hb e => (h4 b hb.symm).2 e)
  · rw [hlk]
    exact Kd.R_chg hR8 hcell (fun b hb e => (hnew b hb.symm).2.1 e)
  · intro b hb
    rw [hn] at hb
    exact ⟨.inl (h4 b hb).1, (h4 b hb).2⟩
  · intro b hb
    rw [hlk] at hb
    exact ⟨.inr hb, (hnew b hb).2.1, fun e => (hnew b hb).2.2 (by rw [hn] at e; exact e)⟩
  · exact hc.trans hcv (fun i hi => hsup i hi)
  · rintro b (hb | hb)
    · exact Nat.lt_of_lt_of_le (hlt b hb) hcv.size
    · exact Nat.lt_of_lt_of_le (Kd.R_own hR8 b hb).2 hcell.size
  · rintro b (hb | hb)
    · exact hsup b hb
    · rcases (hnew b hb).1 with h | h
      · exact hsup b h
      · exact .inr (by have := hc.size; omega)
set_option maxRecDepth 100000 in
set_option maxHeartbeats 8000000 in
theorem rf_put {w : World} {rown okl : Nat → Prop} {g : Nat} {m : QMap} {l : Known} (h : RSt w rown okl g m l) (hown : ∀ b, rown b → b < w.heap.size) (hl : m.length ≤ 1000) (hokl : ∀ b, okl b → ¬ rown b ∧ b < w.heap.size) {x : Ans} {cs : Array Value} (hk : ansK.K w okl x cs.toList) (q : Qry) (hz : QSz q) :
    Calls Try.prog 16 #[.pointer (some ⟨g, 0, none⟩), .agg (qryV q), .agg cs] w fun e w' => e = .returned (.bool (putOk l q x)) ∧ RPost w w' rown okl g (m.length + 1) (putL l q x) := by
  obtain ⟨S0, nS0, sd0, K0, nK0, kd0, N0, nN0, nd0, I0, nI0, id0, E0, nE0, ed0, T0, nT0, td0, hlit⟩ := ans_lits hk
  subst hlit
  have hb0 : ((w.alloc (.cells (qryV q) 61)).alloc (.cells #[.int .i64 x.1, .int .u64 x.2.1, .bool x.2.2.1.1, .int .i64 x.2.2.1.2.1, .string x.2.2.1.2.2.1, .slice S0 nS0 sd0, .slice K0 nK0 kd0, .slice N0 nN0 nd0, .slice I0 nI0 id0, .slice E0 nE0 ed0, .slice T0 nT0 td0] 57)).heap[w.heap.size]? = some (.cells (qryV q) 61 (0, 0)) := by
    rw [Below.heap_alloc _ _ _ (by simp)]
    exact heap_alloc_new w _
  have hz0 := heap_alloc_new (w.alloc (.cells (qryV q) 61)) (.cells #[.int .i64 x.1, .int .u64 x.2.1, .bool x.2.2.1.1, .int .i64 x.2.2.1.2.1, .string x.2.2.1.2.2.1, .slice S0 nS0 sd0, .slice K0 nK0 kd0, .slice N0 nN0 nd0, .slice I0 nI0 id0, .slice E0 nE0 ed0, .slice T0 nT0 td0] 57)
  rw [World.size_alloc] at hz0
  have hc0 : Chg nob w ((w.alloc (.cells (qryV q) 61)).alloc (.cells #[.int .i64 x.1, .int .u64 x.2.1, .bool x.2.2.1.1, .int .i64 x.2.2.1.2.1, .string x.2.2.1.2.2.1, .slice S0 nS0 sd0, .slice K0 nK0 kd0, .slice N0 nN0 nd0, .slice I0 nI0 id0, .slice E0 nE0 ed0, .slice T0 nT0 td0] 57)) := ((Chg.refl nob w).alloc _).alloc _
  obtain ⟨u0, hu0⟩ : ∃ u : World, (w.alloc (.cells (qryV q) 61)).alloc (.cells #[.int .i64 x.1, .int .u64 x.2.1, .bool x.2.2.1.1, .int .i64 x.2.2.1.2.1, .string x.2.2.1.2.2.1, .slice S0 nS0 sd0, .slice K0 nK0 kd0, .slice N0 nN0 nd0, .slice I0 nI0 id0, .slice E0 nE0 ed0, .slice T0 nT0 td0] 57) = u := ⟨_, rfl⟩
  rw [hu0] at hb0 hz0 hc0
  obtain ⟨gg, hg⟩ : ∃ gg, w.heap.size = gg := ⟨_, rfl⟩
  have HG := Lib.hid hg
  rw [hg] at hb0 hz0
  have HST := Lib.hid h
  have HKX := Lib.hid hk
  have HONE := Lib.hid (ansK.one hk)
  have HOWN := Lib.hid hown
  have HOK := Lib.hid hokl
  have HRAW := Lib.hid (fun (w' : World) (ok' : Nat → Prop) => raw_of (w' := w') (ok' := ok') hk)
  have HB0 := Lib.hid hb0
  have HZ0 := Lib.hid hz0
  have HC0 := Lib.hid hc0
  clear h hk hown hokl hb0 hz0 hc0
  go_enter Try.func16, Try.ntmps16
  go_upto_region 1 with fail
  have hu0' := hu0
  unfold qryV at hu0'
  first | rw [hu0] | rw [hu0'] | skip
  obtain ⟨s0, s1, s2, s3, s4, s5⟩ := row6 HB0.out
  go_wp2_with fail
  refine (qr_right q hz).mono ?_
  rintro e w2 ⟨rfl, hc2⟩
  have HC2 := Lib.hid (HC0.out.thenNew hc2)
  have hb2 := hc2.heap HB0.out (not_nob _)
  have hz2 := hc2.heap HZ0.out (not_nob _)
  have HB2 := Lib.hid hb2
  have HZ2 := Lib.hid hz2
  clear s0 s1 s2 s3 s4 s5 hc2
  obtain ⟨s0, s1, s2, s3, s4, s5⟩ := row6 hb2
  obtain ⟨⟨z0, z1, z2, z3, z4, z5, z6, z7, z8, z9, z10⟩, -⟩ := row11c hz2
  clear hb2 hz2
  obtain ⟨rb, hrb⟩ : ∃ b, qRight q = b := ⟨_, rfl⟩
  have HRB := Lib.hid hrb
  rw [hrb]
  clear hrb
  cases rb with
  | false =>
    have HF : Hid (putOk l q x = false) := putOk_right HRB.out
    go_wp2
    go_ret
    unfold putL
    rw [HF.out]
    exact ⟨rfl, RPost.same HST.out HOWN.out HC2.out⟩
  | true =>
    by_cases hkd : x.1 = q.1
    · have c1 : (x.1 != q.1) = false := by rw [hkd]; simp
      have HKD := Lib.hid hkd
      clear hkd
      have HST2 := Lib.hid (HST.out.new HC2.out)
      go_wp2_with fail
      refine (rf_find HST2.out.row hl q).mono ?_
      rintro e w3 ⟨hp, hc3⟩
      have HC3 := Lib.hid (HC2.out.thenNew hc3)
      have HST3 := Lib.hid (HST2.out.new hc3)
      have HB3 := Lib.hid (hc3.heap HB2.out (not_nob _))
      have HZ3 := Lib.hid (hc3.heap HZ2.out (not_nob _))
      clear hc3 s0 s1 s2 s3 s4 s5 z0 z1 z2 z3 z4 z5 z6 z7 z8 z9 z10
      obtain ⟨⟨z0, z1, z2, z3, z4, z5, z6, z7, z8, z9, z10⟩, -⟩ := row11c HZ3.out
      rcases hp with ⟨j, c, rfl, hp⟩ | ⟨rfl, hp⟩
      · obtain ⟨a, ha, hka, hm⟩ := rf_pair HST3.out.ents hp
        obtain ⟨_, hj0, hput⟩ := placeQ_at hp
        have HPUT := Lib.hid (hput #[.int .i64 x.1, .int .u64 x.2.1, .bool x.2.2.1.1, .int .i64 x.2.2.1.2.1, .string x.2.2.1.2.2.1, .slice S0 nS0 sd0, .slice K0 nK0 kd0, .slice N0 nN0 nd0, .slice I0 nI0 id0, .slice E0 nE0 ed0, .slice T0 nT0 td0])
        have HOKV := Lib.hid (putOk_some (x := x) HRB.out HKD.out ha)
        obtain ⟨S1, nS1, sd1, K1, nK1, kd1, N1, nN1, nd1, I1, nI1, id1, E1, nE1, ed1, T1, nT1, td1, hlit⟩ := ans_lits hka
        subst hlit
        obtain ⟨⟨OQ, cq, OA, ca, r1, r2, r3, r4, r5⟩, r6⟩ := HST3.out.row
        have hj : j < m.length := (List.getElem?_eq_some_iff.1 hm).1
        have hms : (m.map Prod.snd)[j]? = some #[.int .i64 a.1, .int .u64 a.2.1, .bool a.2.2.1.1, .int .i64 a.2.2.1.2.1, .string a.2.2.1.2.2.1, .slice S1 nS1 sd1, .slice K1 nK1 kd1, .slice N1 nN1 nd1, .slice I1 nI1 id1, .slice E1 nE1 ed1, .slice T1 nT1 td1] := by rw [List.getElem?_map, hm]; rfl
        obtain ⟨ga, rfl, _, hfz⟩ := R_form r3 (by rw [List.length_map]; omega)
        obtain ⟨rb, ro, e1, _, hcell⟩ := raw_at (Kd.R_read r3).1 hms
        cases e1
        rw [show (0 : Nat) + j * 11 = j * 11 from by omega] at hcell
        obtain ⟨n, hn⟩ : ∃ n, m.length = n := ⟨_, rfl⟩
        have HROWX := Lib.hid HST3.out.row
        have hr1 := r1
        have hr3 := r3
        rw [List.length_map, List.length_map, hn] at r1
        rw [List.length_map, hn] at r3 r5
        rw [List.length_map, hn] at r2 r4
        rw [hn] at hj hl
        have HMS := Lib.hid hms
        have HN := Lib.hid hn
        have HR1 := Lib.hid r1
        have HR2 := Lib.hid r2
        have HR3 := Lib.hid r3
        have HR4 := Lib.hid r4
        have HR5 := Lib.hid r5
        have HR6 := Lib.hid r6
        have e0 : w3.cell? ⟨ga, j * 11, none⟩ = some (.int .i64 a.1) := hcell 0 _ rfl
        have e1 : w3.cell? ⟨ga, j * 11 + 1, none⟩ = some (.int .u64 a.2.1) := hcell 1 _ rfl
        have e2 : w3.cell? ⟨ga, j * 11 + 2, none⟩ = some (.bool a.2.2.1.1) := hcell 2 _ rfl
        have e3 : w3.cell? ⟨ga, j * 11 + 3, none⟩ = some (.int .i64 a.2.2.1.2.1) := hcell 3 _ rfl
        have e4 : w3.cell? ⟨ga, j * 11 + 4, none⟩ = some (.string a.2.2.1.2.2.1) := hcell 4 _ rfl
        have e5 : w3.cell? ⟨ga, j * 11 + 5, none⟩ = some (.slice S1 nS1 sd1) := hcell 5 _ rfl
        have e6 : w3.cell? ⟨ga, j * 11 + 6, none⟩ = some (.slice K1 nK1 kd1) := hcell 6 _ rfl
        have e7 : w3.cell? ⟨ga, j * 11 + 7, none⟩ = some (.slice N1 nN1 nd1) := hcell 7 _ rfl
        have e8 : w3.cell? ⟨ga, j * 11 + 8, none⟩ = some (.slice I1 nI1 id1) := hcell 8 _ rfl
        have e9 : w3.cell? ⟨ga, j * 11 + 9, none⟩ = some (.slice E1 nE1 ed1) := hcell 9 _ rfl
        have e10 : w3.cell? ⟨ga, j * 11 + 10, none⟩ = some (.slice T1 nT1 td1) := hcell 10 _ rfl
        have f0 := hfz (j * 11)
        have f1 := hfz (j * 11 + 1)
        have f2 := hfz (j * 11 + 2)
        have f3 := hfz (j * 11 + 3)
        have f4 := hfz (j * 11 + 4)
        have f5 := hfz (j * 11 + 5)
        have f6 := hfz (j * 11 + 6)
        have f7 := hfz (j * 11 + 7)
        have f8 := hfz (j * 11 + 8)
        have f9 := hfz (j * 11 + 9)
        have f10 := hfz (j * 11 + 10)
        obtain ⟨d0, d1, -⟩ := row2 r1
        have b2 : (0 : Int) ≤ (j : Int) := by omega
        have b3 : (j : Int) < (n : Int) := by omega
        have HM := Lib.hid hm
        clear hcell hms hm hka ha hp r1 r2 r3 r4 r5 r6 hn hr1 hr3 hput hfz hj0
        go_upto_region 5 with fail
        by_cases hlt : x.2.1 < a.2.1
        · have HF : Hid (putOk l q x = false) := by show _ = _; rw [HOKV.out]; exact decide_eq_false (by omega)
          go_quiet (fail)
          go_wp2
          go_ret
          unfold putL
          rw [HF.out]
          exact ⟨rfl, RPost.same HST.out HOWN.out (HC3.out.drewN _)⟩
        · have HF : Hid (putOk l q x = true) := by show _ = _; rw [HOKV.out]; exact decide_eq_true (by omega)
          go_quiet (fail)
          go_upto_region 7 with fail
          have HNE : Hid (ga ≠ g ∧ ga < gg) := by
            have h1 := (HR5.out ga rfl)
            exact ⟨h1.2.1, by have := HOWN.out ga h1.1; have := HG.out; omega⟩
          have HZZ := Lib.hid (And.intro z0 (And.intro z1 (And.intro z2 (And.intro z3 (And.intro z4 (And.intro z5 (And.intro z6 (And.intro z7 (And.intro z8 (And.intro z9 z10))))))))))
          have HD1 := Lib.hid d1
          have HEND : Hid (∀ wy : World, Chg nob w3 wy → RPost w ((((((((((((wy.setCell ⟨ga, j * 11 + 0, none⟩ (.int .i64 x.1)).setCell ⟨ga, j * 11 + 1, none⟩ (.int .u64 x.2.1)).setCell ⟨ga, j * 11 + 2, none⟩ (.bool x.2.2.1.1)).setCell ⟨ga, j * 11 + 3, none⟩ (.int .i64 x.2.2.1.2.1)).setCell ⟨ga, j * 11 + 4, none⟩ (.string x.2.2.1.2.2.1)).setCell ⟨ga, j * 11 + 5, none⟩ (.slice S0 nS0 sd0)).setCell ⟨ga, j * 11 + 6, none⟩ (.slice K0 nK0 kd0)).setCell ⟨ga, j * 11 + 7, none⟩ (.slice N0 nN0 nd0)).setCell ⟨ga, j * 11 + 8, none⟩ (.slice I0 nI0 id0)).setCell ⟨ga, j * 11 + 9, none⟩ (.slice E0 nE0 ed0)).setCell ⟨ga, j * 11 + 10, none⟩ (.slice T0 nT0 td0))) rown okl g (m.length + 1) (putL l q x)) := by
            intro wy hy
            have hmy : (m.set j (q, #[.int .i64 x.1, .int .u64 x.2.1, .bool x.2.2.1.1, .int .i64 x.2.2.1.2.1, .string x.2.2.1.2.2.1, .slice S0 nS0 sd0, .slice K0 nK0 kd0, .slice N0 nN0 nd0, .slice I0 nI0 id0, .slice E0 nE0 ed0, .slice T0 nT0 td0])).map Prod.fst = m.map Prod.fst := by
              rw [List.map_set]
              exact set_same (by rw [List.getElem?_map, HM.out]; rfl)
            have hmz : (m.set j (q, #[.int .i64 x.1, .int .u64 x.2.1, .bool x.2.2.1.1, .int .i64 x.2.2.1.2.1, .string x.2.2.1.2.2.1, .slice S0 nS0 sd0, .slice K0 nK0 kd0, .slice N0 nN0 nd0, .slice I0 nI0 id0, .slice E0 nE0 ed0, .slice T0 nT0 td0])).map Prod.snd = (m.map Prod.snd).set j #[.int .i64 x.1, .int .u64 x.2.1, .bool x.2.2.1.1, .int .i64 x.2.2.1.2.1, .string x.2.2.1.2.2.1, .slice S0 nS0 sd0, .slice K0 nK0 kd0, .slice N0 nN0 nd0, .slice I0 nI0 id0, .slice E0 nE0 ed0, .slice T0 nT0 td0] := List.map_set
            have hcs : Chg (fun b => b = ga) wy ((((((((((((wy.setCell ⟨ga, j * 11 + 0, none⟩ (.int .i64 x.1)).setCell ⟨ga, j * 11 + 1, none⟩ (.int .u64 x.2.1)).setCell ⟨ga, j * 11 + 2, none⟩ (.bool x.2.2.1.1)).setCell ⟨ga, j * 11 + 3, none⟩ (.int .i64 x.2.2.1.2.1)).setCell ⟨ga, j * 11 + 4, none⟩ (.string x.2.2.1.2.2.1)).setCell ⟨ga, j * 11 + 5, none⟩ (.slice S0 nS0 sd0)).setCell ⟨ga, j * 11 + 6, none⟩ (.slice K0 nK0 kd0)).setCell ⟨ga, j * 11 + 7, none⟩ (.slice N0 nN0 nd0)).setCell ⟨ga, j * 11 + 8, none⟩ (.slice I0 nI0 id0)).setCell ⟨ga, j * 11 + 9, none⟩ (.slice E0 nE0 ed0)).setCell ⟨ga, j * 11 + 10, none⟩ (.slice T0 nT0 td0))) := chg_set11 _ _ _ _ _ _ _ _ _ _ _
            have hraw := raw_set11 (Kd.R_new HR3.out hy) HMS.out HONE.out
            have hcw : Chg rown w ((((((((((((wy.setCell ⟨ga, j * 11 + 0, none⟩ (.int .i64 x.1)).setCell ⟨ga, j * 11 + 1, none⟩ (.int .u64 x.2.1)).setCell ⟨ga, j * 11 + 2, none⟩ (.bool x.2.2.1.1)).setCell ⟨ga, j * 11 + 3, none⟩ (.int .i64 x.2.2.1.2.1)).setCell ⟨ga, j * 11 + 4, none⟩ (.string x.2.2.1.2.2.1)).setCell ⟨ga, j * 11 + 5, none⟩ (.slice S0 nS0 sd0)).setCell ⟨ga, j * 11 + 6, none⟩ (.slice K0 nK0 kd0)).setCell ⟨ga, j * 11 + 7, none⟩ (.slice N0 nN0 nd0)).setCell ⟨ga, j * 11 + 8, none⟩ (.slice I0 nI0 id0)).setCell ⟨ga, j * 11 + 9, none⟩ (.slice E0 nE0 ed0)).setCell ⟨ga, j * 11 + 10, none⟩ (.slice T0 nT0 td0))) := ((HC3.out.thenNew hy).ofNew (S := rown)).trans hcs (fun i hi => .inl (by rw [show i = ga from hi]; exact (HR5.out ga rfl).1))
            have hp : putQ m q #[.int .i64 x.1, .int .u64 x.2.1, .bool x.2.2.1.1, .int .i64 x.2.2.1.2.1, .string x.2.2.1.2.2.1, .slice S0 nS0 sd0, .slice K0 nK0 kd0, .slice N0 nN0 nd0, .slice I0 nI0 id0, .slice E0 nE0 ed0, .slice T0 nT0 td0] = m.set j (q, #[.int .i64 x.1, .int .u64 x.2.1, .bool x.2.2.1.1, .int .i64 x.2.2.1.2.1, .string x.2.2.1.2.2.1, .slice S0 nS0 sd0, .slice K0 nK0 kd0, .slice N0 nN0 nd0, .slice I0 nI0 id0, .slice E0 nE0 ed0, .slice T0 nT0 td0]) := HPUT.out
            have hq2 := Kd.R_new HR2.out hy
            unfold putL
            rw [HF.out, if_pos rfl]
            refine ⟨rown, putQ m q #[.int .i64 x.1, .int .u64 x.2.1, .bool x.2.2.1.1, .int .i64 x.2.2.1.2.1, .string x.2.2.1.2.2.1, .slice S0 nS0 sd0, .slice K0 nK0 kd0, .slice N0 nN0 nd0, .slice I0 nI0 id0, .slice E0 nE0 ed0, .slice T0 nT0 td0], ⟨?_, ?_⟩, putQ_len m q _, hcw, fun b hb => Nat.lt_of_lt_of_le (HOWN.out b hb) hcw.size, fun b hb => hb, fun b hb => .inl hb⟩
            · rw [hp, hmy, hmz]
              refine ⟨⟨OQ, cq, some ⟨ga, 0, none⟩, ca, ?_, ?_, ?_, ?_, ?_⟩, HR6.out⟩
              · rw [List.length_map, List.length_set, List.length_map, HN.out]
                exact hcs.heap (hy.heap HR1.out (not_nob _)) (fun e => HNE.out.1 e.symm)
              · rw [List.length_map, HN.out]
                exact Kd.R_chg hq2 hcs (fun b hb e => (HR5.out ga rfl).2.2 (by rw [List.length_map, HN.out, show ga = b from e.symm]; exact hb.symm))
              · rw [List.length_set, List.length_map, HN.out]
                exact hraw
              · rw [List.length_map, HN.out]; exact HR4.out
              · rw [List.length_set, List.length_map, HN.out]; intro b hb; have := HR5.out b hb; rw [List.length_map, HN.out] at this; rw [List.length_map, HN.out]; exact this
            · exact Ents.put (Kd.chg HKX.out hcw (fun b hb => (HOK.out b hb).1)) (HST.out.ents.imp (fun a cs hk => Kd.chg hk hcw (fun b hb => (HOK.out b hb).1)))
          clear z0 z1 z2 z3 z4 z5 z6 z7 z8 z9 z10 d0 d1
          refine wp_region_held_drew (S := fun wx => Chg (fun b => b = ga) w3 wx) (by kernel_rfl) (((Chg.refl _ w3).drewN _).drew) (fun hHeld => ?_)
          refine wpAnyH_take (i := 0) (v := ?_) pick0 (by kernel_rfl) (by kernel_rfl) (by kernel_rfl) (fun _ _ _ h => h) (Or.inl ⟨by rfl, ?_⟩) (by assumption) ?_
          rotate_left 1
          · (intro wx hSw; go_simp; try with_reducible rfl)
          try simp only [Act.put, List.setIfInBounds_toArray, List.set_cons_zero, List.set_cons_succ]
          refine wpAnyH_take (i := 1) (v := ?_) (pickS pick0) (by kernel_rfl) (by kernel_rfl) (by kernel_rfl) (fun _ _ _ h => h) (Or.inl ⟨by rfl, ?_⟩) (by assumption) ?_
          rotate_left 1
          · (intro wx hSw; go_simp; try with_reducible rfl)
          try simp only [Act.put, List.setIfInBounds_toArray, List.set_cons_zero, List.set_cons_succ]
          refine wpAnyH_take (i := 2) (v := ?_) (pickS (pickS pick0)) (by kernel_rfl) (by kernel_rfl) (by kernel_rfl) (fun _ _ _ h => h) (Or.inl ⟨by rfl, ?_⟩) (by assumption) ?_
          rotate_left 1
          · (intro wx hSw; go_simp; try with_reducible rfl)
          try simp only [Act.put, List.setIfInBounds_toArray, List.set_cons_zero, List.set_cons_succ]
          refine wpAnyH_take (i := 3) (v := ?_) (pickS (pickS (pickS pick0))) (by kernel_rfl) (by kernel_rfl) (by kernel_rfl) (fun _ _ _ h => h) (Or.inl ⟨by rfl, ?_⟩) (by assumption) ?_
          rotate_left 1
          · (intro wx hSw; have d1 := hSw.cell HD1.out (fun e => HNE.out.1 e.symm); go_simp; try with_reducible rfl)
          try simp only [Act.put, List.setIfInBounds_toArray, List.set_cons_zero, List.set_cons_succ]
          refine wpAnyH_take (i := 4) (v := ?_) (pickS (pickS (pickS (pickS pick0)))) (by kernel_rfl) (by kernel_rfl) (by kernel_rfl) (fun _ _ _ h => h) (Or.inl ⟨by rfl, ?_⟩) (by assumption) ?_
          rotate_left 1
          · (intro wx hSw; go_simp; try with_reducible rfl)
          try simp only [Act.put, List.setIfInBounds_toArray, List.set_cons_zero, List.set_cons_succ]
          refine wpAnyH_take (i := 5) (v := ?_) (pickS (pickS (pickS (pickS (pickS pick0))))) (by kernel_rfl) (by kernel_rfl) (by kernel_rfl) (fun _ _ _ h => h) (Or.inl ⟨by rfl, ?_⟩) (by assumption) ?_
          rotate_left 1
          · (intro wx hSw; obtain ⟨z0, z1, z2, z3, z4, z5, z6, z7, z8, z9, z10⟩ := HZZ.out; have hne : gg + 1 ≠ ga := (by have := HNE.out.2; omega); have z0 := hSw.cell z0 hne; have z1 := hSw.cell z1 hne; have z2 := hSw.cell z2 hne; have z3 := hSw.cell z3 hne; have z4 := hSw.cell z4 hne; have z5 := hSw.cell z5 hne; have z6 := hSw.cell z6 hne; have z7 := hSw.cell z7 hne; have z8 := hSw.cell z8 hne; have z9 := hSw.cell z9 hne; have z10 := hSw.cell z10 hne; go_simp; try with_reducible rfl)
          try simp only [Act.put, List.setIfInBounds_toArray, List.set_cons_zero, List.set_cons_succ]
          refine wpAnyH_take (i := 6) (v := ?_) (pickS (pickS (pickS (pickS (pickS (pickS pick0)))))) (by kernel_rfl) (by kernel_rfl) (by kernel_rfl) (fun _ _ _ h => h) (Or.inl ⟨by rfl, ?_⟩) (by assumption) ?_
          rotate_left 1
          · (intro wx hSw; go_simp; try with_reducible rfl)
          try simp only [Act.put, List.setIfInBounds_toArray, List.set_cons_zero, List.set_cons_succ]
          refine wpAnyH_ready (rs := [7]) (by kernel_rfl) (by simp) ?_
          refine AllReadyH.cons (pickS (pickS (pickS (pickS (pickS (pickS (pickS pick0))))))) (fun K hK => ?_) AllReadyH.nil
          go_simp
          refine hK.out _ _ (((((((((((((((Chg.refl (fun b => b = ga) w3).drewN _).drew).set1 _ _).set1 _ _).set1 _ _).set1 _ _).set1 _ _).set1 _ _).set1 _ _).set1 _ _).set1 _ _).set1 _ _).set1 _ _)) (fun hHeld => ?_)
          clear hK K
          try simp only [Act.put, List.setIfInBounds_toArray, List.set_cons_zero, List.set_cons_succ]
          refine wpAnyH_done (by kernel_rfl) ?_ _
          go_wp2
          go_ret
          rw [HF.out]
          exact ⟨rfl, HEND.out _ (((Chg.refl nob w3).drewN _).drew)⟩
      · have hs := rf_nopair HST3.out.ents hp
        have hlm : m.length = l.length := HST3.out.ents.len
        have HOKV := Lib.hid (putOk_none (x := x) HRB.out HKD.out hs)
        have HPA := Lib.hid (putA_new (a := x) hs)
        have HPQ := Lib.hid ((placeQ_none hp).2 #[.int .i64 x.1, .int .u64 x.2.1, .bool x.2.2.1.1, .int .i64 x.2.2.1.2.1, .string x.2.2.1.2.2.1, .slice S0 nS0 sd0, .slice K0 nK0 kd0, .slice N0 nN0 nd0, .slice I0 nI0 id0, .slice E0 nE0 ed0, .slice T0 nT0 td0])
        obtain ⟨⟨OQ, cq, OA, ca, r1, r2, r3, r4, r5⟩, r6⟩ := HST3.out.row
        obtain ⟨n, hn⟩ : ∃ n, m.length = n := ⟨_, rfl⟩
        rw [List.length_map, List.length_map, hn] at r1
        rw [List.length_map, hn] at r2 r3 r4 r5
        obtain ⟨ks, hks⟩ : ∃ ks, m.map Prod.fst = ks := ⟨_, rfl⟩
        obtain ⟨rs, hrs⟩ : ∃ rs, m.map Prod.snd = rs := ⟨_, rfl⟩
        have HKN : Hid (ks.length = n) := by show _ = _; rw [← hks, List.length_map, hn]
        have HRN : Hid (rs.length = n) := by show _ = _; rw [← hrs, List.length_map, hn]
        rw [hks] at r2 r5
        rw [hrs] at r3
        have r5 : ∀ k, (Value.slice OA n ca).ownBlock = some k → rown k ∧ k ≠ g ∧ (Value.slice OQ n cq).ownBlock ≠ some k := fun k hk => by have := r5 k hk; rw [HKN.out] at this; exact this
        have HN := Lib.hid hn
        have HKS := Lib.hid hks
        have HRS := Lib.hid hrs
        have HR1 := Lib.hid r1
        have HR2 := Lib.hid r2
        have HR3 := Lib.hid r3
        have HR4 := Lib.hid r4
        have HR5 := Lib.hid r5
        have HR6 := Lib.hid r6
        have HLM : Hid (n = l.length) := by show _ = _; rw [← hn, hlm]
        rw [hn] at hl
        obtain ⟨d0, d1, hf⟩ := row2 r1
        have f0 := hf 0
        have HLT3 : Hid (∀ b, rown b → b < w3.heap.size) := fun b hb => Nat.lt_of_lt_of_le (HOWN.out b hb) HC3.out.size
        clear hp hs hlm r1 r2 r3 r4 r5 r6 hn hks hrs hf
        by_cases h8 : 8 ≤ n
        · have b8 : (8 : Int) ≤ (n : Int) := by omega
          have HF : Hid (putOk l q x = false) := by show _ = _; rw [HOKV.out]; exact decide_eq_false (by have := HLM.out; omega)
          go_wp2
          go_ret
          unfold putL
          rw [HF.out]
          exact ⟨rfl, RPost.same HST.out HOWN.out HC3.out⟩
        · have b8 : ¬ (8 : Int) ≤ (n : Int) := by omega
          have HF : Hid (putOk l q x = true) := by show _ = _; rw [HOKV.out]; exact decide_eq_true (by have := HLM.out; omega)
          obtain ⟨s0, s1, s2, s3, s4, s5⟩ := row6 HB3.out
          go_upto_region 11 with fail
          go_cut [] (fun wx => Hid (RRPost w3 wx rown g (ks ++ [q]) rs))
          case first =>
            have hcb : Chg nob w3 (w3.alloc (.cells #[.int .i64 q.1, .int .i64 q.2.1, .string q.2.2.1, .string q.2.2.2.1, .string q.2.2.2.2.1, .bool q.2.2.2.2.2] 61)).drew := ((Chg.refl nob w3).alloc _).drew
            have hbx : qryK.C (w3.alloc (.cells #[.int .i64 q.1, .int .i64 q.2.1, .string q.2.2.1, .string q.2.2.2.1, .string q.2.2.2.2.1, .bool q.2.2.2.2.2] 61)).drew (fun k => False ∨ k = w3.heap.size) (some ⟨w3.heap.size, 0, none⟩) [q] := boxed (d := qryK) (w := w3.drew) (ok := fun _ => False) 61 (qry_mk q)
            have HBX := Lib.hid hbx
            have HCB := Lib.hid hcb
            have HSZ : Hid (w3.heap.size < (w3.alloc (.cells #[.int .i64 q.1, .int .i64 q.2.1, .string q.2.2.1, .string q.2.2.2.1, .string q.2.2.2.2.1, .bool q.2.2.2.2.2] 61)).drew.heap.size) := by show _ < _; simp
            have HRB2 := Lib.hid (Kd.R_new HR2.out hcb)
            have d0b : (w3.alloc (.cells #[.int .i64 q.1, .int .i64 q.2.1, .string q.2.2.1, .string q.2.2.2.1, .string q.2.2.2.2.1, .bool q.2.2.2.2.2] 61)).cell? ⟨g, 0, none⟩ = some (.slice OQ n cq) := hcb.cell d0 (not_nob _)
            clear hcb hbx
            go_region_law (first
              | (refine step_appendF (d := qryK) qry_flat rfl (.tmp 51) (.tmp 53) 66 rfl 61 (.agg #[.int .i64 0, .int .i64 0, .string ByteArray.empty, .string ByteArray.empty, .string ByteArray.empty, .bool false]) 72 Try.underlying66 qry_info rfl 0 _ _ (.slice OQ n cq) ks [q] (some ⟨w3.heap.size, 0, none⟩) 1 1 rfl rfl rfl HRB2.out HBX.out (by rw [HKN.out]; unfold maxLen; simp; omega) (by rw [HKN.out]; simp; omega) (Nat.zero_le _) (n + 1) (by rw [HKN.out]) ?_
                 intro A8 c8 w8 hR8 hC8 hat
                 have hrow8 := hC8.heap (HCB.out.heap HR1.out (not_nob _)) (fun e => (HR4.out g e.symm).2 rfl)
                 have d0d := (row2 hrow8).1
                 have f0d := (row2 hrow8).2.2 0
                 have HR8 := Lib.hid hR8
                 have HC8 := Lib.hid hC8
                 have HAT := Lib.hid hat
                 clear hR8 hC8 hat hrow8))
            all_goals go_wp2
            all_goals go_meet
            all_goals exact rr_appQ HKN.out HRN.out HR1.out HR3.out HR4.out HR5.out HR6.out (Chg.refl rown w3) HLT3.out (fun b hb => hb) (fun b hb => .inl hb) HCB.out HSZ.out HR8.out HC8.out HAT.out
          case rest =>
            have HP1 := hcut
            clear d0 d1 f0 s0 s1 s2 s3 s4 s5 z0 z1 z2 z3 z4 z5 z6 z7 z8 z9 z10
            go_upto_region 12 with fail
            go_cut [] (fun wx => Hid (RRPost w3 wx rown g (ks ++ [q]) (rs ++ [#[.int .i64 x.1, .int .u64 x.2.1, .bool x.2.2.1.1, .int .i64 x.2.2.1.2.1, .string x.2.2.1.2.2.1, .slice S0 nS0 sd0, .slice K0 nK0 kd0, .slice N0 nN0 nd0, .slice I0 nI0 id0, .slice E0 nE0 ed0, .slice T0 nT0 td0]])))
            case first =>
              obtain ⟨rown1, ⟨⟨OQ1, cq1, OA1, ca1, t1, t2, t3, t4, t5⟩, t6⟩, tc, tl, tsub, tsup⟩ := HP1.out.ex
              have hkl : (ks ++ [q]).length = n + 1 := by rw [List.length_append, HKN.out]; rfl
              rw [hkl, HRN.out] at t1
              rw [hkl] at t2 t4
              rw [HRN.out] at t3 t5
              have t5 : ∀ k, (Value.slice OA1 n ca1).ownBlock = some k → rown1 k ∧ k ≠ g ∧ (Value.slice OQ1 (n + 1) cq1).ownBlock ≠ some k := fun k hk => by have := t5 k hk; rw [hkl] at this; exact this
              have HT1 := Lib.hid t1
              have HT2 := Lib.hid t2
              have HT3 := Lib.hid t3
              have HT4 := Lib.hid t4
              have HT5 := Lib.hid t5
              have HT6 := Lib.hid t6
              have HTC := Lib.hid tc
              have HTL := Lib.hid tl
              have HTSB := Lib.hid tsub
              have HTSP := Lib.hid tsup
              have HKL := Lib.hid hkl
              obtain ⟨d0, d1, hf⟩ := row2 t1
              have f1 := hf 1
              have HGN : Hid (¬ rown (gg + 1)) := fun e => by have := HOWN.out _ e; have := HG.out; omega
              obtain ⟨⟨z0, z1, z2, z3, z4, z5, z6, z7, z8, z9, z10⟩, -⟩ := row11c (tc.heap HZ3.out HGN.out)
              have hcb : Chg nob wc (wc.alloc (.cells #[.int .i64 x.1, .int .u64 x.2.1, .bool x.2.2.1.1, .int .i64 x.2.2.1.2.1, .string x.2.2.1.2.2.1, .slice S0 nS0 sd0, .slice K0 nK0 kd0, .slice N0 nN0 nd0, .slice I0 nI0 id0, .slice E0 nE0 ed0, .slice T0 nT0 td0] 57)).drew := ((Chg.refl nob wc).alloc _).drew
              have hbx : rawK.C (wc.alloc (.cells #[.int .i64 x.1, .int .u64 x.2.1, .bool x.2.2.1.1, .int .i64 x.2.2.1.2.1, .string x.2.2.1.2.2.1, .slice S0 nS0 sd0, .slice K0 nK0 kd0, .slice N0 nN0 nd0, .slice I0 nI0 id0, .slice E0 nE0 ed0, .slice T0 nT0 td0] 57)).drew (fun k => False ∨ k = wc.heap.size) (some ⟨wc.heap.size, 0, none⟩) [#[.int .i64 x.1, .int .u64 x.2.1, .bool x.2.2.1.1, .int .i64 x.2.2.1.2.1, .string x.2.2.1.2.2.1, .slice S0 nS0 sd0, .slice K0 nK0 kd0, .slice N0 nN0 nd0, .slice I0 nI0 id0, .slice E0 nE0 ed0, .slice T0 nT0 td0]] := boxed (d := rawK) (w := wc.drew) (ok := fun _ => False) 57 (HRAW.out _ _)
              have HBX := Lib.hid hbx
              have HCB := Lib.hid hcb
              have HSZ : Hid (wc.heap.size < (wc.alloc (.cells #[.int .i64 x.1, .int .u64 x.2.1, .bool x.2.2.1.1, .int .i64 x.2.2.1.2.1, .string x.2.2.1.2.2.1, .slice S0 nS0 sd0, .slice K0 nK0 kd0, .slice N0 nN0 nd0, .slice I0 nI0 id0, .slice E0 nE0 ed0, .slice T0 nT0 td0] 57)).drew.heap.size) := by show _ < _; simp
              have HRB3 := Lib.hid (Kd.R_new t3 hcb)
              have d1b : (wc.alloc (.cells #[.int .i64 x.1, .int .u64 x.2.1, .bool x.2.2.1.1, .int .i64 x.2.2.1.2.1, .string x.2.2.1.2.2.1, .slice S0 nS0 sd0, .slice K0 nK0 kd0, .slice N0 nN0 nd0, .slice I0 nI0 id0, .slice E0 nE0 ed0, .slice T0 nT0 td0] 57)).cell? ⟨g, 1, none⟩ = some (.slice OA1 n ca1) := hcb.cell d1 (not_nob _)
              clear hcb hbx t1 t2 t3 t4 t5 t6 tc tl tsub tsup hkl hf
              go_region_law (first
                | (refine step_appendF (d := rawK) raw_flat rfl (.tmp 61) (.tmp 63) 23 rfl 57 (.agg ansZ) 192 Try.underlying23 raw_info rfl 0 _ _ (.slice OA1 n ca1) rs [#[.int .i64 x.1, .int .u64 x.2.1, .bool x.2.2.1.1, .int .i64 x.2.2.1.2.1, .string x.2.2.1.2.2.1, .slice S0 nS0 sd0, .slice K0 nK0 kd0, .slice N0 nN0 nd0, .slice I0 nI0 id0, .slice E0 nE0 ed0, .slice T0 nT0 td0]] (some ⟨wc.heap.size, 0, none⟩) 1 1 rfl rfl rfl HRB3.out HBX.out (by rw [HRN.out]; unfold maxLen; simp; omega) (by rw [HRN.out]; simp; omega) (Nat.zero_le _) (n + 1) (by rw [HRN.out]) ?_
                   intro A8 c8 w8 hR8 hC8 hat
                   have hrow8 := hC8.heap (HCB.out.heap HT1.out (not_nob _)) (fun e => (HT5.out g e.symm).2.1 rfl)
                   have d1d := (row2 hrow8).2.1
                   have f1d := (row2 hrow8).2.2 1
                   have HR8 := Lib.hid hR8
                   have HC8 := Lib.hid hC8
                   have HAT := Lib.hid hat
                   clear hR8 hC8 hat hrow8))
              all_goals go_wp2
              all_goals go_meet
              all_goals exact rr_appA HKL.out HRN.out HT1.out HT2.out HT4.out HT5.out HT6.out HTC.out HTL.out HTSB.out HTSP.out HCB.out HSZ.out HR8.out HC8.out HAT.out
            case rest =>
              have HP2 := hcut
              go_wp2
              go_ret
              unfold putL
              rw [HF.out]
              refine ⟨rfl, ?_⟩
              rw [if_pos rfl]
              obtain ⟨rown2, hrow, hcc, hlt2, hsub2, hsup2⟩ := HP2.out.ex
              have hcw : Chg rown w wc := (HC3.out.ofNew (S := rown)).trans hcc (fun i hi => .inl hi)
              refine ⟨rown2, putQ m q #[.int .i64 x.1, .int .u64 x.2.1, .bool x.2.2.1.1, .int .i64 x.2.2.1.2.1, .string x.2.2.1.2.2.1, .slice S0 nS0 sd0, .slice K0 nK0 kd0, .slice N0 nN0 nd0, .slice I0 nI0 id0, .slice E0 nE0 ed0, .slice T0 nT0 td0], ⟨?_, ?_⟩, putQ_len m q _, hcw, hlt2, hsub2, fun b hb => (hsup2 b hb).imp (fun h => h) (fun h => Nat.le_trans HC3.out.size h)⟩
              · rw [HPQ.out, List.map_append, List.map_append, HKS.out, HRS.out]
                exact hrow
              · exact Ents.put (Kd.chg HKX.out hcw (fun b hb => (HOK.out b hb).1)) (HST.out.ents.imp (fun a cs hk => Kd.chg hk hcw (fun b hb => (HOK.out b hb).1)))
    · have c1 : (x.1 != q.1) = true := by simpa using hkd
      have HF : Hid (putOk l q x = false) := putOk_kind hkd
      clear hkd
      go_wp2
      go_ret
      unfold putL
      rw [HF.out]
      exact ⟨rfl, RPost.same HST.out HOWN.out HC2.out⟩
#print axioms rf_put
end Go.Proofs.Ytcibdcahcpcmaaa
