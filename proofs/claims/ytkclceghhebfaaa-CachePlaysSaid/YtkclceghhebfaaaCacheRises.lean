/- What the law CacheRises answers. -/
import Derived.Test.YtkclceghhebfaaaCacheNone
namespace Go.Proofs.Ytkclceghhebfaaa
open Go.RowKit
set_option linter.unusedVariables false
set_option linter.unusedSimpArgs false
/-- A step: kind, question, answer. -/
abbrev Stp := Int × Qry × Ans
abbrev stpK : Kd Stp := Kd.pair (Kd.int .i64) (Kd.pair qryK ansK)
/-- A step of a list, cell by cell. -/
structure StpAt (w : World) (ok : Nat → Prop) (b o : Nat) (s : Stp) : Prop where
  ex : ∃ S nS sd K nK kd N nN nd I nI id E nE ed T nT td, (w.cell? ⟨b, o, none⟩ = some (.int .i64 s.1) ∧ w.cell? ⟨b, o + 1, none⟩ = some (.int .i64 s.2.1.1) ∧ w.cell? ⟨b, o + 2, none⟩ = some (.int .i64 s.2.1.2.1) ∧ w.cell? ⟨b, o + 3, none⟩ = some (.string s.2.1.2.2.1) ∧ w.cell? ⟨b, o + 4, none⟩ = some (.string s.2.1.2.2.2.1) ∧ w.cell? ⟨b, o + 5, none⟩ = some (.string s.2.1.2.2.2.2.1) ∧ w.cell? ⟨b, o + 6, none⟩ = some (.bool s.2.1.2.2.2.2.2)) ∧
    (w.cell? ⟨b, o + 7, none⟩ = some (.int .i64 s.2.2.1) ∧ w.cell? ⟨b, o + 8, none⟩ = some (.int .u64 s.2.2.2.1) ∧ w.cell? ⟨b, o + 9, none⟩ = some (.bool s.2.2.2.2.1.1) ∧ w.cell? ⟨b, o + 10, none⟩ = some (.int .i64 s.2.2.2.2.1.2.1) ∧ w.cell? ⟨b, o + 11, none⟩ = some (.string s.2.2.2.2.1.2.2.1) ∧ w.cell? ⟨b, o + 12, none⟩ = some (.slice S nS sd) ∧ w.cell? ⟨b, o + 13, none⟩ = some (.slice K nK kd) ∧ w.cell? ⟨b, o + 14, none⟩ = some (.slice N nN nd) ∧ w.cell? ⟨b, o + 15, none⟩ = some (.slice I nI id) ∧ w.cell? ⟨b, o + 16, none⟩ = some (.slice E nE ed) ∧ w.cell? ⟨b, o + 17, none⟩ = some (.slice T nT td)) ∧
    ansK.K w ok s.2.2 (#[.int .i64 s.2.2.1, .int .u64 s.2.2.2.1, .bool s.2.2.2.2.1.1, .int .i64 s.2.2.2.2.1.2.1, .string s.2.2.2.2.1.2.2.1, .slice S nS sd, .slice K nK kd, .slice N nN nd, .slice I nI id, .slice E nE ed, .slice T nT td] : Array Value).toList
theorem stp_at {w : World} {ok : Nat → Prop} {A : Option Addr} {l : List Stp} (h : stpK.C w ok A l) {j : Nat} {s : Stp} (hx : l[j]? = some s) :
    ∃ b o, A = some ⟨b, o, none⟩ ∧ ok b ∧ StpAt w ok b (o + j * 18) s := by
  obtain ⟨b, o, c, e, hb, ⟨c0, c1, rfl, h0, d0, d1, rfl, hq, hk⟩, hc⟩ := Kd.C_at' h hx
  have h0' : c0 = [.int .i64 s.1] := h0
  have hq' : d0 = [.int .i64 s.2.1.1, .int .i64 s.2.1.2.1, .string s.2.1.2.2.1, .string s.2.1.2.2.2.1, .string s.2.1.2.2.2.2.1, .bool s.2.1.2.2.2.2.2] := qry_cells hq
  obtain ⟨S, sd, K, kd, N, nd, I, id, E, ed, T, td, hcs, -⟩ := (ans_cells hk).ex
  subst h0' hq' hcs
  exact ⟨b, o, e, hb, ⟨S, _, sd, K, _, kd, N, _, nd, I, _, id, E, _, ed, T, _, td, ⟨hc 0 _ rfl, hc 1 _ rfl, hc 2 _ rfl, hc 3 _ rfl, hc 4 _ rfl, hc 5 _ rfl, hc 6 _ rfl⟩, ⟨hc 7 _ rfl, hc 8 _ rfl, hc 9 _ rfl, hc 10 _ rfl, hc 11 _ rfl, hc 12 _ rfl, hc 13 _ rfl, hc 14 _ rfl, hc 15 _ rfl, hc 16 _ rfl, hc 17 _ rfl⟩, hk⟩⟩
theorem rise_put (l : Known) (p : Qry) (x : Ans) (q : Qry) (hx : 0 ≤ x.2.1) : ((seekA l q).getD zeroA).2.1 ≤ ((seekA (putL l p x) q).getD zeroA).2.1 := by
  unfold putL
  cases ho : putOk l p x with
  | false => simp
  | true =>
    rw [if_pos rfl, seekA_put]
    by_cases hq : qEq q p = true
    · rw [if_pos hq]
      have := qEq_iff.1 hq
      subst this
      unfold putOk at ho
      cases hs : seekA l q with
      | none => exact hx
      | some y => rw [hs] at ho; simp at ho; exact ho.2
    · rw [if_neg hq]
      exact Int.le_refl _
theorem putA_len (l : Known) (q : Qry) (x : Ans) : (putA l q x).length ≤ l.length + 1 := by
  induction l with
  | nil => simp [putA]
  | cons a l ih =>
    obtain ⟨p, b⟩ := a
    unfold putA
    by_cases hq : qEq q p = true
    · rw [if_pos hq]; simp
    · rw [if_neg hq]; simp only [List.length_cons]; omega
theorem putL_len (l : Known) (q : Qry) (x : Ans) : (putL l q x).length ≤ l.length + 1 := by
  unfold putL
  split
  · exact putA_len l q x
  · omega
/-- What is known, at some round: m is the index of q. -/
structure RiseSt (w wx : World) (g c : Nat) (q : Qry) (j : Nat) (m : Int) : Prop where
  ex : ∃ own l, CSt wx own nob c l ∧ (∀ b, own b → g < b) ∧ (∀ b, own b → b < wx.heap.size) ∧ l.length ≤ j ∧ ((seekA l q).getD zeroA).2.1 = m ∧ Chg nob w wx ∧ wx.heap[g]? = some (.cells (qryV q) 34 (0, 0))
set_option maxRecDepth 100000 in
set_option maxHeartbeats 4000000 in
theorem cacheRises_walk {w : World} {okl : Nat → Prop} {A : Option Addr} {n cp : Nat} {ls : List Stp} {q : Qry} (hL : stpK.C w okl A ls) (hn : ls.length = n) (hok : ∀ b, okl b → b < w.heap.size) (hz : ∀ s ∈ ls, QSz s.2.1 ∧ 0 ≤ s.2.2.2.1) :
    Calls Try.prog 4 #[.slice A n cp, .agg #[.int .i64 q.1, .int .i64 q.2.1, .string q.2.2.1, .string q.2.2.2.1, .string q.2.2.2.2.1, .bool q.2.2.2.2.2]] w
      fun e w' => e = .returned (.bool true) ∧ Chg nob w w' := by
  obtain ⟨g, hg⟩ : ∃ g, w.heap.size = g := ⟨_, rfl⟩
  obtain ⟨w1, hw1⟩ : ∃ w1, w.alloc (.cells #[.int .i64 q.1, .int .i64 q.2.1, .string q.2.2.1, .string q.2.2.2.1, .string q.2.2.2.2.1, .bool q.2.2.2.2.2] 34) = w1 := ⟨_, rfl⟩
  have hz1 : w1.heap.size = g + 1 := by rw [← hw1, World.size_alloc, hg]
  have hb1 := heap_alloc_new w (.cells (qryV q) 34)
  have hc1 : Chg nob w w1 := by rw [← hw1]; exact (Chg.refl nob w).alloc _
  unfold qryV at hb1
  rw [hw1, hg] at hb1
  have HB1 := Lib.hid hb1
  have HC1 := Lib.hid hc1
  have HL := Lib.hid hL
  have HN := Lib.hid hn
  have HOK := Lib.hid hok
  have HZ := Lib.hid hz
  have HG := Lib.hid hg
  have HZ1 := Lib.hid hz1
  have hnb : n ≤ 9223372036854775807 := by have := hL.small; omega
  clear hb1 hc1 hL hn hok hz hz1
  go_enter Try.func4, Try.ntmps4
  go_wp2_with fail
  refine (ca_new w1 nob).mono ?_
  rintro e w2 ⟨c, rfl, hcw, hst, hc2⟩
  have HS0 : Hid (RiseSt w w2 g c q 0 0) := ⟨_, [], hst, fun b hb => by have h1 := hb.1; rw [HZ1.out] at h1; omega, fun b hb => hb.2, Nat.le_refl _, rfl, HC1.out.thenNew hc2, hc2.heap HB1.out (not_nob _)⟩
  clear hcw hst hc2 hg hw1
  go_wp2
  go_loopw [6, 7] (fun vm i wr => ∃ (j : Nat) (m : Int), j ≤ n ∧ j ≤ 60 ∧ vm = .int .u64 m ∧ i = .int .i64 j ∧ Hid (RiseSt w wr g c q j m)) (fun _ i _ => 60 - (intOf i).toNat)
  case atStart => exact ⟨0, 0, Nat.zero_le _, by omega, rfl, rfl, HS0⟩
  case round =>
    obtain ⟨j, m, hj, hj60, rfl, rfl, HS⟩ := hrel
    by_cases hlt : j < n
    · have b1 : (j : Int) < (n : Int) := by omega
      have b2 : (0 : Int) ≤ (j : Int) := by omega
      by_cases h60 : j < 60
      · have b3 : (j : Int) < 60 := by omega
        obtain ⟨s, hs⟩ : ∃ s, ls[j]? = some s := ⟨_, List.getElem?_eq_getElem (by rw [HN.out]; exact hlt)⟩
        obtain ⟨lb, lo, rfl, hlb, hat⟩ := stp_at HL.out hs
        have HSZ := Lib.hid (HZ.out s (List.mem_of_getElem? hs))
        have HLB := Lib.hid (HOK.out lb hlb)
        obtain ⟨S, nS, sd, K, nK, kd, N, nN, nd, I, nI, id, E, nE, ed, T, nT, td, hqs, has, hka⟩ := hat.ex
        have HQS := Lib.hid hqs
        have HAS := Lib.hid has
        have HKA := Lib.hid hka
        clear hs hat hlb hqs has hka
        obtain ⟨own, l, hst, hg1, hg2, hll, hm, hcw, hbx⟩ := HS.out.ex
        have HST := Lib.hid hst
        have HG1 := Lib.hid hg1
        have HG2 := Lib.hid hg2
        have HLL := Lib.hid hll
        have HM := Lib.hid hm
        have HCW := Lib.hid hcw
        have HBX := Lib.hid hbx
        have k0 := hcw.cell HQS.out.1 (not_nob _)
        clear hst hg1 hg2 hll hm hcw hbx
        by_cases hk1 : s.1 = 1
        · have c1 : (s.1 == 1) = true := by simpa using hk1
          clear hk1
          go_wp2_with fail
          refine (ca_clear HST.out).mono ?_
          rintro e w3 ⟨rfl, hst3, hc3⟩
          have HST3 : Hid (RiseSt w w3 g c q 0 0) := ⟨own, [], hst3, HG1.out, fun b hb => Nat.lt_of_lt_of_le (HG2.out b hb) hc3.size, Nat.le_refl _, rfl, HCW.out.trans hc3 (fun i hi => .inr (by have := HG1.out i hi; have := HG.out; omega)), hc3.heap HBX.out (fun e => absurd (HG1.out g e) (Nat.lt_irrefl _))⟩
          have HLE : Hid (0 ≤ j + 1) := Nat.zero_le _
          have HMM : Hid ((0 : Int) ≤ 0) := Int.le_refl _
          clear hst3 hc3 k0
          obtain ⟨own, l, hst, hg1, hg2, hll, hm, hcw, hbx⟩ := HST3.out.ex
          have HT := Lib.hid hst
          have HT1 := Lib.hid hg1
          have HT2 := Lib.hid hg2
          have HTL := Lib.hid hll
          have HTM := Lib.hid hm
          have HTC := Lib.hid hcw
          have HTB := Lib.hid hbx
          obtain ⟨s0, s1, s2, s3, s4, s5⟩ := row6 hbx
          clear hst hg1 hg2 hll hm hcw hbx
          go_wp2_with fail
          refine (ca_index HT.out q).mono ?_
          rintro e w4 ⟨rfl, hc4⟩
          rw [HTM.out]
          have HC4 := Lib.hid hc4
          have hb4 := hc4.heap HTB.out (not_nob _)
          clear s0 s1 s2 s3 s4 s5 hc4
          obtain ⟨s0, s1, s2, s3, s4, s5⟩ := row6 hb4
          clear hb4
          go_wp2_with fail
          refine (ca_index (HT.out.new HC4.out) q).mono ?_
          rintro e w5 ⟨rfl, hc5⟩
          rw [HTM.out]
          have HC5 := Lib.hid (HC4.out.thenNew hc5)
          clear s0 s1 s2 s3 s4 s5 hc5
          go_wp2
          exact ⟨⟨j + 1, 0, by omega, by omega, rfl, by go_num, ⟨own, l, HT.out.new HC5.out, HT1.out, fun b hb => Nat.lt_of_lt_of_le (HT2.out b hb) HC5.out.size, Nat.le_trans HTL.out (Nat.zero_le _), HTM.out, HTC.out.thenNew HC5.out, HC5.out.heap HTB.out (not_nob _)⟩⟩, by simp [intOf]; omega⟩
        · have c1 : (s.1 == 1) = false := by simpa using hk1
          clear hk1
          have HUP : Hid (∀ wx, Chg own wr wx → Chg nob w wx) := fun wx hc => HCW.out.trans hc (fun i hi => .inr (by have := HG1.out i hi; have := HG.out; omega))
          go_wp2
          refine wp_region_held_drew (S := fun wx => Chg own wr wx) (by kernel_rfl) ((Chg.refl own wr).drew) (fun hHeld => ?_)
          refine wpAnyH_take (i := 0) (v := ?_) pick0 (by kernel_rfl) (by kernel_rfl) (by kernel_rfl) (fun _ _ _ h => h) (Or.inl ⟨by rfl, ?_⟩) (by assumption) ?_
          rotate_left 1
          · (intro wx hSw; go_simp; try with_reducible rfl)
          try simp only [Act.put, List.setIfInBounds_toArray, List.set_cons_zero, List.set_cons_succ]
          refine wpAnyH_take (i := 1) (v := ?_) (pickS pick0) (by kernel_rfl) (by kernel_rfl) (by kernel_rfl) (fun _ _ _ h => h) (Or.inl ⟨by rfl, ?_⟩) (by assumption) ?_
          rotate_left 1
          · (intro wx hSw; go_simp; try with_reducible rfl)
          try simp only [Act.put, List.setIfInBounds_toArray, List.set_cons_zero, List.set_cons_succ]
          refine wpAnyH_take (i := 2) (v := ?_) (pickS (pickS pick0)) (by kernel_rfl) (by kernel_rfl) (by kernel_rfl) (fun _ _ _ h => h) (Or.inl ⟨by rfl, ?_⟩) (by assumption) ?_
          rotate_left 1
          · (intro wx hSw; go_simp; try with_reducible rfl)
          try simp only [Act.put, List.setIfInBounds_toArray, List.set_cons_zero, List.set_cons_succ]
          refine wpAnyH_take (i := 3) (v := ?_) (pickS (pickS (pickS pick0))) (by kernel_rfl) (by kernel_rfl) (by kernel_rfl) (fun _ _ _ h => h) (Or.inl ⟨by rfl, ?_⟩) (by assumption) ?_
          rotate_left 1
          · (intro wx hSw; go_simp; try with_reducible rfl)
          try simp only [Act.put, List.setIfInBounds_toArray, List.set_cons_zero, List.set_cons_succ]
          refine wpAnyH_take (i := 4) (v := ?_) (pickS (pickS (pickS (pickS pick0)))) (by kernel_rfl) (by kernel_rfl) (by kernel_rfl) (fun _ _ _ h => h) (Or.inl ⟨by rfl, ?_⟩) (by assumption) ?_
          rotate_left 1
          · (intro wx hSw; go_simp; try with_reducible rfl)
          try simp only [Act.put, List.setIfInBounds_toArray, List.set_cons_zero, List.set_cons_succ]
          refine wpAnyH_take (i := 5) (v := ?_) (pickS (pickS (pickS (pickS (pickS pick0))))) (by kernel_rfl) (by kernel_rfl) (by kernel_rfl) (fun _ _ _ h => h) (Or.inl ⟨by rfl, ?_⟩) (by assumption) ?_
          rotate_left 1
          · (intro wx hSw; obtain ⟨q0, q1, q2, q3, q4, q5, q6⟩ := HQS.out; have hy := HUP.out _ hSw; have q1 := hy.cell q1 (not_nob _); have q2 := hy.cell q2 (not_nob _); have q3 := hy.cell q3 (not_nob _); have q4 := hy.cell q4 (not_nob _); have q5 := hy.cell q5 (not_nob _); have q6 := hy.cell q6 (not_nob _); go_simp; try with_reducible rfl)
          try simp only [Act.put, List.setIfInBounds_toArray, List.set_cons_zero, List.set_cons_succ]
          refine wpAnyH_take (i := 6) (v := ?_) (pickS (pickS (pickS (pickS (pickS (pickS pick0)))))) (by kernel_rfl) (by kernel_rfl) (by kernel_rfl) (fun _ _ _ h => h) (Or.inl ⟨by rfl, ?_⟩) (by assumption) ?_
          rotate_left 1
          · (intro wx hSw; go_simp; try with_reducible rfl)
          try simp only [Act.put, List.setIfInBounds_toArray, List.set_cons_zero, List.set_cons_succ]
          refine wpAnyH_take (i := 7) (v := ?_) (pickS (pickS (pickS (pickS (pickS (pickS (pickS pick0))))))) (by kernel_rfl) (by kernel_rfl) (by kernel_rfl) (fun _ _ _ h => h) (Or.inl ⟨by rfl, ?_⟩) (by assumption) ?_
          rotate_left 1
          · (intro wx hSw; go_simp; try with_reducible rfl)
          try simp only [Act.put, List.setIfInBounds_toArray, List.set_cons_zero, List.set_cons_succ]
          refine wpAnyH_take (i := 8) (v := ?_) (pickS (pickS (pickS (pickS (pickS (pickS (pickS (pickS pick0)))))))) (by kernel_rfl) (by kernel_rfl) (by kernel_rfl) (fun _ _ _ h => h) (Or.inl ⟨by rfl, ?_⟩) (by assumption) ?_
          rotate_left 1
          · (intro wx hSw; go_simp; try with_reducible rfl)
          try simp only [Act.put, List.setIfInBounds_toArray, List.set_cons_zero, List.set_cons_succ]
          refine wpAnyH_take (i := 9) (v := ?_) (pickS (pickS (pickS (pickS (pickS (pickS (pickS (pickS (pickS pick0))))))))) (by kernel_rfl) (by kernel_rfl) (by kernel_rfl) (fun _ _ _ h => h) (Or.inl ⟨by rfl, ?_⟩) (by assumption) ?_
          rotate_left 1
          · (intro wx hSw; go_simp; try with_reducible rfl)
          try simp only [Act.put, List.setIfInBounds_toArray, List.set_cons_zero, List.set_cons_succ]
          refine wpAnyH_take (i := 10) (v := ?_) (pickS (pickS (pickS (pickS (pickS (pickS (pickS (pickS (pickS (pickS pick0)))))))))) (by kernel_rfl) (by kernel_rfl) (by kernel_rfl) (fun _ _ _ h => h) (Or.inl ⟨by rfl, ?_⟩) (by assumption) ?_
          rotate_left 1
          · (intro wx hSw; obtain ⟨q0, q1, q2, q3, q4, q5, q6, q7, q8, q9, q10⟩ := HAS.out; have hy := HUP.out _ hSw; have q0 := hy.cell q0 (not_nob _); have q1 := hy.cell q1 (not_nob _); have q2 := hy.cell q2 (not_nob _); have q3 := hy.cell q3 (not_nob _); have q4 := hy.cell q4 (not_nob _); have q5 := hy.cell q5 (not_nob _); have q6 := hy.cell q6 (not_nob _); have q7 := hy.cell q7 (not_nob _); have q8 := hy.cell q8 (not_nob _); have q9 := hy.cell q9 (not_nob _); have q10 := hy.cell q10 (not_nob _); go_simp; try with_reducible rfl)
          try simp only [Act.put, List.setIfInBounds_toArray, List.set_cons_zero, List.set_cons_succ]
          refine wpAnyH_ready (rs := [11]) (by kernel_rfl) (by simp) ?_
          refine AllReadyH.cons (pickS (pickS (pickS (pickS (pickS (pickS (pickS (pickS (pickS (pickS (pickS pick0))))))))))) (fun K hK => ?_) AllReadyH.nil
          go_simp
          have HD : Hid (Chg nob wr wr.drew) := (Chg.refl nob wr).drew
          refine (ca_put (HST.out.new HD.out) (fun b hb => Nat.lt_of_lt_of_le (HG2.out b hb) HD.out.size) (fun b hb => hb.elim) (by have := HLL.out; omega) (Kd.chg HKA.out (HCW.out.thenNew HD.out) (fun b _ => not_nob b)) (fun b hb => ⟨fun h => by have h1 := HG1.out b (h.resolve_right (not_nob _)); have h2 := HOK.out b hb; have h3 := HG.out; omega, Nat.lt_of_lt_of_le (HOK.out b hb) (HCW.out.thenNew HD.out).size⟩) s.2.1 HSZ.out.1).mono ?_
          rintro e w3 ⟨rfl, hp⟩
          have HP := Lib.hid hp
          have HC3 : Hid (Chg own wr w3) := by obtain ⟨own3, hst3, hc3, hl3, hs3, hu3⟩ := hp.ex; exact HD.out.ofNew.trans hc3 (fun i hi => .inl hi)
          clear hp hHeld
          go_wp2_with fail
          refine hK.out _ _ (HC3.out) (fun hHeld => ?_)
          clear hK K
          try simp only [Act.put, List.setIfInBounds_toArray, List.set_cons_zero, List.set_cons_succ]
          refine wpAnyH_done (by kernel_rfl) ?_ _
          obtain ⟨m3, hm3⟩ : ∃ m3, ((seekA (putL l s.2.1 s.2.2) q).getD zeroA).2.1 = m3 := ⟨_, rfl⟩
          have hmm : m ≤ m3 := by rw [← HM.out, ← hm3]; exact rise_put l s.2.1 s.2.2 q HSZ.out.2
          have HST3 : Hid (RiseSt w w3 g c q (j + 1) m3) := by
            obtain ⟨own3, hst3, hc3, hl3, hs3, hu3⟩ := HP.out.ex
            have hsz : wr.drew.heap.size = wr.heap.size := rfl
            exact ⟨own3, putL l s.2.1 s.2.2, hst3, fun b hb => (hu3 b hb).elim (HG1.out b) (fun h => by have := heap_lt HBX.out; omega), hl3, Nat.le_trans (putL_len l _ _) (by have := HLL.out; omega), hm3, HUP.out _ HC3.out, HC3.out.heap HBX.out (fun e => absurd (HG1.out g e) (Nat.lt_irrefl _))⟩
          have b5 : ¬ m3 < m := by omega
          clear hm3 hmm
          clear k0
          obtain ⟨own, l, hst, hg1, hg2, hll, hm, hcw, hbx⟩ := HST3.out.ex
          have HT := Lib.hid hst
          have HT1 := Lib.hid hg1
          have HT2 := Lib.hid hg2
          have HTL := Lib.hid hll
          have HTM := Lib.hid hm
          have HTC := Lib.hid hcw
          have HTB := Lib.hid hbx
          obtain ⟨s0, s1, s2, s3, s4, s5⟩ := row6 hbx
          clear hst hg1 hg2 hll hm hcw hbx
          go_wp2_with fail
          refine (ca_index HT.out q).mono ?_
          rintro e w4 ⟨rfl, hc4⟩
          rw [HTM.out]
          have HC4 := Lib.hid hc4
          have hb4 := hc4.heap HTB.out (not_nob _)
          clear s0 s1 s2 s3 s4 s5 hc4
          obtain ⟨s0, s1, s2, s3, s4, s5⟩ := row6 hb4
          clear hb4
          go_wp2_with fail
          refine (ca_index (HT.out.new HC4.out) q).mono ?_
          rintro e w5 ⟨rfl, hc5⟩
          rw [HTM.out]
          have HC5 := Lib.hid (HC4.out.thenNew hc5)
          clear s0 s1 s2 s3 s4 s5 hc5
          go_wp2
          exact ⟨⟨j + 1, m3, by omega, by omega, rfl, by go_num, ⟨own, l, HT.out.new HC5.out, HT1.out, fun b hb => Nat.lt_of_lt_of_le (HT2.out b hb) HC5.out.size, HTL.out, HTM.out, HTC.out.thenNew HC5.out, HC5.out.heap HTB.out (not_nob _)⟩⟩, by simp [intOf]; omega⟩
      · obtain rfl : j = 60 := by omega
        go_wp2_with fail
        refine (cache_works wr).mono ?_
        rintro e w9 ⟨rfl, hc9⟩
        have HC9 : Hid (Chg nob w w9) := by obtain ⟨own, l, hst, hg1, hg2, hll, hm, hcw, hbx⟩ := HS.out.ex; exact hcw.thenNew hc9
        clear hc9
        go_wp2
        go_ret
        exact ⟨rfl, HC9.out⟩
    · obtain rfl : j = n := by omega
      have b1 : ¬ (j : Int) < (j : Int) := by omega
      go_wp2_with fail
      refine (cache_works wr).mono ?_
      rintro e w9 ⟨rfl, hc9⟩
      have HC9 : Hid (Chg nob w w9) := by obtain ⟨own, l, hst, hg1, hg2, hll, hm, hcw, hbx⟩ := HS.out.ex; exact hcw.thenNew hc9
      clear hc9
      go_wp2
      go_ret
      exact ⟨rfl, HC9.out⟩
#print axioms cacheRises_walk
end Go.Proofs.Ytkclceghhebfaaa
