/- Frames: the walk of FrameRows. -/
import Derived.Test.YtfaiehhmpmbcjaaFramePackets
import Derived.Test.YtfaiehhmpmbcjaaRound
import Derived.Test.YtfaiehhmpmbcjaaOpen
namespace Go.Proofs.Ytfaiehhmpmbcjaa
open Go.RowKit
set_option linter.unusedVariables false
set_option linter.unusedSimpArgs false
attribute [local go_sem] Oper.semAt_some
theorem placesF_mid : ∀ (t : Nat) (l : List Fr) (f : Fr) (r : List Fr), (placesF t (l ++ f :: r))[l.length]? = some ((t + (packB l).length : Nat) : Int)
  | t, [], f, r => by simp [placesF, packB]
  | t, g :: l, f, r => by
    rw [List.cons_append, placesF, List.length_cons, List.getElem?_cons_succ, placesF_mid, packB_cons, List.length_append, frameB_len]
    congr 2
    omega
/-- Between two rounds: the answer's place br, the frames' bw, the places' bp, the count's bn. -/
structure RwSt (w0 : World) (br bw bp bn bx : Nat) (okb okl : Nat → Prop) (A L P : Option Addr) (m c N cl cp : Nat) (bs : List UInt8) (k : Nat) (W : World) : Prop where
  kept : keptB bx okb A m c bs W
  res : W.heap[br]? = some (.cells #[.bool false] 4 (0, 0))
  wbox : W.cell? ⟨bw, 0, none⟩ = some (.slice L N cl)
  pbox : W.cell? ⟨bp, 0, none⟩ = some (.slice P N cp)
  nbox : W.heap[bn]? = some (.cells #[.int .i64 k] 3 (0, 0))
  rows : frK.C W okl L (allR bs).1
  pls : (Kd.int .i64).C W okl P (placesF 0 (allR bs).1)
  chg : Chg nob w0 W
theorem RwSt.turn {S : Nat → Prop} {w0 : World} {D br bw bp bn bx : Nat} {okb okl : Nat → Prop} {A L P : Option Addr} {m c N cl cp : Nat} {bs : List UInt8} {k : Nat} {W W' : World} (h : RwSt w0 br bw bp bn bx okb okl A L P m c N cl cp bs k W) (hc : Chg S W W')
    (hS : ∀ b, S b → D ≤ b) (h0 : w0.heap.size ≤ D) (h1 : br < D ∧ bw < D ∧ bp < D ∧ bn < D ∧ bx < D) (h2 : ∀ b, okb b → b < D) (h3 : ∀ b, okl b → b < D) : RwSt w0 br bw bp bn bx okb okl A L P m c N cl cp bs k W' := by
  have n : ∀ b, b < D → ¬ S b := fun b hb hs => by have := hS b hs; omega
  exact ⟨⟨hc.cell h.kept.1 (n _ h1.2.2.2.2), Kd.C_chg h.kept.2 hc (fun b hb => n b (h2 b hb))⟩, hc.heap h.res (n _ h1.1), hc.cell h.wbox (n _ h1.2.1), hc.cell h.pbox (n _ h1.2.2.1), hc.heap h.nbox (n _ h1.2.2.2.1), Kd.C_chg h.rows hc (fun b hb => n b (h3 b hb)), Kd.C_chg h.pls hc (fun b hb => n b (h3 b hb)), ((h.chg.ofNew (S := S)).trans hc (fun i hi => .inl hi)).mono (fun i hi => .inr (Nat.le_trans h0 (hS i hi)))⟩
set_option maxRecDepth 100000 in
set_option maxHeartbeats 1000000 in
theorem frameRows_walk {w : World} {A : Option Addr} {m c : Nat} {bs : List UInt8} (hb : Kd.byte.C w (fun b => b < w.heap.size) A bs) (hm : bs.length = m) (hmc : m ≤ c) (hl : m ≤ 1000000000) :
    Calls Try.prog 7 #[.slice A m c] w fun e w' => e = .returned (.bool true) ∧ Chg nob w w' := by
  have HB := Lib.hid hb
  have HM := Lib.hid hm
  have HC0 := Lib.hid ((Chg.refl nob w).alloc (.cells #[.bool false] 4))
  have HR0 := Lib.hid (heap_alloc_new w (.cells #[.bool false] 4))
  clear hb hm
  refine calls_of_wp_marks Try.func7 rfl ?_
  simp only [Try.ntmps7, List.size_toArray, List.length_cons, List.length_nil, Nat.reduceAdd, Nat.reduceSub, Array.replicate_succ, Array.replicate_zero, List.push_toArray, List.append_toArray, List.nil_append, List.cons_append]
  go_wp2_with fail
  refine (frame_works _).mono ?_
  rintro e w2 ⟨rfl, hc2⟩
  have HC2 := Lib.hid (HC0.out.thenNew hc2)
  have HR2 := Lib.hid (hc2.heap HR0.out (not_nob _))
  have HB2 := Lib.hid (Kd.C_mono (Kd.C_new HB.out HC2.out) (ok' := fun b => b < w2.heap.size) (fun b hb => Nat.lt_of_lt_of_le hb HC2.out.size))
  have hs2 := hc2.size
  have HS2 : Hid (w.heap.size + 1 ≤ w2.heap.size) := by show _ ≤ _; simpa using hs2
  clear hc2 hs2
  go_wp2_with fail
  refine (fr_all HB2.out HM.out hmc hl).mono ?_
  rintro e w3 ⟨hc3, L, P, n, cl, cp, hn, hcl, hcp, rfl, hC, hP⟩
  have HN := Lib.hid hn
  have hca := (Chg.refl nob w3).alloc (.cells #[.slice L n cl] 44)
  have hcb := (Chg.refl nob (w3.alloc (.cells #[.slice L n cl] 44))).alloc (.cells #[.slice P n cp] 46)
  have hcab := hca.thenNew hcb
  have hbw := hcb.heap (heap_alloc_new w3 (.cells #[.slice L n cl] 44)) (not_nob _)
  have hbp := heap_alloc_new (w3.alloc (.cells #[.slice L n cl] 44)) (.cells #[.slice P n cp] 46)
  have hs3 : (w3.alloc (.cells #[.slice L n cl] 44)).heap.size = w3.heap.size + 1 := by simp
  rw [hs3] at hbp
  have HBW := Lib.hid hbw
  have HBP := Lib.hid hbp
  have HC4 := Lib.hid (HC2.out.thenNew (hc3.thenNew hcab))
  have HR4 := Lib.hid ((hc3.thenNew hcab).heap HR2.out (not_nob _))
  have HL4 := Lib.hid (Kd.C_new hC hcab)
  have HP4 := Lib.hid (Kd.C_new hP hcab)
  have HB4 := Lib.hid (Kd.C_new HB2.out (hc3.thenNew hcab))
  have HS3 : Hid (w2.heap.size ≤ w3.heap.size) := hc3.size
  clear hn hca hcb hbw hbp hs3 hC hP hc3 hcab
  go_wp2_with fail
  refine (f_end HB4.out HM.out hmc).mono ?_
  rintro e w5 ⟨rfl, hc5⟩
  have hcn := (Chg.refl nob w5).alloc (.cells #[.int .i64 0] 3)
  have HC6 := Lib.hid (hc5.thenNew hcn)
  have HNB := Lib.hid (heap_alloc_new w5 (.cells #[.int .i64 0] 3))
  have HB6 := Lib.hid (Kd.C_new HB4.out HC6.out)
  have hs5 := hc5.size
  have HS5 : Hid (w3.heap.size + 2 ≤ w5.heap.size) := by show _ ≤ _; simpa using hs5
  clear hc5 hcn hs5
  go_wp2_with fail
  refine (f_each HB6.out HM.out hmc hl).mono ?_
  rintro e w7 ⟨bx, A2, c2, rfl, hc7, hmc2, hbx1, hbx2, hk7⟩
  obtain ⟨okb, hokb, hk7'⟩ : ∃ okb : Nat → Prop, (∀ b, okb b → w5.heap.size + 1 ≤ b ∧ b < w7.heap.size) ∧ keptB bx okb A2 m c2 bs w7 := ⟨_, fun b hb => ⟨by have := hb.1; simp at this; omega, hb.2⟩, hk7⟩
  have HBX : Hid (w5.heap.size + 1 ≤ bx) := by show _ ≤ _; simpa using hbx1
  have HOKB := Lib.hid hokb
  have HK7 := Lib.hid hk7'
  have HC7 := Lib.hid hc7
  have hs7 := hc7.size
  have HS7 : Hid (w5.heap.size + 1 ≤ w7.heap.size) := by show _ ≤ _; simpa using hs7
  clear hokb hk7 hk7' hc7 hbx1 hs7
  have HC67 := Lib.hid (HC6.out.thenNew HC7.out)
  obtain ⟨okl, hokl, hll, hpl⟩ : ∃ okl : Nat → Prop, (∀ b, okl b → b < w3.heap.size) ∧ frK.C w7 okl L (allR bs).1 ∧ (Kd.int .i64).C w7 okl P (placesF 0 (allR bs).1) :=
    ⟨fun b => b < w3.heap.size, fun b hb => hb, Kd.C_new HL4.out HC67.out, Kd.C_new HP4.out HC67.out⟩
  have HOKL := Lib.hid hokl
  have HCW7 := Lib.hid (HC4.out.thenNew HC67.out)
  have HST : Hid (RwSt w w.heap.size w3.heap.size (w3.heap.size + 1) w5.heap.size bx okb okl A2 L P m c2 n cl cp bs 0 w7) :=
    ⟨HK7.out, HC67.out.heap HR4.out (not_nob _), HC67.out.cell (by rw [cell_of_row _ _ 0 _ _ _ HBW.out]; rfl) (not_nob _), HC67.out.cell (by rw [cell_of_row _ _ 0 _ _ _ HBP.out]; rfl) (not_nob _), HC7.out.heap HNB.out (not_nob _), hll, hpl, HCW7.out⟩
  have HPOS : Hid (w.heap.size < w7.heap.size ∧ w3.heap.size < w7.heap.size ∧ w3.heap.size + 1 < w7.heap.size ∧ w5.heap.size < w7.heap.size ∧ bx < w7.heap.size) := ⟨by have := HS2.out; have := HS3.out; have := HS5.out; have := HS7.out; omega, by have := HS5.out; have := HS7.out; omega, by have := HS5.out; have := HS7.out; omega, by have := HS7.out; omega, hbx2⟩
  have hn7 : n ≤ m := by
    obtain ⟨_, h1, _, _⟩ := allR_back bs.length bs (Nat.le_refl _)
    have h2 := packB_ge (allR bs).1
    rw [← h1, List.length_take, HM.out, ← HN.out] at h2
    have h3 := Nat.min_le_right (allR bs).2.1 m
    omega
  clear hokl hll hpl hbx2
  go_wp2
  refine wp_range (gf := 39) (lb := #[.pointer (some ⟨bx, 0, none⟩)]) rfl (enters_of Try.func39 (by kernel_rfl) rfl) (f_iter (bx := bx) (ok := okb) (A := A2) (m := m) (c := c2) (bs := bs) HM.out hmc2 (by omega)) ?_
    (RwSt w w.heap.size w3.heap.size (w3.heap.size + 1) w5.heap.size bx okb okl A2 L P m c2 n cl cp bs) (fun _ _ _ => False) ?_ (fun _ _ _ _ h _ => h) (fun k X h => h.kept) ?_ ?_ ?_ (fun _ _ _ _ h _ => h.elim)
  · rintro B k args W ⟨l, r, f, A3, T, c3, _, _, _, _, rfl, _⟩
    rfl
  · intro k X Y h hc
    exact h.turn (D := w7.heap.size) hc (fun b hb => (by rcases hb with rfl | rfl <;> omega)) (by have := HPOS.out; omega) HPOS.out (fun b hb => (HOKB.out b hb).2) (fun b hb => by have := HOKL.out b hb; have := HPOS.out; omega)
  · intro B hc hs
    exact HST.out.turn (D := w7.heap.size) hc (fun b hb => hb.elim) (by have := HPOS.out; omega) HPOS.out (fun b hb => (HOKB.out b hb).2) (fun b hb => by have := HOKL.out b hb; have := HPOS.out; omega)
  · intro k args X0 X hk hI0 hs0 hcX hI hMM
    obtain ⟨l, r, f, A3, T, c3, g1, g2, g3, g4, rfl, g6⟩ := hMM
    have HX0 := Lib.hid hI0
    have HCX := Lib.hid hcX
    have HA3 := Lib.hid g6
    have HG1 := Lib.hid g1
    have HG2 := Lib.hid g2
    have HG3 := Lib.hid g3
    have hkn : k < n := by rw [HN.out]; exact hk
    clear hI0 hcX hI g6 g1 g2 g3 hk
    gi_wp2
    refine ⟨HoldB.chg ((Chg.refl nob X).alloc _) (by have := HCX.out.size; omega) (fun b hb => (not_nob b hb).elim), ?_⟩
    intro B hcB hsB
    have hcF := (Chg.refl nob X).alloc (.cells #[.int .u8 f.1.toNat, .slice A3 T c3] 24)
    have hc1 : Chg (bookB w7.heap.size) X0 B := ((HCX.out.thenNew hcF).ofNew (S := bookB w7.heap.size)).trans hcB (fun i hi => .inl hi)
    have HS := Lib.hid (HX0.out.turn (D := w7.heap.size) hc1 (fun b hb => (by rcases hb with rfl | rfl <;> omega)) (by have := HPOS.out; omega) HPOS.out (fun b hb => (HOKB.out b hb).2) (fun b hb => by have := HOKL.out b hb; have := HPOS.out; omega))
    have hf2 : Kd.byte.C B (fun b => X0.heap.size ≤ b) A3 f.2 := Kd.C_chg (Kd.C_new HA3.out hcF) hcB (fun b hb hk => by rcases hk with hk | hk <;> omega)
    have hcells : B.heap[X.heap.size]? = some (.cells #[.int .u8 f.1.toNat, .slice A3 T c3] 24) := hcB.heap (heap_alloc_new X _) (fun hk => by have := HCX.out.size; rcases hk with hk | hk <;> omega)
    obtain ⟨q0, q1⟩ := row2c hcells
    have hfk : (allR bs).1[k]? = some f := by rw [HG1.out, ← HG2.out]; simp
    have hpk : (placesF 0 (allR bs).1)[k]? = some (((packB l).length : Nat) : Int) := by
      have := placesF_mid 0 l f r
      rw [Nat.zero_add, HG2.out, ← HG1.out] at this
      exact this
    obtain ⟨lb, lo, FB, fd, rfl, _, c0, c1, hfd, hfb⟩ := fr_at HS.out.rows hfk
    obtain ⟨ad, rfl, _, hcell⟩ := at_scalar HS.out.pls hpk
    have e0 : B.cell? (ad.add k) = some (.int .i64 (((packB l).length : Nat) : Int)) := hcell
    rw [HG3.out] at c1
    have hcv := fun j => conv_any (Kd.C_new hf2 ((Chg.refl nob B).drewN j)) HG3.out c3
    have hcv2 := fun j => conv_any (Kd.C_new hfb ((Chg.refl nob B).drewN j)) HG3.out fd
    have q2 := HS.out.wbox
    have q3 := HS.out.pbox
    have q4 : B.cell? ⟨w5.heap.size, 0, none⟩ = some (.int .i64 k) := by rw [cell_of_row _ _ 0 _ _ _ HS.out.nbox]; rfl
    have q5 : B.frozen? ⟨w5.heap.size, 0, none⟩ = false := by simp [World.frozen?, HS.out.nbox]
    have b1 : (k : Int) < (n : Int) := by omega
    have b2 : ¬ (n : Int) ≤ (k : Int) := by omega
    have b3 : (0 : Int) ≤ (k : Int) := by omega
    obtain ⟨pl, hpl⟩ : ∃ pl, (packB l).length = pl := ⟨_, rfl⟩
    rw [hpl] at e0 ⊢
    have HSZ : Hid (B.heap.size = X.heap.size + 1) := by show _ = _; rw [hsB]; simp
    clear hcell hfk hpk hcells hcF hc1 hf2 hfb hsB hpl HST
    have b4 : ¬ n ≤ k := by omega
    have b5 : decide (n ≤ k) = false := decide_eq_false b4
    have b6 : k < n := by omega
    have HQ4 := Lib.hid HS.out.nbox
    gi_wp2
    refine round_quiet_lit (by kernel_rfl) (by kernel_rfl) (by kernel_rfl) ?_
    repeat (go_big_quiet_step (fail))
    refine wpQuiet_nil ?_
    rintro _ ⟨nq, rfl⟩
    gi_wp2
    show HoldB _ _ _ ∧ RwSt _ _ _ _ _ _ _ _ _ _ _ _ _ _ _ _ _ _ _
    have hcS : Chg (fun b => b = w5.heap.size) B ((B.drewN nq).setCell ⟨w5.heap.size, 0, none⟩ (.int .i64 ((k : Int) + 1))) := Chg.set1 ((Chg.refl _ B).drewN nq) 0 _
    have p1 := HPOS.out
    have p2 := HS2.out
    have p3 := HS3.out
    have p4 := HS5.out
    have p5 := HBX.out
    have hnb : ((B.drewN nq).setCell ⟨w5.heap.size, 0, none⟩ (.int .i64 ((k : Int) + 1))).heap[w5.heap.size]? = some (.cells #[.int .i64 ((k + 1 : Nat) : Int)] 3 (0, 0)) := by
      have h1 : B.heap[w5.heap.size]? = some (.cells #[.int .i64 k] 3 (0, 0)) := HQ4.out
      simp [World.setCell, Array.getElem?_modify, h1]
    refine ⟨HoldB.chg hcS (by have := HX0.out; have := HCX.out.size; have := HSZ.out; omega) (fun b hb hk => by have := book_lt hk; omega), ⟨⟨hcS.cell HS.out.kept.1 (fun hb => by have hb' : bx = w5.heap.size := hb; omega), Kd.C_chg HS.out.kept.2 hcS (fun b hb hk => by have := (HOKB.out b hb).1; omega)⟩, hcS.heap HS.out.res (by omega), hcS.cell HS.out.wbox (fun hb => by have hb' : w3.heap.size = w5.heap.size := hb; omega), hcS.cell HS.out.pbox (fun hb => by have hb' : w3.heap.size + 1 = w5.heap.size := hb; omega), hnb,
      Kd.C_chg HS.out.rows hcS (fun b hb hk => by have := HOKL.out b hb; omega), Kd.C_chg HS.out.pls hcS (fun b hb hk => by have := HOKL.out b hb; omega), ((HS.out.chg.ofNew (S := fun b => b = w5.heap.size)).trans hcS (fun i hi => .inl hi)).mono (fun i hi => .inr (by omega))⟩⟩
  · intro X hI hd
    have q1 := hI.wbox
    have q4 : X.cell? ⟨w5.heap.size, 0, none⟩ = some (.int .i64 n) := by rw [cell_of_row _ _ 0 _ _ _ hI.nbox, HN.out]; rfl
    have q6 : X.cell? ⟨w.heap.size, 0, none⟩ = some (.bool false) := by rw [cell_of_row _ _ 0 _ _ _ hI.res]; rfl
    have q7 : X.frozen? ⟨w.heap.size, 0, none⟩ = false := by simp [World.frozen?, hI.res]
    have HI := Lib.hid hI
    have HD := Lib.hid hd
    clear hI hd
    go_wp2
    refine marks_ret1 (D := w7.heap.size) ?_ ?_
    · rw [Below.heap_setCell _ _ _ _ (by have := HPOS.out; show w7.heap.size ≠ w.heap.size; omega)]
      exact HD.out
    · have hcS : Chg (fun b => b = w.heap.size) X (X.setCell ⟨w.heap.size, 0, none⟩ (.bool true)) := Chg.set1 (Chg.refl _ X) 0 _
      have hcD := chg_putObj (X.setCell ⟨w.heap.size, 0, none⟩ (.bool true)) w7.heap.size (.deferred none)
      have hr1 : (X.setCell ⟨w.heap.size, 0, none⟩ (.bool true)).heap[w.heap.size]? = some (.cells #[.bool true] 4 (0, 0)) := by simp [World.setCell, Array.getElem?_modify, HI.out.res]
      have hr2 := hcD.heap hr1 (by have := HPOS.out; omega)
      have r0 : ((X.setCell ⟨w.heap.size, 0, none⟩ (.bool true)).putObj w7.heap.size (.deferred none)).cell? ⟨w.heap.size, 0, none⟩ = some (.bool true) := by rw [cell_of_row _ _ 0 _ _ _ hr2]; rfl
      refine bodyPost_ret (by simp [results, Try.results7, go_sem, r0]; rfl) rfl ?_
      exact ⟨rfl, (((HI.out.chg.ofNew (S := fun b => w.heap.size ≤ b)).trans hcS (fun i hi => .inl (by show _ ≤ _; omega))).trans hcD (fun i hi => .inl (by have := HPOS.out; show _ ≤ _; omega))).mono (fun i hi => .inr hi)⟩
theorem frameRows_row {w : World} {A : Option Addr} {c : Nat} {bs : List UInt8} (hb : Kd.byte.C w (fun b => b < w.heap.size) A bs) (hB : bulkL (fun _ => 1) bs + 1 ≤ 1048576) (hmc : bs.length ≤ c) :
    Calls Try.prog 7 #[.slice A bs.length c] w fun e w' => e = .returned (.bool true) ∧ Chg nob w w' := by
  have := bulkL_len (fun _ : UInt8 => 1) (fun _ => Nat.le_refl _) bs
  exact frameRows_walk hb rfl hmc (by omega)
end Go.Proofs.Ytfaiehhmpmbcjaa
