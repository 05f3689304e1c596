import Derived.Test.YthleagjnhpjhiaaFold08
/- Orders: whether a command may be: the program's Right. -/
namespace Go.Proofs.Ythleagjnhpjhiaa
open Go.RowKit
set_option linter.unusedVariables false
set_option linter.unusedSimpArgs false
set_option maxRecDepth 100000
theorem call_fn {k i : Nat} (hk : k < 16) (hi : i < 4) (args : Array Value) (w : World) : (callFunc (fnN k i) args).run Try.prog w = .ok (.enter (fnN k i) args) w := by
  have hk2 : k = 0 ∨ k = 1 ∨ k = 2 ∨ k = 3 ∨ k = 4 ∨ k = 5 ∨ k = 6 ∨ k = 7 ∨ k = 8 ∨ k = 9 ∨ k = 10 ∨ k = 11 ∨ k = 12 ∨ k = 13 ∨ k = 14 ∨ k = 15 := by omega
  have hi2 : i = 0 ∨ i = 1 ∨ i = 2 ∨ i = 3 := by omega
  rcases hk2 with h | h | h | h | h | h | h | h | h | h | h | h | h | h | h | h <;> rcases hi2 with h2 | h2 | h2 | h2 <;> (rw [h, h2]; rfl)
theorem i64_and1 (n : Nat) (h : n < 65536) : bits .and .i64 (n : Int) 1 = ((n % 2 : Nat) : Int) := by
  have h1 : (BitVec.ofInt 64 (n : Int)).toNat = n := by rw [BitVec.ofInt_natCast, BitVec.toNat_ofNat]; exact Nat.mod_eq_of_lt (by omega)
  show IntKind.i64.wrap ((BitVec.ofInt 64 (n : Int) &&& BitVec.ofInt 64 1).toNat : Int) = _
  rw [BitVec.toNat_and, h1, show (BitVec.ofInt 64 1).toNat = 1 from rfl, Nat.and_one_is_mod, IntKind.wrap_i64]
  omega
theorem bit_walk {H j : Nat} (h : H < 65536) : bits .and .i64 ((H : Int) / 2 ^ j) 1 = if bitN H j then 1 else 0 := by
  have e : (H : Int) / 2 ^ j = ((H / 2 ^ j : Nat) : Int) := by simp
  rw [e, i64_and1 _ (Nat.lt_of_le_of_lt (Nat.div_le_self _ _) h)]
  unfold bitN
  have h2 : H / 2 ^ j % 2 < 2 := Nat.mod_lt _ (by decide)
  by_cases h3 : H / 2 ^ j % 2 = 1
  · rw [h3]; rfl
  · rw [show H / 2 ^ j % 2 = 0 from by omega]; rfl
section
variable {α : Type} [Sz α]
/-- Is a field there? -/
def isF (x : Cm α) (k : Nat) : Bool := match k with
  | 0 => x.node != 0
  | 1 => x.port != 0
  | 2 => x.status != 0
  | 3 => !decide (x.id = ByteArray.empty)
  | 4 => !decide (x.name = ByteArray.empty)
  | 5 => !decide (x.service = ByteArray.empty)
  | 6 => !decide (x.remark = ByteArray.empty)
  | 7 => !decide (x.key = ByteArray.empty)
  | 8 => !decide (x.value = ByteArray.empty)
  | 9 => !decide (x.src = ByteArray.empty)
  | 10 => !decide (x.dst = ByteArray.empty)
  | 11 => decide (0 < x.tags.length)
  | 12 => x.allow
  | 13 => x.old != 0
  | 14 => x.session != 0
  | _ => decide (0 < Sz.len x.subs)
def numOk (n : Int) : Bool := decide (0 ≤ n) && decide (n ≤ 65535)
def txtOk (s : ByteArray) : Bool := decide ((s.size : Int) ≤ 80)
/-- May a field be? -/
def mayF (x : Cm α) (k : Nat) : Bool := match k with
  | 0 => numOk x.node
  | 1 => numOk x.port
  | 2 => numOk x.status
  | 3 => txtOk x.id
  | 4 => txtOk x.name
  | 5 => txtOk x.service
  | 6 => txtOk x.remark
  | 7 => txtOk x.key
  | 8 => txtOk x.value
  | 9 => txtOk x.src
  | 10 => txtOk x.dst
  | 11 => tagsOk x.tags && decide (x.tags.length ≤ 8)
  | 12 => true
  | 13 => true
  | 14 => true
  | _ => Sz.may x.subs && decide (Sz.len x.subs ≤ 8)
def fieldOk (x : Cm α) (k : Nat) : Bool := (bitN (hasN x.kind) k || !isF x k) && mayF x k
def okTo (x : Cm α) (j : Nat) : Bool := (List.range j).all (fieldOk x)
/-- May a command be? -/
def rightB (x : Cm α) : Bool := decide (hasN x.kind ≠ 0) && okTo x 16
theorem okTo_succ (x : Cm α) (j : Nat) : okTo x (j + 1) = (okTo x j && fieldOk x j) := by
  unfold okTo
  rw [List.range_succ, List.all_append]
  simp
theorem okTo_not {x : Cm α} {j n : Nat} (h : fieldOk x j = false) (hj : j < n) : okTo x n = false := by
  unfold okTo
  rw [List.all_eq_false]
  exact ⟨j, List.mem_range.2 hj, by rw [h]; decide⟩
/-- A command in memory. -/
def CmRow (d : Kd α) (w : World) (ok : Nat → Prop) (cb : Nat) (x : Cm α) : Prop :=
  ∃ T tc A n c, w.heap[cb]? = some (.cells (cmL x T tc (.slice A n c)).toArray 26 (0, 0)) ∧ n = Sz.len x.subs ∧ n ≤ c ∧ n ≤ 9223372036854775807 ∧ x.tags.length ≤ tc ∧ strW.C w ok T x.tags ∧ d.K w ok x.subs [.slice A n c] ∧ CmOk x
theorem CmRow.new {d : Kd α} {w w' : World} {ok : Nat → Prop} {cb : Nat} {x : Cm α} (h : CmRow d w ok cb x) (hc : Chg nob w w') : CmRow d w' ok cb x := by
  obtain ⟨T, tc, A, n, c, h1, h2, h3, h4, h5, h6, h7, h8⟩ := h
  exact ⟨T, tc, A, n, c, hc.heap h1 (not_nob _), h2, h3, h4, h5, Kd.C_new h6 hc, Kd.chg h7 hc (fun b _ => not_nob b), h8⟩
theorem cm_row {d : Kd α} (hd : SubK d) {w : World} {ok : Nat → Prop} {x : Cm α} {cs : Array Value} (h : (cmdK d).K w ok x cs.toList) : ∃ T tc A n c, cs = (cmL x T tc (.slice A n c)).toArray ∧ n = Sz.len x.subs ∧ n ≤ c ∧ n ≤ 9223372036854775807 ∧ x.tags.length ≤ tc ∧ strW.C w ok T x.tags ∧ d.K w ok x.subs [.slice A n c] ∧ CmOk x := by
  obtain ⟨T, tc, s, e, hl, hC, hs, ho⟩ := cmd_cells hd.sz h
  obtain ⟨A, c, e2, h1, h2⟩ := hd.cut hs
  cases e2
  exact ⟨T, tc, A, _, c, Array.toList_inj.1 e, rfl, h1, h2, hl, hC, hs, ho⟩
theorem CmRow.cell {d : Kd α} {w : World} {ok : Nat → Prop} {cb : Nat} {x : Cm α} (h : CmRow d w ok cb x) : ∃ T tc A n c, (∀ i, w.cell? ⟨cb, i, none⟩ = (cmL x T tc (.slice A n c)).toArray[i]?) ∧ n = Sz.len x.subs ∧ strW.C w ok T x.tags ∧ CmOk x ∧ d.K w ok x.subs [.slice A n c] := by
  obtain ⟨T, tc, A, n, c, h1, h2, h3, h4, h5, h6, h7, h8⟩ := h
  exact ⟨T, tc, A, n, c, fun i => cell_of_row _ _ _ _ _ _ h1, h2, h6, h8, h7⟩
variable {d : Kd α} {w : World} {ok : Nat → Prop} {cb p k : Nat} {x : Cm α}
theorem c_is (h : CmRow d w ok cb x) (hb : PtrBox w p ⟨cb, k + 1, none⟩) (hk : k < 16) : Calls Try.prog (fnN k 2) (capN k 2 p) w (Told w (isF x k)) := by
  obtain ⟨T, tc, A, n, c, hc, hn, -, -⟩ := h.cell
  have hk2 : k = 0 ∨ k = 1 ∨ k = 2 ∨ k = 3 ∨ k = 4 ∨ k = 5 ∨ k = 6 ∨ k = 7 ∨ k = 8 ∨ k = 9 ∨ k = 10 ∨ k = 11 ∨ k = 12 ∨ k = 13 ∨ k = 14 ∨ k = 15 := by omega
  rcases hk2 with rfl | rfl | rfl | rfl | rfl | rfl | rfl | rfl | rfl | rfl | rfl | rfl | rfl | rfl | rfl | rfl
  · exact c_num_is hb (hc 1)
  · exact c_num_is hb (hc 2)
  · exact c_num_is hb (hc 3)
  · exact c_text_is hb (hc 4)
  · exact c_text_is hb (hc 5)
  · exact c_text_is hb (hc 6)
  · exact c_text_is hb (hc 7)
  · exact c_text_is hb (hc 8)
  · exact c_text_is hb (hc 9)
  · exact c_text_is hb (hc 10)
  · exact c_text_is hb (hc 11)
  · exact c_texts_is hb (hc 12)
  · exact c_flag_is hb (hc 13)
  · exact c_long_is hb (hc 14)
  · exact c_long_is hb (hc 15)
  · subst hn
    exact c_cmds_is hb (hc 16)
def ToldN (w : World) (b : Bool) (e : Ending) (w' : World) : Prop := e = .returned (.bool b) ∧ Chg nob w w'
theorem Told.n {b : Bool} {e : Ending} {w' : World} (h : Told w b e w') : ToldN w b e w' := by
  obtain ⟨h1, h2⟩ := h
  subst h2
  exact ⟨h1, Chg.refl nob w'⟩
/-- Whether the commands within may be. -/
def SubMay (d : Kd α) (w : World) (ok : Nat → Prop) (x : Cm α) : Prop := ∀ (wx : World) (p cb : Nat), Chg nob w wx → PtrBox wx p ⟨cb, 16, none⟩ → CmRow d wx ok cb x → (bitN (hasN x.kind) 15 = true ∨ isF x 15 = false) → Calls Try.prog 81 #[.pointer (some ⟨p, 0, none⟩)] wx (ToldN wx (mayF x 15))
theorem c_may {wx : World} (hs : SubMay d w ok x) (hw : Chg nob w wx) (h : CmRow d wx ok cb x) (hb : PtrBox wx p ⟨cb, k + 1, none⟩) (hk : k < 16) (hi : bitN (hasN x.kind) k = true ∨ isF x k = false) : Calls Try.prog (fnN k 3) (capN k 3 p) wx (ToldN wx (mayF x k)) := by
  obtain ⟨T, tc, A, n, c, hc, hn, hT, ho, -⟩ := h.cell
  have hz : ∀ s ∈ txts x, s.size ≤ 9223372036854775807 := fun s hs => by have := ho.txt s hs; omega
  have hk2 : k = 0 ∨ k = 1 ∨ k = 2 ∨ k = 3 ∨ k = 4 ∨ k = 5 ∨ k = 6 ∨ k = 7 ∨ k = 8 ∨ k = 9 ∨ k = 10 ∨ k = 11 ∨ k = 12 ∨ k = 13 ∨ k = 14 ∨ k = 15 := by omega
  rcases hk2 with rfl | rfl | rfl | rfl | rfl | rfl | rfl | rfl | rfl | rfl | rfl | rfl | rfl | rfl | rfl | rfl
  · exact (c_num_may hb (hc 1)).mono (fun _ _ h => h.n)
  · exact (c_num_may hb (hc 2)).mono (fun _ _ h => h.n)
  · exact (c_num_may hb (hc 3)).mono (fun _ _ h => h.n)
  · exact (c_text_may hb (hc 4) (hz _ (by simp [txts]))).mono (fun _ _ h => h.n)
  · exact (c_text_may hb (hc 5) (hz _ (by simp [txts]))).mono (fun _ _ h => h.n)
  · exact (c_text_may hb (hc 6) (hz _ (by simp [txts]))).mono (fun _ _ h => h.n)
  · exact (c_text_may hb (hc 7) (hz _ (by simp [txts]))).mono (fun _ _ h => h.n)
  · exact (c_text_may hb (hc 8) (hz _ (by simp [txts]))).mono (fun _ _ h => h.n)
  · exact (c_text_may hb (hc 9) (hz _ (by simp [txts]))).mono (fun _ _ h => h.n)
  · exact (c_text_may hb (hc 10) (hz _ (by simp [txts]))).mono (fun _ _ h => h.n)
  · exact (c_text_may hb (hc 11) (hz _ (by simp [txts]))).mono (fun _ _ h => h.n)
  · refine (c_texts_may hb (hc 12) (str_le.C hT) rfl (fun s hs => ?_)).mono (fun _ _ h => h.n)
    obtain ⟨_, inner, hr, _⟩ := hT
    obtain ⟨j, hj⟩ := List.mem_iff_getElem?.1 hs
    have := (hr.2 j s hj).2
    omega
  · exact (c_flag_may).mono (fun _ _ h => h.n)
  · exact (c_long_may).mono (fun _ _ h => h.n)
  · exact (c_long_may).mono (fun _ _ h => h.n)
  · exact hs wx p cb hw hb h hi
set_option maxHeartbeats 4000000 in
theorem o_right_gen (hd : SubK d) {cs : Array Value} (hx : (cmdK d).K w ok x cs.toList) (hs : SubMay d w ok x) : Calls Try.prog 8 #[.agg cs] w (ToldN w (rightB x)) := by
  obtain ⟨T, tc, A, n, c, rfl, hn, hc1, hc2, htc, hT, hK, hok⟩ := cm_row hd hx
  obtain ⟨w1, hw1⟩ : ∃ w1, w.alloc (.cells (cmL x T tc (.slice A n c)).toArray 26) = w1 := ⟨_, rfl⟩
  have hb1 := heap_alloc_new w (.cells (cmL x T tc (.slice A n c)).toArray 26)
  have h1 : Chg nob w w1 := by rw [← hw1]; exact (Chg.refl nob w).alloc _
  obtain ⟨cb, hcb⟩ : ∃ cb, w.heap.size = cb := ⟨_, rfl⟩
  rw [hw1, hcb] at hb1
  have HR1 : Hid (CmRow d w1 ok cb x) := ⟨T, tc, A, n, c, hb1, hn, hc1, hc2, htc, Kd.C_new hT h1, Kd.chg hK h1 (fun b _ => not_nob b), hok⟩
  have HC1 := Lib.hid h1
  have HW1 := Lib.hid hw1
  have HS := Lib.hid hs
  have x0 : w1.cell? ⟨cb, 0, none⟩ = some (.int .i64 x.kind) := by rw [cell_of_row _ _ _ _ _ _ hb1]; rfl
  clear hb1 h1 hw1 hs hT hK hok hx hn hc1 hc2 htc
  unfold cmL at HW1 ⊢
  go_enter Try.func8, Try.ntmps8
  go_upto_region 1 with fail
  rw [HW1.out]
  go_wp2_with fail
  refine (o_fields w1 x.kind).mono ?_
  rintro e w2 ⟨rfl, hww⟩
  subst hww
  obtain ⟨H, hH⟩ : ∃ H, hasN x.kind = H := ⟨_, rfl⟩
  rw [hH]
  have HH := Lib.hid hH
  clear hH
  by_cases h0 : H = 0
  · subst h0
    have hr : rightB x = false := by unfold rightB; rw [HH.out]; rfl
    go_wp2
    go_ret
    rw [hr]
    exact ⟨rfl, HC1.out⟩
  · have e0 : ((H : Int) == 0) = false := by simpa using h0
    have H0 := Lib.hid h0
    clear h0
    go_wp2_with fail
    refine (o_all w2 cb).mono ?_
    rintro e w3 ⟨ps, rfl, hst⟩
    have HST := Lib.hid hst
    clear hst x0 e0
    go_wp2
    go_loopw [12] (fun v wr => ∃ j : Nat, j ≤ 16 ∧ v = .int .i64 j ∧ Hid (Chg nob w3 wr) ∧ Hid (okTo x j = true)) (fun v _ => 16 - (intOf v).toNat)
    case atStart => exact ⟨0, Nat.zero_le _, rfl, Chg.refl _ _, rfl⟩
    case round =>
      obtain ⟨j, hj, rfl, HCR, HK⟩ := hrel
      by_cases hlt : j < 16
      · have b1 : (j : Int) < 16 := by omega
        have b2 : (0 : Int) ≤ (j : Int) := by omega
        have hix := fun wx => idx_all ps wx hlt
        have hxa := heap_alloc_new wr (.cells #[cl j 0 (ps j), cl j 1 (ps j), cl j 2 (ps j), cl j 3 (ps j)] 49)
        have hca : Chg nob wr (wr.alloc (.cells #[cl j 0 (ps j), cl j 1 (ps j), cl j 2 (ps j), cl j 3 (ps j)] 49)) := (Chg.refl nob wr).alloc _
        simp only [cl] at hix hxa hca
        go_upto_region 7 with fail
        obtain ⟨w4, hw4⟩ : ∃ w4, wr.alloc (.cells #[.func (.func (fnN j 0)) #[] (capN j 0 (ps j)), .func (.func (fnN j 1)) #[] (capN j 1 (ps j)), .func (.func (fnN j 2)) #[] (capN j 2 (ps j)), .func (.func (fnN j 3)) #[] (capN j 3 (ps j))] 49) = w4 := ⟨_, rfl⟩
        rw [hw4] at hxa hca ⊢
        obtain ⟨g, hg⟩ : ∃ g, wr.heap.size = g := ⟨_, rfl⟩
        rw [hg] at hxa ⊢
        have HC34 : Hid (Chg nob w3 w4) := HCR.out.thenNew hca
        have HXA := Lib.hid hxa
        have y2 : w4.cell? ⟨g, 2, none⟩ = some (.func (.func (fnN j 2)) #[] (capN j 2 (ps j))) := by rw [cell_of_row _ _ _ _ _ _ hxa]; rfl
        have y3 : w4.cell? ⟨g, 3, none⟩ = some (.func (.func (fnN j 3)) #[] (capN j 3 (ps j))) := by rw [cell_of_row _ _ _ _ _ _ hxa]; rfl
        have HR4 : Hid (CmRow d w4 ok cb x) := (HR1.out.new HST.out.chg).new HC34.out
        have HB4 : Hid (PtrBox w4 (ps j) ⟨cb, j + 1, none⟩) := (HST.out.box j hlt).1.new HC34.out
        clear hw4 hg hxa hca hix
        have hf2 := call_fn (k := j) (i := 2) hlt (by decide)
        have hf3 := call_fn (k := j) (i := 3) hlt (by decide)
        have hbw : bits .and .i64 ((H : Int) / 2 ^ j) 1 = if bitN H j then 1 else 0 := bit_walk (by rw [← HH.out]; exact hasN_lt _)
        have hfo : fieldOk x j = ((bitN H j || !isF x j) && mayF x j) := by unfold fieldOk; rw [HH.out]
        have HFO := Lib.hid hfo
        obtain ⟨m, hm⟩ : ∃ m, mayF x j = m := ⟨_, rfl⟩
        have HMM := Lib.hid hm
        have HB0 : Hid (Chg nob w w4) := (HC1.out.thenNew HST.out.chg).thenNew HC34.out
        have HCW : Hid (Chg nob w w4) := HB0.out
        clear hm hfo
        obtain ⟨bt, hbt⟩ : ∃ bt, bitN H j = bt := ⟨_, rfl⟩
        have HBT := Lib.hid hbt
        rw [hbt] at hbw
        clear hbt
        have HEND : Hid (∀ wx, Chg nob w4 wx → fieldOk x j = false → ToldN w (rightB x) (.returned (.bool false)) wx) := fun wx hc hf => by
          refine ⟨?_, HCW.out.thenNew hc⟩
          unfold rightB
          rw [okTo_not hf hlt, Bool.and_false]
        have HNEXT : Hid (∀ wx, Chg nob w4 wx → fieldOk x j = true → Hid (Chg nob w3 wx) ∧ Hid (okTo x (j + 1) = true)) := fun wx hc hf => by
          refine ⟨HC34.out.thenNew hc, ?_⟩
          show okTo x (j + 1) = true
          rw [okTo_succ, HK.out, hf]
          rfl
        cases bt with
        | true =>
          simp only [if_true] at hbw
          go_wp2_with fail
          refine (c_may HS.out HCW.out HR4.out HB4.out hlt (.inl (by rw [HH.out]; exact HBT.out))).mono ?_
          rw [HMM.out]
          rintro e w5 ⟨rfl, hc5⟩
          have HC5 := Lib.hid hc5
          clear hc5 hbw y2 y3 hf2 hf3
          cases m with
          | true =>
            have HN := Lib.hid (HNEXT.out w5 HC5.out (by rw [HFO.out, HBT.out, HMM.out]; rfl))
            go_wp2
            exact ⟨⟨j + 1, by omega, by go_num, HN.out.1, HN.out.2⟩, by simp [intOf]; omega⟩
          | false =>
            go_wp2
            go_ret
            exact HEND.out w5 HC5.out (by rw [HFO.out, HMM.out, Bool.and_false])
        | false =>
          simp only [Bool.false_eq_true, if_false] at hbw
          go_wp2_with fail
          refine (c_is HR4.out HB4.out hlt).mono ?_
          rintro e w5 ⟨rfl, hww⟩
          subst hww
          obtain ⟨i, hi⟩ : ∃ i, isF x j = i := ⟨_, rfl⟩
          rw [hi]
          have HI := Lib.hid hi
          clear hi
          cases i with
          | true =>
            go_wp2
            go_ret
            exact HEND.out _ (Chg.refl nob _) (by rw [HFO.out, HBT.out, HI.out]; rfl)
          | false =>
            go_wp2_with fail
            refine (c_may HS.out HCW.out HR4.out HB4.out hlt (.inr HI.out)).mono ?_
            rw [HMM.out]
            rintro e w5 ⟨rfl, hc5⟩
            have HC5 := Lib.hid hc5
            clear hc5 hbw y2 y3 hf2 hf3
            cases m with
            | true =>
              have HN := Lib.hid (HNEXT.out w5 HC5.out (by rw [HFO.out, HI.out, HMM.out, Bool.not_false, Bool.or_true]; rfl))
              go_wp2
              exact ⟨⟨j + 1, by omega, by go_num, HN.out.1, HN.out.2⟩, by simp [intOf]; omega⟩
            | false =>
              go_wp2
              go_ret
              exact HEND.out w5 HC5.out (by rw [HFO.out, HMM.out, Bool.and_false])
      · obtain rfl : j = 16 := by omega
        have hr : rightB x = true := by unfold rightB; rw [HK.out, HH.out]; simpa using H0.out
        have HCW : Hid (Chg nob w wr) := (HC1.out.thenNew HST.out.chg).thenNew HCR.out
        go_wp2
        go_ret
        rw [hr]
        exact ⟨rfl, HCW.out⟩
#print axioms o_right_gen
end
end Go.Proofs.Ythleagjnhpjhiaa
