import Derived.Test.YthleagjnhpjhiaaFold16
import Derived.Test.YthleagjnhpjhiaaFold17
import Derived.Test.YthleagjnhpjhiaaFold11
/- Orders: a command's bytes: the reference's Bytes. -/
namespace Go.Proofs.Ythleagjnhpjhiaa
open Go.RowKit
set_option linter.unusedVariables false
set_option linter.unusedSimpArgs false
set_option maxRecDepth 100000
/-- Bytes in a row of the call's own, beside blocks that stay (X). -/
structure ByS (w w0 wr : World) (X : Nat → Prop) (A : Option Addr) (m c : Nat) (l : List UInt8) : Prop where
  row : Kd.byte.R 5 wr w.heap.size (fun k => some k = (Value.slice A m c).ownBlock) (.slice A m c) l
  own : ∀ k, (Value.slice A m c).ownBlock = some k → ¬ X k
  chg : Chg (fun k => w.heap.size ≤ k ∧ ¬ X k) w0 wr
  len : l.length = m
  base : w.heap.size ≤ wr.heap.size
theorem ByS.new {w w0 wr wx : World} {X : Nat → Prop} {A : Option Addr} {m c : Nat} {l : List UInt8} (h : ByS w w0 wr X A m c l) (hc : Chg nob wr wx) : ByS w w0 wx X A m c l :=
  ⟨Kd.R_new h.row hc, h.own, h.chg.thenNew hc, h.len, Nat.le_trans h.base hc.size⟩
theorem ByS.app {w w0 wr wx : World} {X : Nat → Prop} {A A' : Option Addr} {m c m' c' : Nat} {l l' : List UInt8} (h : ByS w w0 wr X A m c l) (hX : ∀ k, X k → k < w0.heap.size) (hl : l'.length = m')
    (hR : Kd.byte.R 5 wx w.heap.size (fun k => some k = (Value.slice A' m' c').ownBlock) (.slice A' m' c') l') (hC : Chg (fun k => some k = (Value.slice A m c).ownBlock) wr wx) (ho : (Value.slice A' m' c').ownBlock = (Value.slice A m c).ownBlock ∨ (Value.slice A' m' c').ownBlock = some wr.heap.size) : ByS w w0 wx X A' m' c' l' := by
  refine ⟨hR, fun k hk hx => ?_, h.chg.trans hC (fun i hi => .inl ⟨(Kd.R_own h.row i hi.symm).1, h.own i hi.symm⟩), hl, Nat.le_trans h.base hC.size⟩
  rcases ho with ho | ho
  · exact h.own k (by rw [← ho]; exact hk) hx
  · rw [ho] at hk
    cases hk
    have := hX _ hx
    have := h.chg.size
    omega
theorem ByS.of {w w0 wx : World} {X : Nat → Prop} {l : List UInt8} {e : Ending} (h : Laid w0 l e wx) (hw : w.heap.size ≤ w0.heap.size) (hX : ∀ k, X k → k < w0.heap.size) : ∃ A c, e = .returned (.slice A l.length c) ∧ ByS w wx wx X A l.length c l ∧ Chg nob w0 wx := by
  obtain ⟨A, c, he, hl, hR, hx⟩ := h.slice
  refine ⟨A, c, he, ⟨?_, fun k hk hx2 => ?_, Chg.refl _ _, rfl, Nat.le_trans hw hx.size⟩, hx⟩
  · have h1 := Kd.R_lower hR hw
    exact Kd.R_of_own (Kd.own_of_R h1)
  · have := (Kd.R_own hR k hk).1
    have := hX k hx2
    omega
/-- More blocks stay, as they are from now on. -/
theorem ByS.more {w w0 wr : World} {X Y : Nat → Prop} {A : Option Addr} {m c : Nat} {l : List UInt8} (h : ByS w w0 wr X A m c l) (hY : ∀ k, (Value.slice A m c).ownBlock = some k → ¬ Y k) : ByS w wr wr Y A m c l := ⟨h.row, hY, Chg.refl _ _, h.len, h.base⟩
theorem ByS.laid {w w0 wr : World} {X : Nat → Prop} {A : Option Addr} {m c : Nat} {l : List UInt8} (h : ByS w w0 wr X A m c l) (hc : Chg nob w w0) : Laid w l (.returned (.slice A m c)) wr :=
  ⟨_, rfl, Kd.R_mono h.row (fun k hk => (Kd.R_own h.row k hk.symm).1), hc.trans h.chg (fun i hi => .inr hi.1)⟩
theorem ByS.is {w w0 wr : World} {X : Nat → Prop} {A : Option Addr} {m c : Nat} {l l' : List UInt8} (h : ByS w w0 wr X A m c l) (e : l = l') : ByS w w0 wr X A m c l' := e ▸ h
section
variable {α : Type} [Sz α] [Lays α] {d : Kd α} {w : World} {ok : Nat → Prop} {x : Cm α}
def SubBy (d : Kd α) (w : World) (ok : Nat → Prop) (x : Cm α) : Prop := bitN (hasN x.kind) 15 = true → ((∀ A n c, d.K w ok x.subs [.slice A n c] → ∃ l, cm0K.C w ok A l ∧ l.length = n ∧ Lays.lay x.subs = listB layB l ∧ l.all subOk = true ∧ n ≤ 8) ∧ ∀ (wx : World) (y : Cm0) (cs : Array Value), cm0K.K wx ok y cs.toList → subOk y = true → Calls Try.prog 23 #[.agg cs] wx (Laid wx (layB y)))
set_option maxHeartbeats 8000000 in
theorem r_bytes_gen (hd : SubK d) {cs : Array Value} (hx : (cmdK d).K w ok x cs.toList) (hs : SubBy d w ok x) (hf : FewB x) (hr : rightB x = true) : Calls Try.prog 23 #[.agg cs] w (Laid w (layB x)) := by
  obtain ⟨T, tc, A0, n, c0, rfl, hn, hc1, hc2, htc, hT, hK, hok⟩ := cm_row hd hx
  obtain ⟨w1, hw1⟩ : ∃ w1, w.alloc (.cells (cmL x T tc (.slice A0 n c0)).toArray 26) = w1 := ⟨_, rfl⟩
  have hb1 := heap_alloc_new w (.cells (cmL x T tc (.slice A0 n c0)).toArray 26)
  have h1 : Chg nob w w1 := by rw [← hw1]; exact (Chg.refl nob w).alloc _
  obtain ⟨cb, hcb⟩ : ∃ cb, w.heap.size = cb := ⟨_, rfl⟩
  rw [hw1, hcb] at hb1
  have HB1 := Lib.hid hb1
  have HC1 := Lib.hid h1
  have HW1 := Lib.hid hw1
  have HS := Lib.hid hs
  have HT := Lib.hid (str_le.C hT)
  have HK := Lib.hid hK
  have HNL := Lib.hid hn
  have HOK := Lib.hid hok
  have HRT := Lib.hid hr
  have HCB := Lib.hid hcb
  have HZ1 : Hid (cb < w1.heap.size) := heap_lt hb1
  have HTB : Hid ((listB txtB x.tags).length ≤ 800 ∧ x.tags.length ≤ 8) := by
    have h2 := field_of hr (j := 11) (by decide)
    unfold fieldOk at h2
    rw [Bool.and_eq_true] at h2
    have h3 : (tagsOk x.tags && decide (x.tags.length ≤ 8)) = true := h2.2
    rw [Bool.and_eq_true] at h3
    exact ⟨listT_le (tagsOk_all h3.1) (of_decide_eq_true h3.2), of_decide_eq_true h3.2⟩
  have HBL : Hid (∀ j, j ≤ 16 → (layTo x j).length ≤ 3300000) := fun j hj => by
    have h1 := layTo_le hok hf hr (L := 200000) rfl j hj
    have h2 : j * 200000 ≤ 3200000 := by omega
    show _ ≤ _
    omega
  obtain ⟨k1, k18⟩ := kind_of hr
  have H0 : Hid (hasN x.kind ≠ 0) := fun e => by rw [hasN_zero] at e; exact e ⟨k1, k18⟩
  have x0 : w1.cell? ⟨cb, 0, none⟩ = some (.int .i64 x.kind) := by rw [cell_of_row _ _ _ _ _ _ hb1]; rfl
  obtain ⟨V, hV⟩ : ∃ V, (cmL x T tc (.slice A0 n c0)).toArray = V := ⟨_, rfl⟩
  rw [hV] at HW1 ⊢
  clear hb1 h1 hw1 hs hT hK hok hx hn htc hV hr hf
  have hwk : IntKind.u64.wrap x.kind = x.kind := by rw [IntKind.wrap_u64]; omega
  go_enter Try.func23, Try.ntmps23
  go_upto_region 1 with fail
  rw [HW1.out]
  clear hcb
  go_wp2_with fail
  refine (ref_num x.kind (by omega) (by omega)).mono ?_
  intro e w2 hL
  obtain ⟨A, c, rfl, hS2, hc2⟩ := ByS.of (w := w) (X := fun b => b = cb) hL HC1.out.size (fun k hk => by rw [show k = cb from hk]; exact HZ1.out)
  have HL0 : Hid (numB x.kind.toNat = layTo x 0) := by show _ = _; unfold layTo; simp
  rw [HL0.out] at hS2 ⊢
  obtain ⟨m, hm⟩ : ∃ m, (layTo x 0).length = m := ⟨_, rfl⟩
  rw [hm] at hS2 ⊢
  have HS2 := Lib.hid hS2
  have HC2 := Lib.hid (HC1.out.thenNew hc2)
  have HB2 := Lib.hid (hc2.heap HB1.out (not_nob _))
  have y0 := hc2.cell x0 (not_nob _)
  clear hm hS2 hc2 hL x0
  go_wp2_with fail
  refine (r_has w2 x.kind).mono ?_
  rintro e w3 ⟨rfl, hc3⟩
  obtain ⟨S, hS⟩ : ∃ S, hasS x.kind = S := ⟨_, rfl⟩
  obtain ⟨H, hH⟩ : ∃ H, hasN x.kind = H := ⟨_, rfl⟩
  rw [hS]
  have HSS := Lib.hid hS
  have HH := Lib.hid hH
  have HS3 := Lib.hid (HS2.out.new hc3)
  have HC3 := Lib.hid (HC2.out.thenNew hc3)
  have HB3 := Lib.hid (hc3.heap HB2.out (not_nob _))
  clear hS hH hc3 y0
  have HSA : Hid (∀ j (hj : j < 16) (h : j < S.size), S[j] = if bitN H j then 120 else 46) := fun j hj h => by
    have := hasS_at (k := x.kind) H0.out hj
    rw [HSS.out, HH.out, Array.getElem?_eq_getElem h] at this
    exact Option.some.inj this
  have HSZ : Hid (S.size = 16) := by
    have := hasS_size (k := x.kind) H0.out
    rw [HSS.out] at this
    exact this
  obtain ⟨q0, q1, q2, q3, q4, q5, q6, q7, q8, q9, q10, q11, q12, q13, q14, q15, q16⟩ := row17 HB3.out
  have hb4 := heap_alloc_new w3 (.cells #[.int .i64 x.node, .int .i64 x.port, .int .i64 x.status] 3)
  have hc4 := (Chg.refl nob w3).alloc (.cells #[.int .i64 x.node, .int .i64 x.port, .int .i64 x.status] 3)
  obtain ⟨w4, hw4⟩ : ∃ w4, w3.alloc (.cells #[.int .i64 x.node, .int .i64 x.port, .int .i64 x.status] 3) = w4 := ⟨_, rfl⟩
  rw [hw4] at hb4 hc4
  obtain ⟨nb, hnb⟩ : ∃ nb, w3.heap.size = nb := ⟨_, rfl⟩
  rw [hnb] at hb4
  have HB4 := Lib.hid hb4
  have HC4 := Lib.hid (HC3.out.thenNew hc4)
  have HROW4 := Lib.hid (hc4.heap HB3.out (not_nob _))
  have HS4 : Hid (ByS w w4 w4 (fun b => b = cb ∨ b = nb) A m c (layTo x 0)) := (HS3.out.new hc4).more (fun k hk e => by
    have h1 := Kd.R_own HS3.out.row k hk
    have h2 := HS3.out.own k hk
    rcases e with e | e
    · exact h2 e
    · omega)
  have HX4 : Hid (∀ k, (k = cb ∨ k = nb) → k < w4.heap.size) := fun k hk => by rcases hk with rfl | rfl; exact heap_lt HROW4.out; exact heap_lt HB4.out
  clear hb4 hc4
  go_upto_region 4 with fail
  clear hw4 hnb q0 q1 q2 q3 q4 q5 q6 q7 q8 q9 q10 q11 q12 q13 q14 q15 q16
  go_wp2
  go_loopw [3, 6] (fun b v wr => ∃ (j : Nat) (A : Option Addr) (m c : Nat) (L : List UInt8), j ≤ 3 ∧ b = .slice A m c ∧ v = .int .i64 j ∧ Hid (L = layTo x j) ∧ Hid (ByS w w4 wr (fun b => b = cb ∨ b = nb) A m c L)) (fun _ v _ => 3 - (intOf v).toNat)
  case atStart => exact ⟨0, A, m, c, _, Nat.zero_le _, rfl, rfl, rfl, HS4⟩
  case round =>
    obtain ⟨j, A, m, c, G, hj, rfl, rfl, HG, HSR⟩ := hrel
    by_cases hlt : j < 3
    · have b1 : (j : Int) < 3 := by omega
      have b2 : (0 : Int) ≤ (j : Int) := by omega
      obtain ⟨v, hv⟩ : ∃ v, (nums x)[j]? = some v := ⟨_, List.getElem?_eq_getElem (by simp [nums]; omega)⟩
      have hcell : wr.cell? ⟨nb, j, none⟩ = some (.int .i64 v) := by
        rw [cell_of_row _ _ _ _ _ _ (HSR.out.chg.heap HB4.out (fun e => e.2 (.inr rfl)))]
        have : ((nums x).map (Value.int .i64))[j]? = some (.int .i64 v) := by rw [List.getElem?_map, hv]; rfl
        simpa [nums] using this
      have hfld : fldB x j = numB v.toNat := by
        match j, hv with
        | 0, h => simp [nums] at h; subst h; rfl
        | 1, h => simp [nums] at h; subst h; rfl
        | 2, h => simp [nums] at h; subst h; rfl
      have hvr : 0 ≤ v ∧ v ≤ 65535 := by
        have h2 := field_of HRT.out (j := j) (by omega)
        unfold fieldOk at h2
        rw [Bool.and_eq_true, (num_field hv).2] at h2
        exact numOk_le h2.2
      have HFLD := Lib.hid hfld
      have hsz : j < S.size := by rw [HSZ.out]; omega
      have hsa := HSA.out j (by omega) hsz
      obtain ⟨bt, hbt⟩ : ∃ bt, bitN H j = bt := ⟨_, rfl⟩
      rw [hbt] at hsa
      have HBT : Hid (bitN (hasN x.kind) j = bt) := by show _ = _; rw [HH.out]; exact hbt
      have hwv : IntKind.u64.wrap v = v := by rw [IntKind.wrap_u64]; omega
      clear hv hfld hbt
      have b4 : (j : Int) < (S.size : Int) := by omega
      cases bt with
      | true =>
        simp only [if_true] at hsa
        go_wp2_with fail
        refine (ref_num v hvr.1 (by omega)).mono ?_
        intro e wa hL
        obtain ⟨Y, y, rfl, _, hY, hCy⟩ := hL.slice
        obtain ⟨G2, hG2⟩ : ∃ G2, numB v.toNat = G2 := ⟨_, rfl⟩
        skip
        rw [hG2] at hY ⊢
        obtain ⟨r, hr⟩ : ∃ r, G2.length = r := ⟨_, rfl⟩
        rw [hr] at hY ⊢
        have HLR := Lib.hid hr
        have HY := Lib.hid (Kd.R_read hY).1
        have HSA2 := Lib.hid (HSR.out.new hCy)
        obtain ⟨mt, hmt⟩ : ∃ mt, (G ++ G2).length = mt := ⟨_, rfl⟩
        have HMT := Lib.hid hmt
        have HNX : Hid (G ++ G2 = layTo x (j + 1)) := by show _ = _; rw [HG.out, ← hG2]; rw [layTo_yes HBT.out, HFLD.out]
        have hpn : G.length + r = mt := by rw [← hmt, List.length_append, hr]
        have HPN := Lib.hid hpn
        have hbd : mt ≤ 140737488355328 := by rw [← hmt, HNX.out]; have := HBL.out (j + 1) (by omega); omega
        clear hL hY hCy hr hmt hpn hG2
        go_wp2_with (at_builtin; refine wp_appB rfl _ _ rfl w.heap.size _ _ (.slice A m c) G G2 Y r y rfl rfl HLR.out HSA2.out.row HY.out HSA2.out.base mt HPN.out hbd ?_)
        intro A' c' wz hR hC ho
        have HSN := Lib.hid (HSA2.out.app HX4.out HMT.out hR hC ho)
        clear hR hC ho HSA2 HY
        clear hcell
        go_wp2
        exact ⟨⟨j + 1, A', mt, c', _, by omega, rfl, by go_num, HNX, HSN⟩, by simp [intOf]; omega⟩
      | false =>
        simp only [Bool.false_eq_true, if_false] at hsa
        have HNX : Hid (G = layTo x (j + 1)) := by show _ = _; rw [HG.out, layTo_no HBT.out]
        go_wp2
        exact ⟨⟨j + 1, A, m, c, G, by omega, rfl, by go_num, HNX, HSR⟩, by simp [intOf]; omega⟩
    · obtain rfl : j = 3 := by omega
      have hrow5 := HSR.out.chg.heap HROW4.out (fun e => e.2 (.inl rfl))
      have HROWR := Lib.hid hrow5
      have HRNG : Hid (wr.rangeAt cb 0 (cmL x T tc (.slice A0 n c0))) := rng_row hrow5
      clear hrow5
      go_wp2_with (first
        | (refine wpList_load_mid rfl 26 (.tmp 1) rfl cb 0 rfl (cmL x T tc (.slice A0 n c0)) _ HRNG.out Try.underlying26 rfl (by kernel_rfl) ?_; try simp only [Act.put, List.setIfInBounds_toArray, List.set_cons_zero, List.set_cons_succ])
        | fail)
      refine (r_texts (w := wr) (x := x)).mono ?_
      rintro e w5 ⟨tb, rfl, htb, htc4, -, hc5⟩
      have HTX := Lib.hid htc4
      have HROW5 := Lib.hid (hc5.heap HROWR.out (not_nob _))
      have HS5 : Hid (ByS w w5 w5 (fun b => b = cb ∨ b = tb) A m c G) := (HSR.out.new hc5).more (fun k hk e => by
        have h1 := Kd.R_own HSR.out.row k hk
        have h2 := HSR.out.own k hk
        rcases e with e | e
        · exact h2 (.inl e)
        · omega)
      have HX5 : Hid (∀ k, (k = cb ∨ k = tb) → k < w5.heap.size) := fun k hk => by
        rcases hk with rfl | rfl
        · exact heap_lt HROW5.out
        · obtain ⟨s0, hs0⟩ : ∃ s0, (txts x)[0]? = some s0 := ⟨_, rfl⟩
          exact World.block_lt_of_cell? w5 _ (HTX.out 0 s0 hs0)
      have HC5 : Hid (Chg nob w w5) := (HC4.out.trans HSR.out.chg (fun i hi => .inr hi.1)).thenNew hc5
      clear htc4 hc5
      as_aux_lemma =>
      go_wp2
      go_loopw [3, 8] (fun b v wr => ∃ (j : Nat) (A : Option Addr) (m c : Nat) (L : List UInt8), j ≤ 8 ∧ b = .slice A m c ∧ v = .int .i64 j ∧ Hid (L = layTo x (3 + j)) ∧ Hid (ByS w w5 wr (fun b => b = cb ∨ b = tb) A m c L)) (fun _ v _ => 8 - (intOf v).toNat)
      case atStart => exact ⟨0, A, m, c, _, Nat.zero_le _, rfl, rfl, HG, HS5⟩
      case round =>
        obtain ⟨j, A, m, c, G, hj, rfl, rfl, HG, HSR⟩ := hrel
        by_cases hlt : j < 8
        · have b1 : (j : Int) < 8 := by omega
          have b2 : (0 : Int) ≤ (j : Int) := by omega
          obtain ⟨s, hs⟩ : ∃ s, (txts x)[j]? = some s := ⟨_, List.getElem?_eq_getElem (by simp [txts]; omega)⟩
          have hcell := HSR.out.chg.cell (HTX.out j s hs) (fun e => e.2 (.inr rfl))
          have hfld : fldB x (3 + j) = txtB s := by
            match j, hs with
            | 0, h => simp [txts] at h; subst h; rfl
            | 1, h => simp [txts] at h; subst h; rfl
            | 2, h => simp [txts] at h; subst h; rfl
            | 3, h => simp [txts] at h; subst h; rfl
            | 4, h => simp [txts] at h; subst h; rfl
            | 5, h => simp [txts] at h; subst h; rfl
            | 6, h => simp [txts] at h; subst h; rfl
            | 7, h => simp [txts] at h; subst h; rfl
          have hvr : s.size ≤ 80 := by
            have h2 := field_of HRT.out (j := 3 + j) (by omega)
            unfold fieldOk at h2
            rw [Bool.and_eq_true, (txt_field hs).2] at h2
            exact txtOk_le h2.2
          have HFLD := Lib.hid hfld
          have hsz : 3 + j < S.size := by rw [HSZ.out]; omega
          have hsa := HSA.out (3 + j) (by omega) hsz
          obtain ⟨bt, hbt⟩ : ∃ bt, bitN H (3 + j) = bt := ⟨_, rfl⟩
          rw [hbt] at hsa
          have HBT : Hid (bitN (hasN x.kind) (3 + j) = bt) := by show _ = _; rw [HH.out]; exact hbt
          clear hs hfld hbt
          have b4 : (3 : Int) + (j : Int) < (S.size : Int) := by omega
          have b5 : (0 : Int) ≤ (3 : Int) + (j : Int) := by omega
          have b6 : ((3 : Int) + (j : Int)).toNat = 3 + j := by omega
          cases bt with
          | true =>
            simp only [if_true] at hsa
            go_wp2_with fail
            refine (ref_text s (by omega)).mono ?_
            intro e wa hL
            obtain ⟨Y, y, rfl, _, hY, hCy⟩ := hL.slice
            obtain ⟨G2, hG2⟩ : ∃ G2, txtB s = G2 := ⟨_, rfl⟩
            try rw [show numB s.size ++ strB s = txtB s from rfl] at hY ⊢
            rw [hG2] at hY ⊢
            obtain ⟨r, hr⟩ : ∃ r, G2.length = r := ⟨_, rfl⟩
            rw [hr] at hY ⊢
            have HLR := Lib.hid hr
            have HY := Lib.hid (Kd.R_read hY).1
            have HSA2 := Lib.hid (HSR.out.new hCy)
            obtain ⟨mt, hmt⟩ : ∃ mt, (G ++ G2).length = mt := ⟨_, rfl⟩
            have HMT := Lib.hid hmt
            have HNX : Hid (G ++ G2 = layTo x (3 + (j + 1))) := by show _ = _; rw [HG.out, ← hG2]; rw [show 3 + (j + 1) = (3 + j) + 1 from by omega, layTo_yes HBT.out, HFLD.out]
            have hpn : G.length + r = mt := by rw [← hmt, List.length_append, hr]
            have HPN := Lib.hid hpn
            have hbd : mt ≤ 140737488355328 := by rw [← hmt, HNX.out]; have := HBL.out (3 + (j + 1)) (by omega); omega
            clear hL hY hCy hr hmt hpn hG2
            go_wp2_with (at_builtin; refine wp_appB rfl _ _ rfl w.heap.size _ _ (.slice A m c) G G2 Y r y rfl rfl HLR.out HSA2.out.row HY.out HSA2.out.base mt HPN.out hbd ?_)
            intro A' c' wz hR hC ho
            have HSN := Lib.hid (HSA2.out.app HX5.out HMT.out hR hC ho)
            clear hR hC ho HSA2 HY
            clear hcell
            go_wp2
            exact ⟨⟨j + 1, A', mt, c', _, by omega, rfl, by go_num, HNX, HSN⟩, by simp [intOf]; omega⟩
          | false =>
            simp only [Bool.false_eq_true, if_false] at hsa
            have HNX : Hid (G = layTo x (3 + (j + 1))) := by show _ = _; rw [HG.out, show 3 + (j + 1) = (3 + j) + 1 from by omega, layTo_no HBT.out]
            go_wp2
            exact ⟨⟨j + 1, A, m, c, G, by omega, rfl, by go_num, HNX, HSR⟩, by simp [intOf]; omega⟩
        · obtain rfl : j = 8 := by omega
          have HCW : Hid (∀ wx (A : Option Addr) (m c : Nat) (G : List UInt8), ByS w w5 wx (fun b => b = cb ∨ b = tb) A m c G → Chg nob w wx) := fun wx A m c G h => HC5.out.trans h.chg (fun i hi => .inr hi.1)
          have z11 : 11 < S.size := by rw [HSZ.out]; decide
          have y11 : (11 : Int) < (S.size : Int) := by omega
          have z12 : 12 < S.size := by rw [HSZ.out]; decide
          have y12 : (12 : Int) < (S.size : Int) := by omega
          have z13 : 13 < S.size := by rw [HSZ.out]; decide
          have y13 : (13 : Int) < (S.size : Int) := by omega
          have z14 : 14 < S.size := by rw [HSZ.out]; decide
          have y14 : (14 : Int) < (S.size : Int) := by omega
          have z15 : 15 < S.size := by rw [HSZ.out]; decide
          have y15 : (15 : Int) < (S.size : Int) := by omega
          obtain ⟨bt, hbt⟩ : ∃ bt, bitN H 11 = bt := ⟨_, rfl⟩
          have HBT : Hid (bitN (hasN x.kind) 11 = bt) := by show _ = _; rw [HH.out]; exact hbt
          have sk := HSA.out 11 (by decide) z11
          rw [hbt] at sk
          obtain ⟨Bk, hBk⟩ : ∃ B : UInt8, (if bt = true then 120 else 46) = B := ⟨_, rfl⟩
          have eB : ((Bk.toNat : Int) == 120) = bt := by rw [← hBk]; cases bt <;> rfl
          rw [hBk] at sk
          clear hBk hbt
          go_upto_if 60 with fail
          go_cut [3] (fun b wx => ∃ (A : Option Addr) (m c : Nat) (L : List UInt8), b = .slice A m c ∧ Hid (L = layTo x 12) ∧ Hid (ByS w w5 wx (fun b => b = cb ∨ b = tb) A m c L))
          case first =>
            cases bt with
            | true =>
              obtain ⟨tl, htl⟩ : ∃ tl, x.tags.length = tl := ⟨_, rfl⟩
              have qk : wr.cell? ⟨cb, 12, none⟩ = some (.slice T tl tc) := by rw [cell_of_row _ _ _ _ _ _ (HSR.out.chg.heap HROW5.out (fun e => e.2 (.inl rfl))), ← htl]; rfl
              go_wp2_with fail
              refine (ref_texts (d := tl) (Kd.C_new HT.out (HCW.out _ _ _ _ _ HSR.out)) htl (by have := HTB.out; omega) (by have := HTB.out; omega) tc).mono ?_
              intro e wa hL
              obtain ⟨Y, y, rfl, _, hY, hCy⟩ := hL.slice
              obtain ⟨G2, hG2⟩ : ∃ G2, listB txtB x.tags = G2 := ⟨_, rfl⟩
              skip
              rw [hG2] at hY ⊢
              obtain ⟨r, hr⟩ : ∃ r, G2.length = r := ⟨_, rfl⟩
              rw [hr] at hY ⊢
              have HLR := Lib.hid hr
              have HY := Lib.hid (Kd.R_read hY).1
              have HSA2 := Lib.hid (HSR.out.new hCy)
              obtain ⟨mt, hmt⟩ : ∃ mt, (G ++ G2).length = mt := ⟨_, rfl⟩
              have HMT := Lib.hid hmt
              have HNX : Hid (G ++ G2 = layTo x 12) := by show _ = _; rw [HG.out, ← hG2]; rw [layTo_yes HBT.out]; rfl
              have hpn : G.length + r = mt := by rw [← hmt, List.length_append, hr]
              have HPN := Lib.hid hpn
              have hbd : mt ≤ 140737488355328 := by rw [← hmt, HNX.out]; have := HBL.out 12 (by omega); omega
              clear hL hY hCy hr hmt hpn hG2
              go_wp2_with (at_builtin; refine wp_appB rfl _ _ rfl w.heap.size _ _ (.slice A m c) G G2 Y r y rfl rfl HLR.out HSA2.out.row HY.out HSA2.out.base mt HPN.out hbd ?_)
              intro A' c' wz hR hC ho
              have HSN := Lib.hid (HSA2.out.app HX5.out HMT.out hR hC ho)
              clear hR hC ho HSA2 HY
              go_wp2
              go_meet
              exact ⟨A', mt, c', _, rfl, HNX, HSN⟩
            | false =>
              have HNX : Hid (G = layTo x 12) := by show _ = _; rw [HG.out]; exact (layTo_no HBT.out).symm
              go_wp2
              go_meet
              exact ⟨A, m, c, G, rfl, HNX, HSR⟩
          case rest =>
            clear sk eB
            obtain ⟨A, m, c, G, rfl, HG, HSR⟩ := hcut
            obtain ⟨wr, hwr⟩ : ∃ wr, wr = wc := ⟨_, rfl⟩
            subst hwr
            obtain ⟨bt, hbt⟩ : ∃ bt, bitN H 12 = bt := ⟨_, rfl⟩
            have HBT : Hid (bitN (hasN x.kind) 12 = bt) := by show _ = _; rw [HH.out]; exact hbt
            have sk := HSA.out 12 (by decide) z12
            rw [hbt] at sk
            obtain ⟨Bk, hBk⟩ : ∃ B : UInt8, (if bt = true then 120 else 46) = B := ⟨_, rfl⟩
            have eB : ((Bk.toNat : Int) == 120) = bt := by rw [← hBk]; cases bt <;> rfl
            rw [hBk] at sk
            clear hBk hbt
            go_upto_if 68 with fail
            go_cut [3] (fun b wx => ∃ (A : Option Addr) (m c : Nat) (L : List UInt8), b = .slice A m c ∧ Hid (L = layTo x 13) ∧ Hid (ByS w w5 wx (fun b => b = cb ∨ b = tb) A m c L))
            case first =>
              cases bt with
              | true =>
                obtain ⟨al, hal⟩ : ∃ al, x.allow = al := ⟨_, rfl⟩
                have qk : wr.cell? ⟨cb, 13, none⟩ = some (.bool al) := by rw [cell_of_row _ _ _ _ _ _ (HSR.out.chg.heap HROW5.out (fun e => e.2 (.inl rfl))), ← hal]; rfl
                go_wp2_with fail
                refine (ref_flag al).mono ?_
                intro e wa hL
                obtain ⟨Y, y, rfl, _, hY, hCy⟩ := hL.slice
                obtain ⟨G2, hG2⟩ : ∃ G2, numB (if al then 1 else 0) = G2 := ⟨_, rfl⟩
                skip
                rw [hG2] at hY ⊢
                obtain ⟨r, hr⟩ : ∃ r, G2.length = r := ⟨_, rfl⟩
                rw [hr] at hY ⊢
                have HLR := Lib.hid hr
                have HY := Lib.hid (Kd.R_read hY).1
                have HSA2 := Lib.hid (HSR.out.new hCy)
                obtain ⟨mt, hmt⟩ : ∃ mt, (G ++ G2).length = mt := ⟨_, rfl⟩
                have HMT := Lib.hid hmt
                have HNX : Hid (G ++ G2 = layTo x 13) := by show _ = _; rw [HG.out, ← hG2]; rw [← hal, layTo_yes HBT.out]; rfl
                have hpn : G.length + r = mt := by rw [← hmt, List.length_append, hr]
                have HPN := Lib.hid hpn
                have hbd : mt ≤ 140737488355328 := by rw [← hmt, HNX.out]; have := HBL.out 13 (by omega); omega
                clear hL hY hCy hr hmt hpn hG2
                go_wp2_with (at_builtin; refine wp_appB rfl _ _ rfl w.heap.size _ _ (.slice A m c) G G2 Y r y rfl rfl HLR.out HSA2.out.row HY.out HSA2.out.base mt HPN.out hbd ?_)
                intro A' c' wz hR hC ho
                have HSN := Lib.hid (HSA2.out.app HX5.out HMT.out hR hC ho)
                clear hR hC ho HSA2 HY
                go_wp2
                go_meet
                exact ⟨A', mt, c', _, rfl, HNX, HSN⟩
              | false =>
                have HNX : Hid (G = layTo x 13) := by show _ = _; rw [HG.out]; exact (layTo_no HBT.out).symm
                go_wp2
                go_meet
                exact ⟨A, m, c, G, rfl, HNX, HSR⟩
            case rest =>
              clear sk eB
              obtain ⟨A, m, c, G, rfl, HG, HSR⟩ := hcut
              obtain ⟨wr, hwr⟩ : ∃ wr, wr = wc := ⟨_, rfl⟩
              subst hwr
              obtain ⟨bt, hbt⟩ : ∃ bt, bitN H 13 = bt := ⟨_, rfl⟩
              have HBT : Hid (bitN (hasN x.kind) 13 = bt) := by show _ = _; rw [HH.out]; exact hbt
              have sk := HSA.out 13 (by decide) z13
              rw [hbt] at sk
              obtain ⟨Bk, hBk⟩ : ∃ B : UInt8, (if bt = true then 120 else 46) = B := ⟨_, rfl⟩
              have eB : ((Bk.toNat : Int) == 120) = bt := by rw [← hBk]; cases bt <;> rfl
              rw [hBk] at sk
              clear hBk hbt
              go_upto_if 76 with fail
              go_cut [3] (fun b wx => ∃ (A : Option Addr) (m c : Nat) (L : List UInt8), b = .slice A m c ∧ Hid (L = layTo x 14) ∧ Hid (ByS w w5 wx (fun b => b = cb ∨ b = tb) A m c L))
              case first =>
                cases bt with
                | true =>
                  have qk : wr.cell? ⟨cb, 14, none⟩ = some (.int .u64 x.old) := by rw [cell_of_row _ _ _ _ _ _ (HSR.out.chg.heap HROW5.out (fun e => e.2 (.inl rfl)))]; rfl
                  go_wp2_with fail
                  refine (ref_num x.old HOK.out.old.1 HOK.out.old.2).mono ?_
                  intro e wa hL
                  obtain ⟨Y, y, rfl, _, hY, hCy⟩ := hL.slice
                  obtain ⟨G2, hG2⟩ : ∃ G2, numB x.old.toNat = G2 := ⟨_, rfl⟩
                  skip
                  rw [hG2] at hY ⊢
                  obtain ⟨r, hr⟩ : ∃ r, G2.length = r := ⟨_, rfl⟩
                  rw [hr] at hY ⊢
                  have HLR := Lib.hid hr
                  have HY := Lib.hid (Kd.R_read hY).1
                  have HSA2 := Lib.hid (HSR.out.new hCy)
                  obtain ⟨mt, hmt⟩ : ∃ mt, (G ++ G2).length = mt := ⟨_, rfl⟩
                  have HMT := Lib.hid hmt
                  have HNX : Hid (G ++ G2 = layTo x 14) := by show _ = _; rw [HG.out, ← hG2]; rw [layTo_yes HBT.out]; rfl
                  have hpn : G.length + r = mt := by rw [← hmt, List.length_append, hr]
                  have HPN := Lib.hid hpn
                  have hbd : mt ≤ 140737488355328 := by rw [← hmt, HNX.out]; have := HBL.out 14 (by omega); omega
                  clear hL hY hCy hr hmt hpn hG2
                  go_wp2_with (at_builtin; refine wp_appB rfl _ _ rfl w.heap.size _ _ (.slice A m c) G G2 Y r y rfl rfl HLR.out HSA2.out.row HY.out HSA2.out.base mt HPN.out hbd ?_)
                  intro A' c' wz hR hC ho
                  have HSN := Lib.hid (HSA2.out.app HX5.out HMT.out hR hC ho)
                  clear hR hC ho HSA2 HY
                  go_wp2
                  go_meet
                  exact ⟨A', mt, c', _, rfl, HNX, HSN⟩
                | false =>
                  have HNX : Hid (G = layTo x 14) := by show _ = _; rw [HG.out]; exact (layTo_no HBT.out).symm
                  go_wp2
                  go_meet
                  exact ⟨A, m, c, G, rfl, HNX, HSR⟩
              case rest =>
                clear sk eB
                obtain ⟨A, m, c, G, rfl, HG, HSR⟩ := hcut
                obtain ⟨wr, hwr⟩ : ∃ wr, wr = wc := ⟨_, rfl⟩
                subst hwr
                obtain ⟨bt, hbt⟩ : ∃ bt, bitN H 14 = bt := ⟨_, rfl⟩
                have HBT : Hid (bitN (hasN x.kind) 14 = bt) := by show _ = _; rw [HH.out]; exact hbt
                have sk := HSA.out 14 (by decide) z14
                rw [hbt] at sk
                obtain ⟨Bk, hBk⟩ : ∃ B : UInt8, (if bt = true then 120 else 46) = B := ⟨_, rfl⟩
                have eB : ((Bk.toNat : Int) == 120) = bt := by rw [← hBk]; cases bt <;> rfl
                rw [hBk] at sk
                clear hBk hbt
                go_upto_if 84 with fail
                go_cut [3] (fun b wx => ∃ (A : Option Addr) (m c : Nat) (L : List UInt8), b = .slice A m c ∧ Hid (L = layTo x 15) ∧ Hid (ByS w w5 wx (fun b => b = cb ∨ b = tb) A m c L))
                case first =>
                  cases bt with
                  | true =>
                    have qk : wr.cell? ⟨cb, 15, none⟩ = some (.int .u64 x.session) := by rw [cell_of_row _ _ _ _ _ _ (HSR.out.chg.heap HROW5.out (fun e => e.2 (.inl rfl)))]; rfl
                    go_wp2_with fail
                    refine (ref_num x.session HOK.out.session.1 HOK.out.session.2).mono ?_
                    intro e wa hL
                    obtain ⟨Y, y, rfl, _, hY, hCy⟩ := hL.slice
                    obtain ⟨G2, hG2⟩ : ∃ G2, numB x.session.toNat = G2 := ⟨_, rfl⟩
                    skip
                    rw [hG2] at hY ⊢
                    obtain ⟨r, hr⟩ : ∃ r, G2.length = r := ⟨_, rfl⟩
                    rw [hr] at hY ⊢
                    have HLR := Lib.hid hr
                    have HY := Lib.hid (Kd.R_read hY).1
                    have HSA2 := Lib.hid (HSR.out.new hCy)
                    obtain ⟨mt, hmt⟩ : ∃ mt, (G ++ G2).length = mt := ⟨_, rfl⟩
                    have HMT := Lib.hid hmt
                    have HNX : Hid (G ++ G2 = layTo x 15) := by show _ = _; rw [HG.out, ← hG2]; rw [layTo_yes HBT.out]; rfl
                    have hpn : G.length + r = mt := by rw [← hmt, List.length_append, hr]
                    have HPN := Lib.hid hpn
                    have hbd : mt ≤ 140737488355328 := by rw [← hmt, HNX.out]; have := HBL.out 15 (by omega); omega
                    clear hL hY hCy hr hmt hpn hG2
                    go_wp2_with (at_builtin; refine wp_appB rfl _ _ rfl w.heap.size _ _ (.slice A m c) G G2 Y r y rfl rfl HLR.out HSA2.out.row HY.out HSA2.out.base mt HPN.out hbd ?_)
                    intro A' c' wz hR hC ho
                    have HSN := Lib.hid (HSA2.out.app HX5.out HMT.out hR hC ho)
                    clear hR hC ho HSA2 HY
                    go_wp2
                    go_meet
                    exact ⟨A', mt, c', _, rfl, HNX, HSN⟩
                  | false =>
                    have HNX : Hid (G = layTo x 15) := by show _ = _; rw [HG.out]; exact (layTo_no HBT.out).symm
                    go_wp2
                    go_meet
                    exact ⟨A, m, c, G, rfl, HNX, HSR⟩
                case rest =>
                  clear sk eB
                  obtain ⟨A, m, c, G, rfl, HG, HSR⟩ := hcut
                  obtain ⟨wr, hwr⟩ : ∃ wr, wr = wc := ⟨_, rfl⟩
                  subst hwr
                  obtain ⟨bt, hbt⟩ : ∃ bt, bitN H 15 = bt := ⟨_, rfl⟩
                  have HBT : Hid (bitN (hasN x.kind) 15 = bt) := by show _ = _; rw [HH.out]; exact hbt
                  have sk := HSA.out 15 (by decide) z15
                  rw [hbt] at sk
                  obtain ⟨Bk, hBk⟩ : ∃ B : UInt8, (if bt = true then 120 else 46) = B := ⟨_, rfl⟩
                  have eB : ((Bk.toNat : Int) == 120) = bt := by rw [← hBk]; cases bt <;> rfl
                  rw [hBk] at sk
                  clear hBk hbt
                  cases bt with
                  | false =>
                    have HNX : Hid (G = layB x) := by show _ = _; rw [HG.out]; exact (layTo_no HBT.out).symm
                    go_wp2
                    go_ret
                    exact HNX.out ▸ HSR.out.laid HC5.out
                  | true =>
                    as_aux_lemma =>
                    obtain ⟨h1, h2⟩ := HS.out HBT.out
                    obtain ⟨l, hlC, hll, hlay, hlo, hn8⟩ := h1 A0 n c0 HK.out
                    have HLC := Lib.hid hlC
                    have HLL := Lib.hid hll
                    have HLAY := Lib.hid hlay
                    have HLO := Lib.hid hlo
                    have HLRB := Lib.hid h2
                    have HPL : Hid (∀ j, (preB layB (layTo x 15) l j).length ≤ 3600000) := fun j => by have h3 := preB_len (bs := layTo x 15) j (subs_oks hlC) hlo (by omega); have h4 := HBL.out 15 (by decide); show _ ≤ _; omega
                    clear h1 h2 hlC hll hlay hlo
                    have HQ : Hid (∀ wx (A : Option Addr) (m c : Nat) (G : List UInt8), ByS w w5 wx (fun b => b = cb ∨ b = tb) A m c G → wx.cell? ⟨cb, 16, none⟩ = some (.slice A0 n c0)) := fun wx A m c G h => by rw [cell_of_row _ _ _ _ _ _ (h.chg.heap HROW5.out (fun e => e.2 (.inl rfl)))]; rfl
                    have qk := HQ.out _ _ _ _ _ HSR.out
                    have hwn : IntKind.u64.wrap (n : Int) = (n : Int) := by rw [IntKind.wrap_u64]; omega
                    go_wp2_with fail
                    refine (ref_num (n : Int) (by omega) (by omega)).mono ?_
                    intro e wa hL
                    obtain ⟨Y, y, rfl, _, hY, hCy⟩ := hL.slice
                    obtain ⟨G2, hG2⟩ : ∃ G2, numB ((n : Int)).toNat = G2 := ⟨_, rfl⟩
                    skip
                    rw [hG2] at hY ⊢
                    obtain ⟨r, hr⟩ : ∃ r, G2.length = r := ⟨_, rfl⟩
                    rw [hr] at hY ⊢
                    have HLR := Lib.hid hr
                    have HY := Lib.hid (Kd.R_read hY).1
                    have HSA2 := Lib.hid (HSR.out.new hCy)
                    obtain ⟨mt, hmt⟩ : ∃ mt, (G ++ G2).length = mt := ⟨_, rfl⟩
                    have HMT := Lib.hid hmt
                    have HNX : Hid (G ++ G2 = preB layB (layTo x 15) l 0) := by show _ = _; rw [HG.out, ← hG2]; unfold preB; rw [HLL.out]; simp
                    have hpn : G.length + r = mt := by rw [← hmt, List.length_append, hr]
                    have HPN := Lib.hid hpn
                    have hbd : mt ≤ 140737488355328 := by rw [← hmt, HNX.out]; have := HPL.out 0; omega
                    clear hL hY hCy hr hmt hpn hG2
                    go_wp2_with (at_builtin; refine wp_appB rfl _ _ rfl w.heap.size _ _ (.slice A m c) G G2 Y r y rfl rfl HLR.out HSA2.out.row HY.out HSA2.out.base mt HPN.out hbd ?_)
                    intro A' c' wz hR hC ho
                    have HSN := Lib.hid (HSA2.out.app HX5.out HMT.out hR hC ho)
                    clear hR hC ho HSA2 HY
                    clear qk
                    go_wp2
                    go_loopw [3, 9] (fun b v wr => ∃ (j : Nat) (A : Option Addr) (m c : Nat) (L : List UInt8), j ≤ n ∧ b = .slice A m c ∧ v = .int .i64 j ∧ Hid (L = preB layB (layTo x 15) l j) ∧ Hid (ByS w w5 wr (fun b => b = cb ∨ b = tb) A m c L)) (fun _ v _ => n - (intOf v).toNat)
                    case atStart => exact ⟨0, A', mt, c', _, Nat.zero_le _, rfl, rfl, HNX, HSN⟩
                    case round =>
                      obtain ⟨j, A, m, c, G, hj, rfl, rfl, HG, HSR⟩ := hrel
                      have qk := HQ.out _ _ _ _ _ HSR.out
                      by_cases hlt : j < n
                      · have b1 : (j : Int) < (n : Int) := by omega
                        have b2 : (0 : Int) ≤ (j : Int) := by omega
                        obtain ⟨ye, hy⟩ : ∃ y, l[j]? = some y := ⟨_, List.getElem?_eq_getElem (by rw [HLL.out]; exact hlt)⟩
                        obtain ⟨ab, ao, ac, rfl, hab, hka, hac⟩ := Kd.C_at' (Kd.C_new HLC.out (HCW.out _ _ _ _ _ HSR.out)) hy
                        obtain ⟨T1, tc1, A1, n1, c1, rfl⟩ := cm_list len_sub hka
                        have HRNG : Hid (wr.rangeAt ab (ao + j * 17) (cmL ye T1 tc1 (.slice A1 n1 c1))) := fun i v hv => hac i v hv
                        have HKA := Lib.hid hka
                        have HY0 := Lib.hid hy
                        have HSO : Hid (subOk ye = true) := by
                          have := HLO.out
                          rw [List.all_eq_true] at this
                          exact this ye (List.mem_of_getElem? hy)
                        clear hy hab hka hac
                        go_wp2_with (first
                          | (refine wpList_load_mid rfl 26 (.tmp 111) rfl ab (ao + j * 17) rfl (cmL ye T1 tc1 (.slice A1 n1 c1)) _ HRNG.out Try.underlying26 rfl (by kernel_rfl) ?_; try simp only [Act.put, List.setIfInBounds_toArray, List.set_cons_zero, List.set_cons_succ])
                          | fail)
                        refine (HLRB.out wr ye (cmL ye T1 tc1 (.slice A1 n1 c1)).toArray HKA.out HSO.out).mono ?_
                        intro e wa hL
                        obtain ⟨Y, y, rfl, _, hY, hCy⟩ := hL.slice
                        obtain ⟨G2, hG2⟩ : ∃ G2, layB ye = G2 := ⟨_, rfl⟩
                        skip
                        rw [hG2] at hY ⊢
                        obtain ⟨r, hr⟩ : ∃ r, G2.length = r := ⟨_, rfl⟩
                        rw [hr] at hY ⊢
                        have HLR := Lib.hid hr
                        have HY := Lib.hid (Kd.R_read hY).1
                        have HSA2 := Lib.hid (HSR.out.new hCy)
                        obtain ⟨mt, hmt⟩ : ∃ mt, (G ++ G2).length = mt := ⟨_, rfl⟩
                        have HMT := Lib.hid hmt
                        have HNX : Hid (G ++ G2 = preB layB (layTo x 15) l (j + 1)) := by show _ = _; rw [HG.out, ← hG2]; rw [preB_succ layB (layTo x 15) l j ye HY0.out]
                        have hpn : G.length + r = mt := by rw [← hmt, List.length_append, hr]
                        have HPN := Lib.hid hpn
                        have hbd : mt ≤ 140737488355328 := by rw [← hmt, HNX.out]; have := HPL.out (j + 1); omega
                        clear hL hY hCy hr hmt hpn hG2
                        go_wp2_with (at_builtin; refine wp_appB rfl _ _ rfl w.heap.size _ _ (.slice A m c) G G2 Y r y rfl rfl HLR.out HSA2.out.row HY.out HSA2.out.base mt HPN.out hbd ?_)
                        intro A' c' wz hR hC ho
                        have HSN := Lib.hid (HSA2.out.app HX5.out HMT.out hR hC ho)
                        clear hR hC ho HSA2 HY
                        clear qk
                        go_wp2
                        exact ⟨⟨j + 1, A', mt, c', _, by omega, rfl, by go_num, HNX, HSN⟩, by simp [intOf]; omega⟩
                      · obtain rfl : j = n := by omega
                        have b1 : ¬ (j : Int) < (j : Int) := by omega
                        have HNX : Hid (G = layB x) := by
                          show _ = _
                          rw [HG.out, ← HLL.out, preB_all]
                          show _ = layTo x (15 + 1)
                          rw [layTo_yes HBT.out, ← HLAY.out]
                          rfl
                        go_wp2
                        go_ret
                        exact HNX.out ▸ HSR.out.laid HC5.out
#print axioms r_bytes_gen
end
/-- The reference's bytes of a command that is within none; of a command. -/
theorem r_bytes_0 {w : World} {ok : Nat → Prop} {x : Cm0} {cs : Array Value} (hx : cm0K.K w ok x cs.toList) (hs : subOk x = true) : Calls Try.prog 23 #[.agg cs] w (Laid w (layB x)) :=
  r_bytes_gen len_sub hx (fun h => absurd (hasN_subs h) (subOk_of hs).1) (by show ([] : List UInt8).length ≤ _; simp) (subOk_of hs).2
theorem few_of {w : World} {ok : Nat → Prop} {x : Cmd} {cs : List Value} (hx : comK.K w ok x cs) (hr : rightB x = true) : FewB x := by
  obtain ⟨T, tc, s, e, hl, hC, ⟨⟨A', c', e2, hlc, hCl⟩, -⟩, ho⟩ := cmd_cells (d := subsK) rfl hx
  have hm := field_of hr (j := 15) (by decide)
  unfold fieldOk at hm
  rw [Bool.and_eq_true] at hm
  have hm2 : (x.subs.all subOk && decide (x.subs.length ≤ 8)) = true := hm.2
  rw [Bool.and_eq_true] at hm2
  exact listL_le (subs_oks hCl) hm2.1 (of_decide_eq_true hm2.2)
theorem r_bytes {w : World} {ok : Nat → Prop} {x : Cmd} {cs : Array Value} (hx : comK.K w ok x cs.toList) (hr : rightB x = true) : Calls Try.prog 23 #[.agg cs] w (Laid w (layB x)) := by
  refine r_bytes_gen subs_sub hx (fun h => ⟨fun A n c hK => ?_, fun wx y cs hk hso => r_bytes_0 hk hso⟩) (few_of hx hr) hr
  obtain ⟨⟨A', c', e, hl, hC⟩, -⟩ := hK
  have e1 : Value.slice A n c = .slice A' x.subs.length c' := by simpa using e
  injection e1 with e1 e2 e3
  subst e1
  have hm := field_of hr (j := 15) (by decide)
  unfold fieldOk at hm
  rw [Bool.and_eq_true] at hm
  have hm2 : (x.subs.all subOk && decide (x.subs.length ≤ 8)) = true := hm.2
  rw [Bool.and_eq_true] at hm2
  have h8 := of_decide_eq_true hm2.2
  exact ⟨x.subs, hC, e2.symm, rfl, hm2.1, by omega⟩
#print axioms r_bytes
end Go.Proofs.Ythleagjnhpjhiaa