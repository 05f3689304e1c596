import Derived.Test.YthleagjnhpjhiaaFold16
/- Orders: whether a command may be: the reference's Right. -/
namespace Go.Proofs.Ythleagjnhpjhiaa
open Go.RowKit
set_option linter.unusedVariables false
set_option linter.unusedSimpArgs false
set_option maxRecDepth 100000
theorem rng17 {w : World} {g o : Nat} {α : Type} {x : Cm α} {T A : Option Addr} {tc n c : Nat} (h : w.rangeAt g o (cmL x T tc (.slice A n c))) :
    w.cell? ⟨g, o, none⟩ = some (.int .i64 x.kind) ∧ w.cell? ⟨g, o + 1, none⟩ = some (.int .i64 x.node) ∧ w.cell? ⟨g, o + 2, none⟩ = some (.int .i64 x.port) ∧ w.cell? ⟨g, o + 3, none⟩ = some (.int .i64 x.status) ∧
    w.cell? ⟨g, o + 4, none⟩ = some (.string x.id) ∧ w.cell? ⟨g, o + 5, none⟩ = some (.string x.name) ∧ w.cell? ⟨g, o + 6, none⟩ = some (.string x.service) ∧ w.cell? ⟨g, o + 7, none⟩ = some (.string x.remark) ∧ w.cell? ⟨g, o + 8, none⟩ = some (.string x.key) ∧ w.cell? ⟨g, o + 9, none⟩ = some (.string x.value) ∧ w.cell? ⟨g, o + 10, none⟩ = some (.string x.src) ∧ w.cell? ⟨g, o + 11, none⟩ = some (.string x.dst) ∧
    w.cell? ⟨g, o + 12, none⟩ = some (.slice T x.tags.length tc) ∧ w.cell? ⟨g, o + 13, none⟩ = some (.bool x.allow) ∧ w.cell? ⟨g, o + 14, none⟩ = some (.int .u64 x.old) ∧ w.cell? ⟨g, o + 15, none⟩ = some (.int .u64 x.session) ∧ w.cell? ⟨g, o + 16, none⟩ = some (.slice A n c) :=
  ⟨h 0 _ rfl, h 1 _ rfl, h 2 _ rfl, h 3 _ rfl, h 4 _ rfl, h 5 _ rfl, h 6 _ rfl, h 7 _ rfl, h 8 _ rfl, h 9 _ rfl, h 10 _ rfl, h 11 _ rfl, h 12 _ rfl, h 13 _ rfl, h 14 _ rfl, h 15 _ rfl, h 16 _ rfl⟩
section
variable {α : Type} [Sz α] {d : Kd α} {w : World} {ok : Nat → Prop} {x : Cm α}
/-- The commands within, where there may be some. -/
def SubEl (d : Kd α) (w : World) (ok : Nat → Prop) (x : Cm α) : Prop := bitN (hasN x.kind) 15 = true → ((∀ A n c, d.K w ok x.subs [.slice A n c] → ∃ l, cm0K.C w ok A l ∧ l.length = n ∧ Sz.may x.subs = l.all subOk) ∧ ∀ (wx : World) (y : Cm0) (cs : Array Value), cm0K.K wx ok y cs.toList → y.kind ≠ 18 → Calls Try.prog 9 #[.agg cs] wx (ToldN wx (rightB y)))
theorem num_field {j : Nat} {v : Int} (h : (nums x)[j]? = some v) : isF x j = (v != 0) ∧ mayF x j = numOk v := by
  match j, h with
  | 0, h => simp [nums] at h; subst h; exact ⟨rfl, rfl⟩
  | 1, h => simp [nums] at h; subst h; exact ⟨rfl, rfl⟩
  | 2, h => simp [nums] at h; subst h; exact ⟨rfl, rfl⟩
theorem txt_field {j : Nat} {s : ByteArray} (h : (txts x)[j]? = some s) : isF x (3 + j) = (!decide (s = ByteArray.empty)) ∧ mayF x (3 + j) = txtOk s := by
  match j, h with
  | 0, h => simp [txts] at h; subst h; exact ⟨rfl, rfl⟩
  | 1, h => simp [txts] at h; subst h; exact ⟨rfl, rfl⟩
  | 2, h => simp [txts] at h; subst h; exact ⟨rfl, rfl⟩
  | 3, h => simp [txts] at h; subst h; exact ⟨rfl, rfl⟩
  | 4, h => simp [txts] at h; subst h; exact ⟨rfl, rfl⟩
  | 5, h => simp [txts] at h; subst h; exact ⟨rfl, rfl⟩
  | 6, h => simp [txts] at h; subst h; exact ⟨rfl, rfl⟩
  | 7, h => simp [txts] at h; subst h; exact ⟨rfl, rfl⟩
/-- What the reference asks of tags, flag and the two long numbers at once. -/
def midOk (H n : Nat) (al : Bool) (o se : Int) : Bool := decide (n ≤ 8) && (decide (n = 0) || bitN H 11) && (!al || bitN H 12) && (decide (o = 0) || bitN H 13) && (decide (se = 0) || bitN H 14)
theorem okTo_at {n j : Nat} (h : okTo x n = true) (hj : j < n) : fieldOk x j = true := by
  unfold okTo at h
  rw [List.all_eq_true] at h
  exact h j (List.mem_range.2 hj)
theorem rightB_at (h : rightB x = true) {j : Nat} (hj : j < 16) : fieldOk x j = true := by
  unfold rightB at h
  rw [Bool.and_eq_true] at h
  exact okTo_at h.2 hj
theorem mid_of (h : rightB x = true) : midOk (hasN x.kind) x.tags.length x.allow x.old x.session = true := by
  have h11 := rightB_at h (j := 11) (by decide)
  have h12 := rightB_at h (j := 12) (by decide)
  have h13 := rightB_at h (j := 13) (by decide)
  have h14 := rightB_at h (j := 14) (by decide)
  simp only [fieldOk, isF, mayF, Bool.and_eq_true, Bool.or_eq_true, Bool.not_eq_true', decide_eq_true_eq, decide_eq_false_iff_not, bne_eq_false_iff_eq] at h11 h12 h13 h14
  unfold midOk
  simp only [Bool.and_eq_true, Bool.or_eq_true, Bool.not_eq_true', decide_eq_true_eq]
  refine ⟨⟨⟨⟨h11.2.2, ?_⟩, ?_⟩, ?_⟩, ?_⟩
  · rcases h11.1 with h | h
    · exact .inr h
    · exact .inl (by omega)
  · rcases h12.1 with h | h
    · exact .inr h
    · exact .inl h
  · rcases h13.1 with h | h
    · exact .inr h
    · exact .inl h
  · rcases h14.1 with h | h
    · exact .inr h
    · exact .inl h
theorem no_of {b : Bool} (h : rightB x = true → b = true) (hb : b = false) : rightB x = false := by
  cases hr : rightB x with
  | false => rfl
  | true => rw [h hr] at hb; cases hb
/-- What it asks of the commands' number. -/
def subLen (H n : Nat) : Bool := decide (n ≤ 8) && (decide (n = 0) || bitN H 15)
theorem sub_of (h : rightB x = true) : subLen (hasN x.kind) (Sz.len x.subs) = true := by
  have h15 := rightB_at h (j := 15) (by decide)
  simp only [fieldOk, isF, mayF, Bool.and_eq_true, Bool.or_eq_true, Bool.not_eq_true', decide_eq_true_eq, decide_eq_false_iff_not] at h15
  unfold subLen
  simp only [Bool.and_eq_true, Bool.or_eq_true, decide_eq_true_eq]
  refine ⟨h15.2.2, ?_⟩
  rcases h15.1 with h | h
  · exact .inr h
  · exact .inl (by omega)
theorem tags_of (h : rightB x = true) : tagsOk x.tags = true := by
  have h11 := rightB_at h (j := 11) (by decide)
  simp only [fieldOk, isF, mayF, Bool.and_eq_true] at h11
  exact h11.2.1
theorem subs_of (h : rightB x = true) : Sz.may x.subs = true := by
  have h15 := rightB_at h (j := 15) (by decide)
  simp only [fieldOk, isF, mayF, Bool.and_eq_true] at h15
  exact h15.2.1
theorem right_all (h0 : hasN x.kind ≠ 0) (h1 : ∀ i, i < 11 → fieldOk x i = true) (h2 : midOk (hasN x.kind) x.tags.length x.allow x.old x.session = true) (h3 : tagsOk x.tags = true) (h4 : subLen (hasN x.kind) (Sz.len x.subs) = true) (h5 : Sz.may x.subs = true) : rightB x = true := by
  unfold midOk at h2
  unfold subLen at h4
  simp only [Bool.and_eq_true, Bool.or_eq_true, Bool.not_eq_true', decide_eq_true_eq] at h2 h4
  unfold rightB
  rw [Bool.and_eq_true]
  refine ⟨decide_eq_true h0, ?_⟩
  unfold okTo
  rw [List.all_eq_true]
  intro k hk
  have hk := List.mem_range.1 hk
  by_cases h11 : k < 11
  · exact h1 k h11
  · have hk2 : k = 11 ∨ k = 12 ∨ k = 13 ∨ k = 14 ∨ k = 15 := by omega
    rcases hk2 with rfl | rfl | rfl | rfl | rfl <;> simp only [fieldOk, isF, mayF, Bool.and_eq_true, Bool.or_eq_true, Bool.not_eq_true', decide_eq_true_eq, decide_eq_false_iff_not, bne_eq_false_iff_eq]
    · refine ⟨?_, h3, h2.1.1.1.1⟩
      rcases h2.1.1.1.2 with h | h
      · exact .inr (by omega)
      · exact .inl h
    · exact ⟨h2.1.1.2.symm, trivial⟩
    · exact ⟨h2.1.2.symm, trivial⟩
    · exact ⟨h2.2.symm, trivial⟩
    · refine ⟨?_, h5, h4.1⟩
      rcases h4.2 with h | h
      · exact .inr (by omega)
      · exact .inl h
theorem right_no {j : Nat} (hj : j < 16) (h : fieldOk x j = false) : rightB x = false := by
  unfold rightB
  rw [okTo_not h hj, Bool.and_false]
theorem hasS_isEmpty (k : Int) : (hasS k).toList.isEmpty = decide (hasN k = 0) := by
  rw [isEmpty_eq]
  by_cases h : hasN k = 0
  · rw [show hasS k = ByteArray.empty from by unfold hasS; rw [if_pos h], decide_eq_true h]; rfl
  · rw [decide_eq_false h]
    have h1 := hasS_size h
    simp only [decide_eq_false_iff_not]
    intro e
    rw [e] at h1
    cases h1
set_option maxHeartbeats 8000000 in
theorem r_right_gen (hd : SubK d) {cs : Array Value} (hx : (cmdK d).K w ok x cs.toList) (hs : SubEl d w ok x) (h0m : Sz.len x.subs = 0 → Sz.may x.subs = ([] : List Cm0).all subOk) : Calls Try.prog 9 #[.agg cs] w (ToldN w (rightB x)) := by
  obtain ⟨T, tc, A, n, c, rfl, hn, hc1, hc2, htc, hT, hK, hok⟩ := cm_row hd hx
  obtain ⟨w1, hw1⟩ : ∃ w1, w.alloc (.cells (cmL x T tc (.slice A n c)).toArray 26) = w1 := ⟨_, rfl⟩
  have hb1 := heap_alloc_new w (.cells (cmL x T tc (.slice A n c)).toArray 26)
  have h1 : Chg nob w w1 := by rw [← hw1]; exact (Chg.refl nob w).alloc _
  obtain ⟨cb, hcb⟩ : ∃ cb, w.heap.size = cb := ⟨_, rfl⟩
  rw [hw1, hcb] at hb1
  have HB1 := Lib.hid hb1
  have HC1 := Lib.hid h1
  have HW1 := Lib.hid hw1
  have HS := Lib.hid hs
  have H0M := Lib.hid h0m
  have HT := Lib.hid hT
  have HK := Lib.hid hK
  have HOK := Lib.hid hok
  have HN := Lib.hid hn
  have x0 : w1.cell? ⟨cb, 0, none⟩ = some (.int .i64 x.kind) := by rw [cell_of_row _ _ _ _ _ _ hb1]; rfl
  clear hb1 h1 hw1 hs h0m hT hK hok hx hn htc
  obtain ⟨V, hV⟩ : ∃ V, (cmL x T tc (.slice A n c)).toArray = V := ⟨_, rfl⟩
  rw [hV] at HW1 ⊢
  clear hV
  go_enter Try.func9, Try.ntmps9
  go_upto_region 1 with fail
  rw [HW1.out]
  go_wp2_with fail
  refine (r_has w1 x.kind).mono ?_
  rintro e w2 ⟨rfl, hc2'⟩
  obtain ⟨S, hS⟩ : ∃ S, hasS x.kind = S := ⟨_, rfl⟩
  have hSe := hasS_isEmpty x.kind
  rw [hS] at hSe ⊢
  have HSS := Lib.hid hS
  obtain ⟨H, hH⟩ : ∃ H, hasN x.kind = H := ⟨_, rfl⟩
  rw [hH] at hSe
  have HH := Lib.hid hH
  have HC12 := Lib.hid hc2'
  have HC2 := Lib.hid (HC1.out.thenNew hc2')
  have HB2 := Lib.hid (hc2'.heap HB1.out (not_nob _))
  clear hS hH hc2' x0
  by_cases h0 : H = 0
  · rw [decide_eq_true h0] at hSe
    have hr : rightB x = false := by unfold rightB; rw [HH.out, h0]; rfl
    have HR := Lib.hid hr
    clear hr h0
    go_wp2
    go_ret
    rw [HR.out]
    exact ⟨rfl, HC2.out⟩
  · rw [decide_eq_false h0] at hSe
    have H0 := Lib.hid h0
    have HSA : Hid (∀ j (hj : j < 16) (h : j < S.size), S[j] = if bitN H j then 120 else 46) := fun j hj h => by
      have := hasS_at (k := x.kind) (by rw [HH.out]; exact h0) hj
      rw [HSS.out, HH.out, Array.getElem?_eq_getElem h] at this
      exact Option.some.inj this
    have HSZ : Hid (S.size = 16) := by
      have := hasS_size (k := x.kind) (by rw [HH.out]; exact h0)
      rw [HSS.out] at this
      exact this
    clear h0
    obtain ⟨k0, k1, k2, k3, k4, k5, k6, k7, k8, k9, k10, k11, k12, k13, k14, k15, k16⟩ := row17 HB2.out
    have hb3 := heap_alloc_new w2 (.cells #[.int .i64 x.node, .int .i64 x.port, .int .i64 x.status] 3)
    have hc3 := (Chg.refl nob w2).alloc (.cells #[.int .i64 x.node, .int .i64 x.port, .int .i64 x.status] 3)
    obtain ⟨w3, hw3⟩ : ∃ w3, w2.alloc (.cells #[.int .i64 x.node, .int .i64 x.port, .int .i64 x.status] 3) = w3 := ⟨_, rfl⟩
    rw [hw3] at hb3 hc3
    obtain ⟨nb, hnb⟩ : ∃ nb, w2.heap.size = nb := ⟨_, rfl⟩
    rw [hnb] at hb3
    have HB3 := Lib.hid hb3
    have HC23 := Lib.hid hc3
    have HC3 := Lib.hid (HC2.out.thenNew hc3)
    have HROW3 := Lib.hid (hc3.heap HB2.out (not_nob _))
    clear hb3 hc3
    go_upto_region 5 with fail
    clear hw3 hnb k0 k1 k2 k3 k4 k5 k6 k7 k8 k9 k10 k11 k12 k13 k14 k15 k16
    go_wp2
    go_loopw [5] (fun v wr => ∃ j : Nat, j ≤ 3 ∧ v = .int .i64 j ∧ wr = w3 ∧ Hid (∀ i, i < j → fieldOk x i = true)) (fun v _ => 3 - (intOf v).toNat)
    case atStart => exact ⟨0, Nat.zero_le _, rfl, rfl, fun i hi => by omega⟩
    case round =>
      obtain ⟨j, hj, rfl, hwr, HJ⟩ := hrel
      subst hwr
      by_cases hlt : j < 3
      · have b1 : (j : Int) < 3 := by omega
        have b2 : (0 : Int) ≤ (j : Int) := by omega
        obtain ⟨v, hv⟩ : ∃ v, (nums x)[j]? = some v := ⟨_, List.getElem?_eq_getElem (by simp [nums]; omega)⟩
        have hcell : wr.cell? ⟨nb, j, none⟩ = some (.int .i64 v) := by
          rw [cell_of_row _ _ _ _ _ _ HB3.out]
          have : ((nums x).map (Value.int .i64))[j]? = some (.int .i64 v) := by rw [List.getElem?_map, hv]; rfl
          simpa [nums] using this
        obtain ⟨hfi, hfm⟩ := num_field hv
        have HFI := Lib.hid hfi
        have HFM := Lib.hid hfm
        have HNO : Hid (fieldOk x j = false → ToldN w (rightB x) (.returned (.bool false)) wr) := fun h => ⟨by rw [right_no (by omega) h], HC3.out⟩
        have HYES : Hid (fieldOk x j = true → ∀ i, i < j + 1 → fieldOk x i = true) := fun h i hi => by
          by_cases e : i = j
          · rw [e]; exact h
          · exact HJ.out i (by omega)
        have hsz : j < S.size := by rw [HSZ.out]; omega
        have hsa := HSA.out j (by omega) hsz
        have HSJ := Lib.hid hsa
        clear hv hfi hfm hsa
        by_cases hv0 : v < 0
        · go_wp2
          go_ret
          refine HNO.out ?_
          unfold fieldOk
          rw [HFM.out, show numOk v = false from by unfold numOk; rw [decide_eq_false (by omega)]; rfl, Bool.and_false]
        · by_cases hv1 : v > 65535
          · go_wp2
            go_ret
            refine HNO.out ?_
            unfold fieldOk
            rw [HFM.out, show numOk v = false from by unfold numOk; rw [decide_eq_false (p := v ≤ 65535) (by omega), Bool.and_false], Bool.and_false]
          · have HNOK : Hid (numOk v = true) := by show numOk v = true; unfold numOk; rw [decide_eq_true (by omega), decide_eq_true (by omega)]; rfl
            by_cases hv2 : v = 0
            · subst hv2
              have HN := Lib.hid (HYES.out (by unfold fieldOk; rw [HFM.out, HNOK.out, HFI.out]; simp))
              go_wp2
              exact ⟨⟨j + 1, by omega, by go_num, trivial, HN⟩, by simp [intOf]; omega⟩
            · have e2 : (v != 0) = true := by simpa using hv2
              have hsa := HSJ.out
              obtain ⟨bt, hbt⟩ : ∃ bt, bitN H j = bt := ⟨_, rfl⟩
              have hff : fieldOk x j = bt := by unfold fieldOk; rw [HFM.out, HNOK.out, HFI.out, HH.out, hbt, e2]; simp
              have HFF := Lib.hid hff
              rw [hbt] at hsa
              clear hff hbt
              have b4 : (j : Int) < (S.size : Int) := by omega
              cases bt with
              | true =>
                simp only [if_true] at hsa
                have HN := Lib.hid (HYES.out HFF.out)
                go_wp2
                exact ⟨⟨j + 1, by omega, by go_num, trivial, HN⟩, by simp [intOf]; omega⟩
              | false =>
                simp only [Bool.false_eq_true, if_false] at hsa
                go_wp2
                go_ret
                exact HNO.out HFF.out
      · obtain rfl : j = 3 := by omega
        have HROW := HROW3
        have HRNG : Hid (wr.rangeAt cb 0 (cmL x T tc (.slice A n c))) := rng_row HROW3.out
        go_wp2_with (first
          | (refine wpList_load_mid rfl 26 (.tmp 1) rfl cb 0 rfl (cmL x T tc (.slice A n c)) _ HRNG.out Try.underlying26 rfl (by kernel_rfl) ?_; try simp only [Act.put, List.setIfInBounds_toArray, List.set_cons_zero, List.set_cons_succ])
          | fail)
        refine (r_texts (w := wr) (x := x)).mono ?_
        rintro e w4 ⟨tb, rfl, htb, htc4, -, hc4⟩
        have HTX := Lib.hid htc4
        have HC4 := Lib.hid (HC3.out.thenNew hc4)
        have HROW4 := Lib.hid (hc4.heap HROW3.out (not_nob _))
        clear htc4 hc4
        go_wp2
        go_loopw [7] (fun v wr => ∃ j : Nat, j ≤ 8 ∧ v = .int .i64 j ∧ wr = w4 ∧ Hid (∀ i, i < 3 + j → fieldOk x i = true)) (fun v _ => 8 - (intOf v).toNat)
        case atStart => exact ⟨0, Nat.zero_le _, rfl, rfl, HJ.out⟩
        case round =>
          obtain ⟨j, hj, rfl, hwr, HJ2⟩ := hrel
          subst hwr
          by_cases hlt : j < 8
          · have b1 : (j : Int) < 8 := by omega
            have b2 : (0 : Int) ≤ (j : Int) := by omega
            obtain ⟨s, hs⟩ : ∃ s, (txts x)[j]? = some s := ⟨_, List.getElem?_eq_getElem (by simp [txts]; omega)⟩
            have hcell := HTX.out j s hs
            have hssz : s.size ≤ 9223372036854775807 := by have := HOK.out.txt s (List.mem_of_getElem? hs); omega
            obtain ⟨hfi, hfm⟩ := txt_field hs
            have HFI := Lib.hid hfi
            have HFM := Lib.hid hfm
            have HNO : Hid (fieldOk x (3 + j) = false → ToldN w (rightB x) (.returned (.bool false)) wr) := fun h => ⟨by rw [right_no (by omega) h], HC4.out⟩
            have HYES : Hid (fieldOk x (3 + j) = true → ∀ i, i < 3 + (j + 1) → fieldOk x i = true) := fun h i hi => by
              by_cases e : i = 3 + j
              · rw [e]; exact h
              · exact HJ2.out i (by omega)
            have hsz : 3 + j < S.size := by rw [HSZ.out]; omega
            have hsa := HSA.out (3 + j) (by omega) hsz
            have HSJ := Lib.hid hsa
            clear hs hfi hfm hsa
            by_cases h8 : s.size ≤ 80
            · have b3 : ¬ ((s.size : Int) > 80) := by omega
              have HNOK : Hid (txtOk s = true) := by show txtOk s = true; unfold txtOk; rw [decide_eq_true (by omega)]
              by_cases hv2 : s = ByteArray.empty
              · have hse : s.toList.isEmpty = true := by rw [isEmpty_eq, decide_eq_true hv2]
                have HN := Lib.hid (HYES.out (by unfold fieldOk; rw [HFM.out, HNOK.out, HFI.out, decide_eq_true hv2]; simp))
                clear hv2
                go_wp2
                exact ⟨⟨j + 1, by omega, by go_num, trivial, HN⟩, by simp [intOf]; omega⟩
              · have hse : s.toList.isEmpty = false := by rw [isEmpty_eq, decide_eq_false hv2]
                have hsa := HSJ.out
                obtain ⟨bt, hbt⟩ : ∃ bt, bitN H (3 + j) = bt := ⟨_, rfl⟩
                have hff : fieldOk x (3 + j) = bt := by unfold fieldOk; rw [HFM.out, HNOK.out, HFI.out, HH.out, hbt, decide_eq_false hv2]; simp
                have HFF := Lib.hid hff
                rw [hbt] at hsa
                clear hff hbt hv2
                have b4 : (3 : Int) + (j : Int) < (S.size : Int) := by omega
                have b5 : (0 : Int) ≤ (3 : Int) + (j : Int) := by omega
                have b6 : ((3 : Int) + (j : Int)).toNat = 3 + j := by omega
                cases bt with
                | true =>
                  simp only [if_true] at hsa
                  have HN := Lib.hid (HYES.out HFF.out)
                  go_wp2
                  exact ⟨⟨j + 1, by omega, by go_num, trivial, HN⟩, by simp [intOf]; omega⟩
                | false =>
                  simp only [Bool.false_eq_true, if_false] at hsa
                  go_wp2
                  go_ret
                  exact HNO.out HFF.out
            · have b3 : (s.size : Int) > 80 := by omega
              go_wp2
              go_ret
              refine HNO.out ?_
              unfold fieldOk
              rw [HFM.out, show txtOk s = false from by unfold txtOk; rw [decide_eq_false (by omega)], Bool.and_false]
          · obtain rfl : j = 8 := by omega
            obtain ⟨w4, hw4⟩ : ∃ w4, w4 = wr := ⟨_, rfl⟩
            subst hw4
            obtain ⟨tl, htl⟩ : ∃ tl, x.tags.length = tl := ⟨_, rfl⟩
            obtain ⟨al, hal⟩ : ∃ al, x.allow = al := ⟨_, rfl⟩
            obtain ⟨oo, hoo⟩ : ∃ oo, x.old = oo := ⟨_, rfl⟩
            obtain ⟨se, hse⟩ : ∃ se, x.session = se := ⟨_, rfl⟩
            have HMID : Hid (rightB x = true → midOk H tl al oo se = true) := fun h => by have := mid_of h; rwa [HH.out, htl, hal, hoo, hse] at this
            have HVAR := Lib.hid (And.intro htl (And.intro hal (And.intro hoo hse)))
            have HCELLS : Hid (w4.cell? ⟨cb, 12, none⟩ = some (.slice T tl tc) ∧ w4.cell? ⟨cb, 13, none⟩ = some (.bool al) ∧ w4.cell? ⟨cb, 14, none⟩ = some (.int .u64 oo) ∧ w4.cell? ⟨cb, 15, none⟩ = some (.int .u64 se) ∧ w4.cell? ⟨cb, 16, none⟩ = some (.slice A n c)) := by
              obtain ⟨k0, k1, k2, k3, k4, k5, k6, k7, k8, k9, k10, k11, k12, k13, k14, k15, k16⟩ := row17 HROW4.out
              rw [htl] at k12
              rw [hal] at k13
              rw [hoo] at k14
              rw [hse] at k15
              exact ⟨k12, k13, k14, k15, k16⟩
            clear htl hal hoo hse
            obtain ⟨k12, k13, k14, k15, k16⟩ := HCELLS.out
            have z11 : 11 < S.size := by rw [HSZ.out]; decide
            have z12 : 12 < S.size := by rw [HSZ.out]; decide
            have z13 : 13 < S.size := by rw [HSZ.out]; decide
            have z14 : 14 < S.size := by rw [HSZ.out]; decide
            have z15 : 15 < S.size := by rw [HSZ.out]; decide
            have y11 : (11 : Int) < (S.size : Int) := by omega
            have y12 : (12 : Int) < (S.size : Int) := by omega
            have y13 : (13 : Int) < (S.size : Int) := by omega
            have y14 : (14 : Int) < (S.size : Int) := by omega
            have y15 : (15 : Int) < (S.size : Int) := by omega
            go_upto_region 16 with fail
            go_cut [120] (fun v wx => v = .bool (!midOk H tl al oo se) ∧ wx = w4)
            case first =>
              as_aux_lemma =>
              obtain ⟨b11, h11⟩ : ∃ b, bitN H 11 = b := ⟨_, rfl⟩
              have s11 := HSA.out 11 (by decide) z11
              rw [h11] at s11
              obtain ⟨B11, hB11⟩ : ∃ B : UInt8, (if b11 = true then 120 else 46) = B := ⟨_, rfl⟩
              have n11 : ((B11.toNat : Int) != 120) = !b11 := by rw [← hB11]; cases b11 <;> rfl
              rw [hB11] at s11
              clear hB11
              obtain ⟨b12, h12⟩ : ∃ b, bitN H 12 = b := ⟨_, rfl⟩
              have s12 := HSA.out 12 (by decide) z12
              rw [h12] at s12
              obtain ⟨B12, hB12⟩ : ∃ B : UInt8, (if b12 = true then 120 else 46) = B := ⟨_, rfl⟩
              have n12 : ((B12.toNat : Int) != 120) = !b12 := by rw [← hB12]; cases b12 <;> rfl
              rw [hB12] at s12
              clear hB12
              obtain ⟨b13, h13⟩ : ∃ b, bitN H 13 = b := ⟨_, rfl⟩
              have s13 := HSA.out 13 (by decide) z13
              rw [h13] at s13
              obtain ⟨B13, hB13⟩ : ∃ B : UInt8, (if b13 = true then 120 else 46) = B := ⟨_, rfl⟩
              have n13 : ((B13.toNat : Int) != 120) = !b13 := by rw [← hB13]; cases b13 <;> rfl
              rw [hB13] at s13
              clear hB13
              obtain ⟨b14, h14⟩ : ∃ b, bitN H 14 = b := ⟨_, rfl⟩
              have s14 := HSA.out 14 (by decide) z14
              rw [h14] at s14
              obtain ⟨B14, hB14⟩ : ∃ B : UInt8, (if b14 = true then 120 else 46) = B := ⟨_, rfl⟩
              have n14 : ((B14.toNat : Int) != 120) = !b14 := by rw [← hB14]; cases b14 <;> rfl
              rw [hB14] at s14
              clear hB14
              have HMD : Hid (midOk H tl al oo se = (decide (tl ≤ 8) && (decide (tl = 0) || b11) && (!al || b12) && (decide (oo = 0) || b13) && (decide (se = 0) || b14))) := by show _ = _; unfold midOk; rw [h11, h12, h13, h14]
              clear h11 h12 h13 h14
              by_cases t8 : tl ≤ 8
              · have a8 : ¬ (tl : Int) > 8 := by omega
                obtain ⟨p11, hp11⟩ : ∃ p, decide (0 < tl) = p := ⟨_, rfl⟩
                obtain ⟨p13, hp13⟩ : ∃ p, (oo != 0) = p := ⟨_, rfl⟩
                obtain ⟨p14, hp14⟩ : ∃ p, (se != 0) = p := ⟨_, rfl⟩
                have HMD2 : Hid (midOk H tl al oo se = ((!(p11 && !b11)) && !(al && !b12) && !(p13 && !b13) && !(p14 && !b14))) := by
                  show _ = _
                  rw [HMD.out, decide_eq_true t8, ← hp11, ← hp13, ← hp14]
                  have e1 : decide (tl = 0) = !decide (0 < tl) := by by_cases h : tl = 0; simp [h]; simp [h]; omega
                  have e2 : ∀ z : Int, decide (z = 0) = !(z != 0) := fun z => by by_cases h : z = 0 <;> simp [h]
                  rw [e1, e2 oo, e2 se]
                  cases decide (0 < tl) <;> cases b11 <;> cases al <;> cases b12 <;> cases (oo != 0) <;> cases b13 <;> cases (se != 0) <;> cases b14 <;> rfl
                clear t8
                refine wp_region_lit ?_
                refine wpList_take (v := ?_) (by rfl) ?_ ?_
                rotate_left 1
                · (go_simp; try with_reducible rfl)
                simp only [Act.put, List.setIfInBounds_toArray, List.set_cons_zero, List.set_cons_succ]
                refine wpList_take (v := ?_) (by rfl) ?_ ?_
                rotate_left 1
                · (go_simp; try with_reducible rfl)
                simp only [Act.put, List.setIfInBounds_toArray, List.set_cons_zero, List.set_cons_succ]
                refine wpList_take (v := ?_) (by rfl) ?_ ?_
                rotate_left 1
                · (go_simp; try with_reducible rfl)
                simp only [Act.put, List.setIfInBounds_toArray, List.set_cons_zero, List.set_cons_succ]
                refine wpList_take (v := ?_) (by rfl) ?_ ?_
                rotate_left 1
                · (go_simp; try with_reducible rfl)
                simp only [Act.put, List.setIfInBounds_toArray, List.set_cons_zero, List.set_cons_succ]
                refine wpList_take (v := ?_) (by rfl) ?_ ?_
                rotate_left 1
                · (go_simp; try with_reducible rfl)
                simp only [Act.put, List.setIfInBounds_toArray, List.set_cons_zero, List.set_cons_succ]
                refine wpList_take (v := ?_) (by rfl) ?_ ?_
                rotate_left 1
                · (go_simp; try with_reducible rfl)
                simp only [Act.put, List.setIfInBounds_toArray, List.set_cons_zero, List.set_cons_succ]
                refine wpList_take (v := ?_) (by rfl) ?_ ?_
                rotate_left 1
                · (go_simp; try with_reducible rfl)
                simp only [Act.put, List.setIfInBounds_toArray, List.set_cons_zero, List.set_cons_succ]
                refine wpList_take (v := ?_) (by rfl) ?_ ?_
                rotate_left 1
                · (go_simp; try with_reducible rfl)
                simp only [Act.put, List.setIfInBounds_toArray, List.set_cons_zero, List.set_cons_succ]
                refine wpList_take (v := ?_) (by rfl) ?_ ?_
                rotate_left 1
                · (go_simp; try with_reducible rfl)
                simp only [Act.put, List.setIfInBounds_toArray, List.set_cons_zero, List.set_cons_succ]
                refine wpList_take (v := ?_) (by rfl) ?_ ?_
                rotate_left 1
                · (go_simp; try with_reducible rfl)
                simp only [Act.put, List.setIfInBounds_toArray, List.set_cons_zero, List.set_cons_succ]
                refine wpList_may (g := p11) (v := .string S) (by cases p11 <;> rfl) (fun hg => by go_simp) ?_
                simp only [Act.put, List.setIfInBounds_toArray, List.set_cons_zero, List.set_cons_succ]
                refine wpList_may (g := p11) (v := .int .u8 (B11.toNat : Int)) (by cases p11 <;> rfl) (fun hg => by subst hg; simp only [may_true]; go_simp) ?_
                simp only [Act.put, List.setIfInBounds_toArray, List.set_cons_zero, List.set_cons_succ]
                refine wpList_may (g := p11) (v := .bool (!b11)) (by cases p11 <;> rfl) (fun hg => by subst hg; simp only [may_true]; go_simp; try rw [n11]) ?_
                simp only [Act.put, List.setIfInBounds_toArray, List.set_cons_zero, List.set_cons_succ]
                refine wpList_take (v := .bool (p11 && !b11)) (by rfl) (by cases p11 <;> (simp only [may_true, may_false]; go_simp)) ?_
                simp only [Act.put, List.setIfInBounds_toArray, List.set_cons_zero, List.set_cons_succ]
                refine wpList_take (v := .bool (p11 && !b11)) (by rfl) (by go_simp) ?_
                simp only [Act.put, List.setIfInBounds_toArray, List.set_cons_zero, List.set_cons_succ]
                refine wpList_take (v := ?_) (by rfl) ?_ ?_
                rotate_left 1
                · (go_simp; try with_reducible rfl)
                simp only [Act.put, List.setIfInBounds_toArray, List.set_cons_zero, List.set_cons_succ]
                obtain ⟨c11, hc11⟩ : ∃ c, (p11 && !b11) = c := ⟨_, rfl⟩
                rw [hc11]
                have HC11 := Lib.hid hc11
                clear hc11
                cases c11 with
                | true =>
                  go_wp2
                  go_meet
                  exact ⟨by rw [HMD2.out, HC11.out]; simp, rfl⟩
                | false =>
                  refine wpList_take (v := ?_) (by rfl) ?_ ?_
                  rotate_left 1
                  · (go_simp; try with_reducible rfl)
                  simp only [Act.put, List.setIfInBounds_toArray, List.set_cons_zero, List.set_cons_succ]
                  refine wpList_take (v := ?_) (by rfl) ?_ ?_
                  rotate_left 1
                  · (go_simp; try with_reducible rfl)
                  simp only [Act.put, List.setIfInBounds_toArray, List.set_cons_zero, List.set_cons_succ]
                  refine wpList_take (v := ?_) (by rfl) ?_ ?_
                  rotate_left 1
                  · (go_simp; try with_reducible rfl)
                  simp only [Act.put, List.setIfInBounds_toArray, List.set_cons_zero, List.set_cons_succ]
                  refine wpList_may (g := al) (v := .string S) (by cases al <;> rfl) (fun hg => by go_simp) ?_
                  simp only [Act.put, List.setIfInBounds_toArray, List.set_cons_zero, List.set_cons_succ]
                  refine wpList_may (g := al) (v := .int .u8 (B12.toNat : Int)) (by cases al <;> rfl) (fun hg => by subst hg; simp only [may_true]; go_simp) ?_
                  simp only [Act.put, List.setIfInBounds_toArray, List.set_cons_zero, List.set_cons_succ]
                  refine wpList_may (g := al) (v := .bool (!b12)) (by cases al <;> rfl) (fun hg => by subst hg; simp only [may_true]; go_simp; try rw [n12]) ?_
                  simp only [Act.put, List.setIfInBounds_toArray, List.set_cons_zero, List.set_cons_succ]
                  refine wpList_take (v := .bool (al && !b12)) (by rfl) (by cases al <;> (simp only [may_true, may_false]; go_simp)) ?_
                  simp only [Act.put, List.setIfInBounds_toArray, List.set_cons_zero, List.set_cons_succ]
                  refine wpList_take (v := .bool (al && !b12)) (by rfl) (by go_simp) ?_
                  simp only [Act.put, List.setIfInBounds_toArray, List.set_cons_zero, List.set_cons_succ]
                  refine wpList_take (v := ?_) (by rfl) ?_ ?_
                  rotate_left 1
                  · (go_simp; try with_reducible rfl)
                  simp only [Act.put, List.setIfInBounds_toArray, List.set_cons_zero, List.set_cons_succ]
                  obtain ⟨c12, hc12⟩ : ∃ c, (al && !b12) = c := ⟨_, rfl⟩
                  rw [hc12]
                  have HC12 := Lib.hid hc12
                  clear hc12
                  cases c12 with
                  | true =>
                    go_wp2
                    go_meet
                    exact ⟨by rw [HMD2.out, HC12.out]; simp, rfl⟩
                  | false =>
                    refine wpList_take (v := ?_) (by rfl) ?_ ?_
                    rotate_left 1
                    · (go_simp; try with_reducible rfl)
                    simp only [Act.put, List.setIfInBounds_toArray, List.set_cons_zero, List.set_cons_succ]
                    refine wpList_take (v := ?_) (by rfl) ?_ ?_
                    rotate_left 1
                    · (go_simp; try with_reducible rfl)
                    simp only [Act.put, List.setIfInBounds_toArray, List.set_cons_zero, List.set_cons_succ]
                    refine wpList_take (v := ?_) (by rfl) ?_ ?_
                    rotate_left 1
                    · (go_simp; try with_reducible rfl)
                    simp only [Act.put, List.setIfInBounds_toArray, List.set_cons_zero, List.set_cons_succ]
                    refine wpList_take (v := ?_) (by rfl) ?_ ?_
                    rotate_left 1
                    · (go_simp; try with_reducible rfl)
                    simp only [Act.put, List.setIfInBounds_toArray, List.set_cons_zero, List.set_cons_succ]
                    refine wpList_may (g := p13) (v := .string S) (by cases p13 <;> rfl) (fun hg => by go_simp) ?_
                    simp only [Act.put, List.setIfInBounds_toArray, List.set_cons_zero, List.set_cons_succ]
                    refine wpList_may (g := p13) (v := .int .u8 (B13.toNat : Int)) (by cases p13 <;> rfl) (fun hg => by subst hg; simp only [may_true]; go_simp) ?_
                    simp only [Act.put, List.setIfInBounds_toArray, List.set_cons_zero, List.set_cons_succ]
                    refine wpList_may (g := p13) (v := .bool (!b13)) (by cases p13 <;> rfl) (fun hg => by subst hg; simp only [may_true]; go_simp; try rw [n13]) ?_
                    simp only [Act.put, List.setIfInBounds_toArray, List.set_cons_zero, List.set_cons_succ]
                    refine wpList_take (v := .bool (p13 && !b13)) (by rfl) (by cases p13 <;> (simp only [may_true, may_false]; go_simp)) ?_
                    simp only [Act.put, List.setIfInBounds_toArray, List.set_cons_zero, List.set_cons_succ]
                    refine wpList_take (v := .bool (p13 && !b13)) (by rfl) (by go_simp) ?_
                    simp only [Act.put, List.setIfInBounds_toArray, List.set_cons_zero, List.set_cons_succ]
                    refine wpList_take (v := ?_) (by rfl) ?_ ?_
                    rotate_left 1
                    · (go_simp; try with_reducible rfl)
                    simp only [Act.put, List.setIfInBounds_toArray, List.set_cons_zero, List.set_cons_succ]
                    obtain ⟨c13, hc13⟩ : ∃ c, (p13 && !b13) = c := ⟨_, rfl⟩
                    rw [hc13]
                    have HC13 := Lib.hid hc13
                    clear hc13
                    cases c13 with
                    | true =>
                      go_wp2
                      go_meet
                      exact ⟨by rw [HMD2.out, HC13.out]; simp, rfl⟩
                    | false =>
                      refine wpList_take (v := ?_) (by rfl) ?_ ?_
                      rotate_left 1
                      · (go_simp; try with_reducible rfl)
                      simp only [Act.put, List.setIfInBounds_toArray, List.set_cons_zero, List.set_cons_succ]
                      refine wpList_take (v := ?_) (by rfl) ?_ ?_
                      rotate_left 1
                      · (go_simp; try with_reducible rfl)
                      simp only [Act.put, List.setIfInBounds_toArray, List.set_cons_zero, List.set_cons_succ]
                      refine wpList_take (v := ?_) (by rfl) ?_ ?_
                      rotate_left 1
                      · (go_simp; try with_reducible rfl)
                      simp only [Act.put, List.setIfInBounds_toArray, List.set_cons_zero, List.set_cons_succ]
                      refine wpList_take (v := ?_) (by rfl) ?_ ?_
                      rotate_left 1
                      · (go_simp; try with_reducible rfl)
                      simp only [Act.put, List.setIfInBounds_toArray, List.set_cons_zero, List.set_cons_succ]
                      refine wpList_may (g := p14) (v := .string S) (by cases p14 <;> rfl) (fun hg => by go_simp) ?_
                      simp only [Act.put, List.setIfInBounds_toArray, List.set_cons_zero, List.set_cons_succ]
                      refine wpList_may (g := p14) (v := .int .u8 (B14.toNat : Int)) (by cases p14 <;> rfl) (fun hg => by subst hg; simp only [may_true]; go_simp) ?_
                      simp only [Act.put, List.setIfInBounds_toArray, List.set_cons_zero, List.set_cons_succ]
                      refine wpList_may (g := p14) (v := .bool (!b14)) (by cases p14 <;> rfl) (fun hg => by subst hg; simp only [may_true]; go_simp; try rw [n14]) ?_
                      simp only [Act.put, List.setIfInBounds_toArray, List.set_cons_zero, List.set_cons_succ]
                      refine wpList_take (v := .bool (p14 && !b14)) (by rfl) (by cases p14 <;> (simp only [may_true, may_false]; go_simp)) ?_
                      simp only [Act.put, List.setIfInBounds_toArray, List.set_cons_zero, List.set_cons_succ]
                      refine wpList_take (v := .bool (p14 && !b14)) (by rfl) (by go_simp) ?_
                      simp only [Act.put, List.setIfInBounds_toArray, List.set_cons_zero, List.set_cons_succ]
                      refine wpList_nil ?_
                      go_wp2
                      go_meet
                      exact ⟨by rw [HMD2.out, HC11.out, HC12.out, HC13.out]; simp, rfl⟩
              · have a8 : (tl : Int) > 8 := by omega
                go_wp2
                go_meet
                exact ⟨by rw [HMD.out, decide_eq_false t8]; rfl, rfl⟩
            case rest =>
              obtain ⟨rfl, hwc⟩ := hcut
              subst hwc
              obtain ⟨mo, hmo⟩ : ∃ mo, midOk H tl al oo se = mo := ⟨_, rfl⟩
              rw [hmo]
              have HMO := Lib.hid hmo
              clear hmo
              cases mo with
              | false =>
                have HR := Lib.hid (no_of HMID.out HMO.out)
                go_wp2
                go_ret
                rw [HR.out]
                exact ⟨rfl, HC4.out⟩
              | true =>
                as_aux_lemma =>
                have HTT := Lib.hid (Kd.C_new (str_le.C HT.out) HC4.out)
                have HTZ : Hid (∀ s ∈ x.tags, s.size ≤ 9223372036854775807) := fun s hs => by
                  obtain ⟨_, inner, hr, _⟩ := HT.out
                  obtain ⟨j, hj⟩ := List.mem_iff_getElem?.1 hs
                  have := (hr.2 j s hj).2
                  omega
                obtain ⟨w4, hw4⟩ : ∃ w4, w4 = wc := ⟨_, rfl⟩
                subst hw4
                have HTL := Lib.hid HVAR.out.1
                have hsmt : tl ≤ 9223372036854775807 := by rw [← HVAR.out.1]; exact HTT.out.small
                go_wp2
                go_loopw [8] (fun v wr => ∃ j : Nat, j ≤ tl ∧ v = .int .i64 j ∧ wr = w4 ∧ Hid (tagsOk (x.tags.take j) = true)) (fun v _ => tl - (intOf v).toNat)
                case atStart => exact ⟨0, Nat.zero_le _, rfl, rfl, rfl⟩
                case round =>
                  obtain ⟨j, hj, rfl, hwr, HJ3⟩ := hrel
                  subst hwr
                  obtain ⟨k12, k13, k14, k15, k16⟩ := HCELLS.out
                  by_cases hlt : j < tl
                  · have b1 : (j : Int) < (tl : Int) := by omega
                    have b2 : (0 : Int) ≤ (j : Int) := by omega
                    obtain ⟨s, hs⟩ : ∃ s, x.tags[j]? = some s := ⟨_, List.getElem?_eq_getElem (by rw [HTL.out]; exact hlt)⟩
                    obtain ⟨ad, rfl, _, hsc⟩ := at_scalar HTT.out hs
                    have hsc' : wr.cell? (ad.add j) = some (.string s) := hsc
                    have hz := HTZ.out s (List.mem_of_getElem? hs)
                    have HSX := Lib.hid hs
                    clear hs hsc
                    by_cases h8 : s.size ≤ 80
                    · have b3 : ¬ ((s.size : Int) > 80) := by omega
                      have HNX := Lib.hid (tagsOk_take HJ3.out HSX.out h8)
                      go_wp2
                      exact ⟨⟨j + 1, by omega, by go_num, trivial, HNX⟩, by simp [intOf]; omega⟩
                    · have b3 : (s.size : Int) > 80 := by omega
                      have HR := Lib.hid (no_of tags_of (tagsOk_not HSX.out h8))
                      go_wp2
                      go_ret
                      rw [HR.out]
                      exact ⟨rfl, HC4.out⟩
                  · obtain rfl : j = tl := by omega
                    have b1 : ¬ (j : Int) < (j : Int) := by omega
                    have HTG : Hid (tagsOk x.tags = true) := by
                      have := HJ3.out
                      rwa [List.take_of_length_le (by rw [HTL.out]; exact Nat.le_refl _)] at this
                    obtain ⟨w4, hw4⟩ : ∃ w4, w4 = wr := ⟨_, rfl⟩
                    subst hw4
                    have HSL : Hid (rightB x = true → subLen H n = true) := fun h => by have := sub_of h; rwa [HH.out, ← HN.out] at this
                    go_upto_region 23 with fail
                    go_cut [149] (fun v wx => v = .bool (!subLen H n) ∧ wx = w4)
                    case first =>
                      by_cases t8 : n ≤ 8
                      · have a8 : ¬ (n : Int) > 8 := by omega
                        by_cases t0 : n = 0
                        · have a0 : ¬ 0 < n := by omega
                          have HV : Hid (subLen H n = true) := by show _ = _; unfold subLen; rw [decide_eq_true t8, decide_eq_true t0]; rfl
                          clear t0
                          go_wp2
                          go_meet
                          exact ⟨by rw [HV.out]; rfl, rfl⟩
                        · have a0 : 0 < n := by omega
                          obtain ⟨b15, h15⟩ : ∃ b, bitN H 15 = b := ⟨_, rfl⟩
                          have s15 := HSA.out 15 (by decide) z15
                          have HV : Hid (subLen H n = b15) := by show _ = _; unfold subLen; rw [decide_eq_true t8, decide_eq_false t0, h15]; rfl
                          rw [h15] at s15
                          clear h15 t0
                          cases b15 with
                          | true =>
                            simp only [if_true] at s15
                            go_wp2
                            go_meet
                            exact ⟨by rw [HV.out]; rfl, rfl⟩
                          | false =>
                            simp only [Bool.false_eq_true, if_false] at s15
                            go_wp2
                            go_meet
                            exact ⟨by rw [HV.out]; rfl, rfl⟩
                      · have a8 : (n : Int) > 8 := by omega
                        have HV : Hid (subLen H n = false) := by show _ = _; unfold subLen; rw [decide_eq_false t8]; rfl
                        go_wp2
                        go_meet
                        exact ⟨by rw [HV.out]; rfl, rfl⟩
                    case rest =>
                      obtain ⟨rfl, hwc⟩ := hcut
                      subst hwc
                      obtain ⟨w4, hw4⟩ : ∃ w4, w4 = wc := ⟨_, rfl⟩
                      subst hw4
                      obtain ⟨mo, hmo⟩ : ∃ mo, subLen H n = mo := ⟨_, rfl⟩
                      rw [hmo]
                      have HSO := Lib.hid hmo
                      clear hmo
                      cases mo with
                      | false =>
                        have HR := Lib.hid (no_of HSL.out HSO.out)
                        go_wp2
                        go_ret
                        rw [HR.out]
                        exact ⟨rfl, HC4.out⟩
                      | true =>
                        as_aux_lemma =>
                        have HEL : Hid (∃ l : List Cm0, l.length = n ∧ Sz.may x.subs = l.all subOk ∧ (0 < n → cm0K.C w4 ok A l) ∧ (0 < n → ∀ (wx : World) (y : Cm0) (cs : Array Value), cm0K.K wx ok y cs.toList → y.kind ≠ 18 → Calls Try.prog 9 #[.agg cs] wx (ToldN wx (rightB y)))) := by
                          by_cases t0 : n = 0
                          · exact ⟨[], by rw [t0]; rfl, H0M.out (by rw [← HN.out]; exact t0), fun h => by omega, fun h => by omega⟩
                          · have hb : bitN (hasN x.kind) 15 = true := by
                              have h1 := HSO.out
                              unfold subLen at h1
                              rw [decide_eq_false t0, Bool.false_or, Bool.and_eq_true] at h1
                              rw [HH.out]
                              exact h1.2
                            obtain ⟨h1, h2⟩ := HS.out hb
                            obtain ⟨l, hC, hl, hm⟩ := h1 A n c HK.out
                            exact ⟨l, hl, hm, fun _ => Kd.C_new hC HC4.out, fun _ => h2⟩
                        obtain ⟨l, hll, hlm, hlC, hlR⟩ := HEL.out
                        have HLL := Lib.hid hll
                        have HLM := Lib.hid hlm
                        have HLC := Lib.hid hlC
                        have HLR := Lib.hid hlR
                        clear hll hlm hlC hlR
                        go_wp2
                        go_loopw [9] (fun v wr => ∃ j : Nat, j ≤ n ∧ v = .int .i64 j ∧ Hid (Chg nob w4 wr) ∧ Hid ((l.take j).all subOk = true)) (fun v _ => n - (intOf v).toNat)
                        case atStart => exact ⟨0, Nat.zero_le _, rfl, Chg.refl _ _, rfl⟩
                        case round =>
                          obtain ⟨j, hj, rfl, HCR, HJ4⟩ := hrel
                          have k16 : wr.cell? ⟨cb, 16, none⟩ = some (.slice A n c) := HCR.out.cell HCELLS.out.2.2.2.2 (not_nob _)
                          by_cases hlt : j < n
                          · have b1 : (j : Int) < (n : Int) := by omega
                            have b2 : (0 : Int) ≤ (j : Int) := by omega
                            obtain ⟨y, hy⟩ : ∃ y, l[j]? = some y := ⟨_, List.getElem?_eq_getElem (by rw [HLL.out]; exact hlt)⟩
                            obtain ⟨ab, ao, ac, rfl, hab, hka, hac⟩ := Kd.C_at' (Kd.C_new (HLC.out (by omega)) HCR.out) hy
                            obtain ⟨T1, tc1, A1, n1, c1, rfl⟩ := cm_list len_sub hka
                            have HRNG : Hid (wr.rangeAt ab (ao + j * 17) (cmL y T1 tc1 (.slice A1 n1 c1))) := fun i v hv => hac i v hv
                            have HKA := Lib.hid hka
                            have HY := Lib.hid hy
                            obtain ⟨e0, e1, e2, e3, e4, e5, e6, e7, e8, e9, e10, e11, e12, e13, e14, e15, e16⟩ := rng17 HRNG.out
                            clear hy hab hka hac
                            by_cases h18 : y.kind = 18
                            · have e18 : (y.kind == 18) = true := by simpa using h18
                              have HR := Lib.hid (no_of subs_of (by rw [HLM.out]; exact subs_not HY.out (by unfold subOk; rw [h18]; rfl)))
                              clear h18
                              go_wp2
                              go_ret
                              rw [HR.out]
                              exact ⟨rfl, HC4.out.thenNew HCR.out⟩
                            · have e18 : (y.kind == 18) = false := by simpa using h18
                              have H18 := Lib.hid h18
                              clear h18
                              go_wp2_with fail
                              refine (HLR.out (by omega) wr y (cmL y T1 tc1 (.slice A1 n1 c1)).toArray HKA.out H18.out).mono ?_
                              rintro e w5 ⟨rfl, hc5⟩
                              have HC5 := Lib.hid (HCR.out.thenNew hc5)
                              clear e0 e1 e2 e3 e4 e5 e6 e7 e8 e9 e10 e11 e12 e13 e14 e15 e16 hc5 k16
                              obtain ⟨rb, hrb⟩ : ∃ rb, rightB y = rb := ⟨_, rfl⟩
                              rw [hrb]
                              have hsb : subOk y = rb := by unfold subOk; rw [hrb, decide_eq_true H18.out, Bool.true_and]
                              have HSB := Lib.hid hsb
                              clear hrb hsb
                              cases rb with
                              | true =>
                                have HNX := Lib.hid (subs_take HJ4.out HY.out HSB.out)
                                go_wp2
                                exact ⟨⟨j + 1, by omega, by go_num, HC5, HNX⟩, by simp [intOf]; omega⟩
                              | false =>
                                have HR := Lib.hid (no_of subs_of (by rw [HLM.out]; exact subs_not HY.out HSB.out))
                                go_wp2
                                go_ret
                                rw [HR.out]
                                exact ⟨rfl, HC4.out.thenNew HC5.out⟩
                          · obtain rfl : j = n := by omega
                            have b1 : ¬ (j : Int) < (j : Int) := by omega
                            have HR : Hid (rightB x = true) := by
                              refine right_all (by rw [HH.out]; exact H0.out) (fun i hi => HJ2.out i (by omega)) ?_ HTG.out (by rw [HH.out, ← HN.out]; exact HSO.out) ?_
                              · rw [HH.out, HVAR.out.1, HVAR.out.2.1, HVAR.out.2.2.1, HVAR.out.2.2.2]
                                exact HMO.out
                              · rw [HLM.out]
                                have := HJ4.out
                                rwa [List.take_of_length_le (by rw [HLL.out]; exact Nat.le_refl _)] at this
                            go_wp2
                            go_ret
                            rw [HR.out]
                            exact ⟨rfl, HC4.out.thenNew HCR.out⟩
#print axioms r_right_gen
end
/-- The reference's Right of a command that is within none; of a command. -/
theorem r_right_0 {w : World} {ok : Nat → Prop} {x : Cm0} {cs : Array Value} (hx : cm0K.K w ok x cs.toList) (h18 : x.kind ≠ 18) : Calls Try.prog 9 #[.agg cs] w (ToldN w (rightB x)) :=
  r_right_gen len_sub hx (fun h => absurd (hasN_subs h) h18) (fun _ => rfl)
theorem r_right20 {w : World} {ok : Nat → Prop} {x : Cmd} {cs : Array Value} (hx : comK.K w ok x cs.toList) : Calls Try.prog 9 #[.agg cs] w (ToldN w (rightB x)) := by
  refine r_right_gen subs_sub hx (fun h => ⟨fun A n c hK => ?_, fun wx y cs hk h18 => r_right_0 hk h18⟩) (fun h => ?_)
  · obtain ⟨⟨A', c', e, hl, hC⟩, -⟩ := hK
    have e1 : Value.slice A n c = .slice A' x.subs.length c' := by simpa using e
    injection e1 with e1 e2 e3
    subst e1
    exact ⟨x.subs, hC, e2.symm, rfl⟩
  · have h1 : x.subs = [] := List.length_eq_zero_iff.1 h
    show x.subs.all subOk = _
    rw [h1]
#print axioms r_right20
end Go.Proofs.Ythleagjnhpjhiaa
