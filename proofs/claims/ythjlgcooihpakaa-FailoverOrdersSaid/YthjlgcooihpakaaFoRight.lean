/- An upstream: whether it may be: the program's and the reference's word. -/
import Derived.Test.YthjlgcooihpakaaApi
import Derived.Test.YthjlgcooihpakaaNameRef
namespace Go.Proofs.Ythjlgcooihpakaa
open Go.RowKit
set_option linter.unusedVariables false
set_option linter.unusedSimpArgs false
def upR (ts : List ByteArray) (tag : ByteArray) (most : Int) : Bool := decide (1 ≤ ts.length ∧ ts.length ≤ 4 ∧ (tag.size = 0 ∨ nameB (strL tag) = true) ∧ 1 ≤ most ∧ most ≤ 16 ∧ (∀ s ∈ ts, nameB (strL s) = true) ∧ ts.Nodup)
theorem empty_is (s : ByteArray) : s.toList.isEmpty = decide (s.size = 0) := by
  rw [ByteArray.toList_eq]
  have h : s.data.toList.length = s.size := by simp
  cases hl : s.data.toList with
  | nil => rw [hl] at h; simp at h; rw [decide_eq_true h.symm]; rfl
  | cons a l => rw [hl] at h; simp at h; rw [decide_eq_false (by omega)]; rfl
theorem nodup_take {α : Type} {l : List α} {k : Nat} {x : α} (h : l[k]? = some x) (hn : (l.take k).Nodup) (hx : x ∉ l.take k) : (l.take (k + 1)).Nodup := by
  obtain ⟨hj, he⟩ := List.getElem?_eq_some_iff.1 h
  rw [List.take_succ_eq_append_getElem hj, he, List.nodup_append]
  exact ⟨hn, by simp, fun a ha b hb => by simp at hb; subst hb; exact fun e => hx (e ▸ ha)⟩
theorem not_nodup {α : Type} {l : List α} {k : Nat} {x : α} (h : l[k]? = some x) (hx : x ∈ l.take k) : ¬ l.Nodup := by
  intro hn
  obtain ⟨hj, he⟩ := List.getElem?_eq_some_iff.1 h
  obtain ⟨i, hi, e⟩ := List.mem_iff_getElem.1 hx
  rw [List.length_take] at hi
  rw [List.getElem_take] at e
  have := (List.getElem_inj (h₀ := by omega) (h₁ := hj) hn).1 (e.trans he.symm)
  omega
theorem all_take {α : Type} {l : List α} {k : Nat} {x : α} {p : α → Prop} (h : l[k]? = some x) (hp : ∀ s ∈ l.take k, p s) (hx : p x) : ∀ s ∈ l.take (k + 1), p s := by
  obtain ⟨hj, he⟩ := List.getElem?_eq_some_iff.1 h
  rw [List.take_succ_eq_append_getElem hj, he]
  intro s hs
  rcases List.mem_append.1 hs with hs | hs
  · exact hp s hs
  · simp at hs; rw [hs]; exact hx
set_option maxRecDepth 100000 in
set_option maxHeartbeats 4000000 in
theorem f_right {w : World} {ok : Nat → Prop} {T : Option Addr} {tn tc : Nat} {ts : List ByteArray} {tag : ByteArray} {most : Int} (hT : strK.C w ok T ts) (hn : ts.length = tn) (htc : tn ≤ tc) (hsz : ∀ s ∈ ts, s.size ≤ 9223372036854775807) (htg : tag.size ≤ 9223372036854775807) :
    Calls Try.prog 10 #[.agg #[.slice T tn tc, .string tag, .int .i64 most]] w fun e w' => e = .returned (.bool (upR ts tag most)) ∧ Chg nob w w' := by
  obtain ⟨w1, hw1⟩ : ∃ w1, w1 = w.alloc (.cells #[.slice T tn tc, .string tag, .int .i64 most] 24) := ⟨_, rfl⟩
  have hc1 : Chg nob w w1 := by rw [hw1]; exact (Chg.refl nob w).alloc _
  have hb := heap_alloc_new w (.cells #[.slice T tn tc, .string tag, .int .i64 most] 24)
  rw [← hw1] at hb
  have q0 : w1.cell? ⟨w.heap.size, 0, none⟩ = some (.slice T tn tc) := by rw [cell_of_row _ _ _ _ _ _ hb]; rfl
  have q1 : w1.cell? ⟨w.heap.size, 1, none⟩ = some (.string tag) := by rw [cell_of_row _ _ _ _ _ _ hb]; rfl
  have q2 : w1.cell? ⟨w.heap.size, 2, none⟩ = some (.int .i64 most) := by rw [cell_of_row _ _ _ _ _ _ hb]; rfl
  have HC1 := Lib.hid hc1
  have HW1 := Lib.hid hw1
  have HT := Lib.hid (Kd.C_new hT hc1)
  have HN := Lib.hid hn
  have hsm := hT.small
  rw [hn] at hsm
  have HSZ := Lib.hid hsz
  have hem := empty_is tag
  clear hb hc1 hw1 hT hn hsz
  by_cases h1 : tn < 1
  · have b1 : (tn : Int) < 1 := by omega
    have HF : Hid (upR ts tag most = false) := decide_eq_false (by rw [HN.out]; omega)
    go_enter Try.func10, Try.ntmps10
    go_wp2_with fail
    rw [← HW1.out]
    go_wp2
    go_ret
    rw [HF.out]
    exact ⟨rfl, HC1.out⟩
  · have b1 : ¬ (tn : Int) < 1 := by omega
    by_cases h2 : 4 < tn
    · have b2 : (4 : Int) < (tn : Int) := by omega
      have HF : Hid (upR ts tag most = false) := decide_eq_false (by rw [HN.out]; omega)
      go_enter Try.func10, Try.ntmps10
      go_wp2_with fail
      rw [← HW1.out]
      go_wp2
      go_ret
      rw [HF.out]
      exact ⟨rfl, HC1.out⟩
    · have b2 : ¬ (4 : Int) < (tn : Int) := by omega
      by_cases ht : tag.size = 0
      · have e1 : tag.toList.isEmpty = true := by rw [hem]; exact decide_eq_true ht
        have HTAG : Hid (tag.size = 0 ∨ nameB (strL tag) = true) := .inl ht
        clear hem ht
        by_cases h3 : most < 1
        · have HF : Hid (upR ts tag most = false) := decide_eq_false (fun h => by have := h.2.2.2.1; omega)
          go_enter Try.func10, Try.ntmps10
          go_wp2_with fail
          rw [← HW1.out]
          go_wp2
          go_ret
          rw [HF.out]
          exact ⟨rfl, HC1.out⟩
        · by_cases h4 : 16 < most
          · have HF : Hid (upR ts tag most = false) := decide_eq_false (fun h => by have := h.2.2.2.2.1; omega)
            go_enter Try.func10, Try.ntmps10
            go_wp2_with fail
            rw [← HW1.out]
            go_wp2
            go_ret
            rw [HF.out]
            exact ⟨rfl, HC1.out⟩
          · have HA0 : Hid (∀ s ∈ ts.take 0, nameB (strL s) = true) := by show ∀ s ∈ _, _; simp
            have HD0 : Hid ((ts.take 0).Nodup) := by show List.Nodup _; simp
            go_enter Try.func10, Try.ntmps10
            go_wp2_with fail
            rw [← HW1.out]
            go_wp2
            go_loopw [39] (fun i wr => ∃ k : Nat, k ≤ tn ∧ i = .int .i64 k ∧ Hid (∀ s ∈ ts.take k, nameB (strL s) = true) ∧ Hid ((ts.take k).Nodup) ∧ wr = w1) (fun i _ => tn - (intOf i).toNat)
            case atStart => exact ⟨0, Nat.zero_le _, rfl, HA0, HD0, rfl⟩
            case round =>
              obtain ⟨k, hk, rfl, HA, HD, rfl⟩ := hrel
              clear HA0 HD0
              by_cases hlt : k < tn
              · have b1 : (k : Int) < (tn : Int) := by omega
                have b3 : (0 : Int) ≤ (k : Int) := by omega
                have b4 : k ≤ tc := by omega
                obtain ⟨y, hy⟩ : ∃ y, ts[k]? = some y := ⟨_, List.getElem?_eq_getElem (by rw [HN.out]; exact hlt)⟩
                obtain ⟨ad, rfl, _, hcell⟩ := at_scalar HT.out hy
                have HY := Lib.hid hy
                clear hy
                go_wp2_with fail
                refine (n_right y (HSZ.out y (List.mem_of_getElem? HY.out))).mono ?_
                rintro e w2 ⟨rfl, rfl⟩
                obtain ⟨q, hq⟩ : ∃ q, nameB (strL y) = q := ⟨_, rfl⟩
                rw [hq]
                have HQY := Lib.hid hq
                clear hq
                cases q with
                | false =>
                  have HF : Hid (upR ts tag most = false) := decide_eq_false (fun h => by have := h.2.2.2.2.2.1 y (List.mem_of_getElem? HY.out); rw [HQY.out] at this; cases this)
                  go_wp2
                  go_ret
                  rw [HF.out]
                  exact ⟨rfl, HC1.out⟩
                | true =>
                  have HTL : Hid ((ts.take k).length = k) := by show _ = _; rw [List.length_take, HN.out]; omega
                  have HTK := Lib.hid (Kd.C_take HT.out k (by rw [HN.out]; omega))
                  go_wp2_with fail
                  refine (l_containsS HTK.out HTL.out y).mono ?_
                  rintro e w2 ⟨rfl, rfl⟩
                  by_cases hin : y ∈ ts.take k
                  · rw [decide_eq_true hin]
                    have HF : Hid (upR ts tag most = false) := decide_eq_false (fun h => not_nodup HY.out hin h.2.2.2.2.2.2)
                    clear hin
                    go_wp2
                    go_ret
                    rw [HF.out]
                    exact ⟨rfl, HC1.out⟩
                  · rw [decide_eq_false hin]
                    have HA2 := Lib.hid (all_take HY.out HA.out HQY.out)
                    have HD2 := Lib.hid (nodup_take HY.out HD.out hin)
                    clear hin
                    go_wp2
                    exact ⟨⟨k + 1, by omega, by go_num, HA2, HD2, trivial⟩, by simp [intOf]; omega⟩
              · obtain rfl : k = tn := by omega
                have b1 : ¬ (k : Int) < (k : Int) := by omega
                have HF : Hid (upR ts tag most = true) := by
                  have h1 := HA.out
                  have h2 := HD.out
                  rw [← HN.out, List.take_length] at h1 h2
                  exact decide_eq_true ⟨by rw [HN.out]; omega, by rw [HN.out]; omega, HTAG.out, by omega, by omega, h1, h2⟩
                go_wp2
                go_ret
                rw [HF.out]
                exact ⟨rfl, HC1.out⟩
      · have e1 : tag.toList.isEmpty = false := by rw [hem]; exact decide_eq_false ht
        have HNT := Lib.hid ht
        clear hem ht
        obtain ⟨q, hq⟩ : ∃ q, nameB (strL tag) = q := ⟨_, rfl⟩
        have HQ := Lib.hid hq
        clear hq
        cases q with
        | false =>
          have HF : Hid (upR ts tag most = false) := decide_eq_false (fun h => by
            rcases h.2.2.1 with h | h
            · exact HNT.out h
            · rw [HQ.out] at h; cases h)
          go_enter Try.func10, Try.ntmps10
          go_wp2_with fail
          rw [← HW1.out]
          go_wp2_with fail
          refine (n_right tag htg).mono ?_
          rintro e w2 ⟨rfl, hw2⟩
          obtain rfl : w1 = w2 := hw2.symm
          rw [HQ.out]
          go_wp2
          go_ret
          rw [HF.out]
          exact ⟨rfl, HC1.out⟩
        | true =>
          have HTAG : Hid (tag.size = 0 ∨ nameB (strL tag) = true) := .inr HQ.out
          by_cases h3 : most < 1
          · have HF : Hid (upR ts tag most = false) := decide_eq_false (fun h => by have := h.2.2.2.1; omega)
            go_enter Try.func10, Try.ntmps10
            go_wp2_with fail
            rw [← HW1.out]
            go_wp2_with fail
            refine (n_right tag htg).mono ?_
            rintro e w2 ⟨rfl, hw2⟩
            obtain rfl : w1 = w2 := hw2.symm
            rw [HQ.out]
            go_wp2
            go_ret
            rw [HF.out]
            exact ⟨rfl, HC1.out⟩
          · by_cases h4 : 16 < most
            · have HF : Hid (upR ts tag most = false) := decide_eq_false (fun h => by have := h.2.2.2.2.1; omega)
              go_enter Try.func10, Try.ntmps10
              go_wp2_with fail
              rw [← HW1.out]
              go_wp2_with fail
              refine (n_right tag htg).mono ?_
              rintro e w2 ⟨rfl, hw2⟩
              obtain rfl : w1 = w2 := hw2.symm
              rw [HQ.out]
              go_wp2
              go_ret
              rw [HF.out]
              exact ⟨rfl, HC1.out⟩
            · have HA0 : Hid (∀ s ∈ ts.take 0, nameB (strL s) = true) := by show ∀ s ∈ _, _; simp
              have HD0 : Hid ((ts.take 0).Nodup) := by show List.Nodup _; simp
              go_enter Try.func10, Try.ntmps10
              go_wp2_with fail
              rw [← HW1.out]
              go_wp2_with fail
              refine (n_right tag htg).mono ?_
              rintro e w2 ⟨rfl, hw2⟩
              obtain rfl : w1 = w2 := hw2.symm
              rw [HQ.out]
              go_wp2
              go_loopw [39] (fun i wr => ∃ k : Nat, k ≤ tn ∧ i = .int .i64 k ∧ Hid (∀ s ∈ ts.take k, nameB (strL s) = true) ∧ Hid ((ts.take k).Nodup) ∧ wr = w1) (fun i _ => tn - (intOf i).toNat)
              case atStart => exact ⟨0, Nat.zero_le _, rfl, HA0, HD0, rfl⟩
              case round =>
                obtain ⟨k, hk, rfl, HA, HD, rfl⟩ := hrel
                clear HA0 HD0
                by_cases hlt : k < tn
                · have b1 : (k : Int) < (tn : Int) := by omega
                  have b3 : (0 : Int) ≤ (k : Int) := by omega
                  have b4 : k ≤ tc := by omega
                  obtain ⟨y, hy⟩ : ∃ y, ts[k]? = some y := ⟨_, List.getElem?_eq_getElem (by rw [HN.out]; exact hlt)⟩
                  obtain ⟨ad, rfl, _, hcell⟩ := at_scalar HT.out hy
                  have HY := Lib.hid hy
                  clear hy
                  go_wp2_with fail
                  refine (n_right y (HSZ.out y (List.mem_of_getElem? HY.out))).mono ?_
                  rintro e w2 ⟨rfl, rfl⟩
                  obtain ⟨q, hq⟩ : ∃ q, nameB (strL y) = q := ⟨_, rfl⟩
                  rw [hq]
                  have HQY := Lib.hid hq
                  clear hq
                  cases q with
                  | false =>
                    have HF : Hid (upR ts tag most = false) := decide_eq_false (fun h => by have := h.2.2.2.2.2.1 y (List.mem_of_getElem? HY.out); rw [HQY.out] at this; cases this)
                    go_wp2
                    go_ret
                    rw [HF.out]
                    exact ⟨rfl, HC1.out⟩
                  | true =>
                    have HTL : Hid ((ts.take k).length = k) := by show _ = _; rw [List.length_take, HN.out]; omega
                    have HTK := Lib.hid (Kd.C_take HT.out k (by rw [HN.out]; omega))
                    go_wp2_with fail
                    refine (l_containsS HTK.out HTL.out y).mono ?_
                    rintro e w2 ⟨rfl, rfl⟩
                    by_cases hin : y ∈ ts.take k
                    · rw [decide_eq_true hin]
                      have HF : Hid (upR ts tag most = false) := decide_eq_false (fun h => not_nodup HY.out hin h.2.2.2.2.2.2)
                      clear hin
                      go_wp2
                      go_ret
                      rw [HF.out]
                      exact ⟨rfl, HC1.out⟩
                    · rw [decide_eq_false hin]
                      have HA2 := Lib.hid (all_take HY.out HA.out HQY.out)
                      have HD2 := Lib.hid (nodup_take HY.out HD.out hin)
                      clear hin
                      go_wp2
                      exact ⟨⟨k + 1, by omega, by go_num, HA2, HD2, trivial⟩, by simp [intOf]; omega⟩
                · obtain rfl : k = tn := by omega
                  have b1 : ¬ (k : Int) < (k : Int) := by omega
                  have HF : Hid (upR ts tag most = true) := by
                    have h1 := HA.out
                    have h2 := HD.out
                    rw [← HN.out, List.take_length] at h1 h2
                    exact decide_eq_true ⟨by rw [HN.out]; omega, by rw [HN.out]; omega, HTAG.out, by omega, by omega, h1, h2⟩
                  go_wp2
                  go_ret
                  rw [HF.out]
                  exact ⟨rfl, HC1.out⟩
end Go.Proofs.Ythjlgcooihpakaa
