/- An upstream: whether it may be: the reference's word. -/
import Derived.Test.YthjlgcooihpakaaFoRight
namespace Go.Proofs.Ythjlgcooihpakaa
open Go.RowKit
set_option linter.unusedVariables false
set_option linter.unusedSimpArgs false
theorem mem_take_of {α : Type} {l : List α} {j k : Nat} {x : α} (h : l[j]? = some x) (hjk : j < k) : x ∈ l.take k := by
  rw [List.mem_iff_getElem?]
  exact ⟨j, by rw [List.getElem?_take, if_pos hjk]; exact h⟩
set_option maxRecDepth 100000 in
set_option maxHeartbeats 4000000 in
theorem f_rright {w : World} {ok : Nat → Prop} {T : Option Addr} {tn tc : Nat} {ts : List ByteArray} {tag : ByteArray} {most : Int} (hT : strK.C w ok T ts) (hn : ts.length = tn) (htc : tn ≤ tc) (hsz : ∀ s ∈ ts, s.size ≤ 9223372036854775807) (htg : tag.size ≤ 9223372036854775807) :
    Calls Try.prog 9 #[.slice T tn tc, .string tag, .int .i64 most] w fun e w' => e = .returned (.bool (upR ts tag most)) ∧ Chg nob w w' := by
  have HT := Lib.hid hT
  have HN := Lib.hid hn
  have hsm := hT.small
  rw [hn] at hsm
  have HSZ := Lib.hid hsz
  have hem := empty_is tag
  clear hT hn hsz
  by_cases h1 : tn < 1
  · have b1 : (tn : Int) < 1 := by omega
    have HF : Hid (upR ts tag most = false) := decide_eq_false (by rw [HN.out]; omega)
    go_enter Try.func9, Try.ntmps9
    go_wp2
    go_ret
    rw [HF.out]
    exact ⟨rfl, Chg.refl _ _⟩
  · have b1 : ¬ (tn : Int) < 1 := by omega
    by_cases h2 : 4 < tn
    · have b2 : (4 : Int) < (tn : Int) := by omega
      have HF : Hid (upR ts tag most = false) := decide_eq_false (by rw [HN.out]; omega)
      go_enter Try.func9, Try.ntmps9
      go_wp2
      go_ret
      rw [HF.out]
      exact ⟨rfl, Chg.refl _ _⟩
    · have b2 : ¬ (4 : Int) < (tn : Int) := by omega
      by_cases ht : tag.size = 0
      · have e1 : tag.toList.isEmpty = true := by rw [hem]; exact decide_eq_true ht
        have HTAG : Hid (tag.size = 0 ∨ nameB (strL tag) = true) := .inl ht
        clear hem ht
        by_cases h3 : most < 1
        · have HF : Hid (upR ts tag most = false) := decide_eq_false (fun h => by have := h.2.2.2.1; omega)
          go_enter Try.func9, Try.ntmps9
          go_wp2
          go_ret
          rw [HF.out]
          exact ⟨rfl, Chg.refl _ _⟩
        · by_cases h4 : 16 < most
          · have HF : Hid (upR ts tag most = false) := decide_eq_false (fun h => by have := h.2.2.2.2.1; omega)
            go_enter Try.func9, Try.ntmps9
            go_wp2
            go_ret
            rw [HF.out]
            exact ⟨rfl, Chg.refl _ _⟩
          · have HA0 : Hid (∀ s ∈ ts.take 0, nameB (strL s) = true) := by show ∀ s ∈ _, _; simp
            have HD0 : Hid ((ts.take 0).Nodup) := by show List.Nodup _; simp
            have HC0 := Lib.hid (Chg.refl nob w)
            go_enter Try.func9, Try.ntmps9
            go_wp2
            go_loopw [7] (fun i wr => ∃ k : Nat, k ≤ tn ∧ i = .int .i64 k ∧ Hid (∀ s ∈ ts.take k, nameB (strL s) = true) ∧ Hid ((ts.take k).Nodup) ∧ Hid (Chg nob w wr)) (fun i _ => tn - (intOf i).toNat)
            case atStart => exact ⟨0, Nat.zero_le _, rfl, HA0, HD0, HC0⟩
            case round =>
              obtain ⟨k, hk, rfl, HA, HD, HC⟩ := hrel
              clear HA0 HD0 HC0
              by_cases hlt : k < tn
              · have b1 : (k : Int) < (tn : Int) := by omega
                have b3 : (0 : Int) ≤ (k : Int) := by omega
                obtain ⟨y, hy⟩ : ∃ y, ts[k]? = some y := ⟨_, List.getElem?_eq_getElem (by rw [HN.out]; exact hlt)⟩
                obtain ⟨ad, rfl, _, hcell⟩ := at_scalar (Kd.C_new HT.out HC.out) hy
                have HY := Lib.hid hy
                clear hy
                go_wp2_with fail
                refine (r_right y (HSZ.out y (List.mem_of_getElem? HY.out))).mono ?_
                rintro e w2 ⟨rfl, hw2⟩
                obtain rfl : wr = w2 := hw2.symm
                obtain ⟨q, hq⟩ : ∃ q, nameB (strL y) = q := ⟨_, rfl⟩
                rw [hq]
                have HQY := Lib.hid hq
                clear hq
                cases q with
                | false =>
                  have HF : Hid (upR ts tag most = false) := decide_eq_false (fun h => by have := h.2.2.2.2.2.1 y (List.mem_of_getElem? HY.out); rw [HQY.out] at this; cases this)
                  go_wp2
                  go_ret
                  rw [HF.out]
                  exact ⟨rfl, HC.out⟩
                | true =>
                  have HI0 : Hid (y ∉ ts.take 0) := by show ¬ _; simp
                  clear hcell
                  go_wp2
                  go_loopw [8] (fun i wx => ∃ j : Nat, j ≤ k ∧ i = .int .i64 j ∧ Hid (y ∉ ts.take j) ∧ Hid (Chg nob w wx)) (fun i _ => k - (intOf i).toNat)
                  case atStart => exact ⟨0, Nat.zero_le _, rfl, HI0, HC⟩
                  case round =>
                    obtain ⟨j, hjk, rfl, HI, HCJ⟩ := hrel
                    clear HI0 HC
                    by_cases hjl : j < k
                    · have b5 : (j : Int) < (k : Int) := by omega
                      have b6 : (0 : Int) ≤ (j : Int) := by omega
                      have b7 : (j : Int) < (tn : Int) := by omega
                      obtain ⟨z, hz⟩ : ∃ z, ts[j]? = some z := ⟨_, List.getElem?_eq_getElem (by rw [HN.out]; omega)⟩
                      obtain ⟨ad2, e2, _, hcell2⟩ := at_scalar (Kd.C_new HT.out HCJ.out) hz
                      obtain rfl : ad = ad2 := by simpa using e2
                      obtain ⟨ad3, e3, _, hcell3⟩ := at_scalar (Kd.C_new HT.out HCJ.out) HY.out
                      obtain rfl : ad = ad3 := by simpa using e3
                      have HZ := Lib.hid hz
                      clear hz e2 e3
                      by_cases hzy : z = y
                      · subst hzy
                        have t : (z.toList == z.toList) = true := by simp
                        have HF : Hid (upR ts tag most = false) := decide_eq_false (fun h => not_nodup HY.out (mem_take_of HZ.out hjl) h.2.2.2.2.2.2)
                        go_wp2
                        go_quiet (fail)
                        go_wp2
                        go_ret
                        rw [HF.out]
                        exact ⟨rfl, HCJ.out.drewN _⟩
                      · have t : (z.toList == y.toList) = false := by rw [str_eq]; exact decide_eq_false hzy
                        have HI2 := Lib.hid (mem_take_next HZ.out HI.out (fun e => hzy e.symm))
                        clear hzy
                        go_wp2
                        go_quiet (fail)
                        go_wp2
                        exact ⟨⟨j + 1, by omega, by go_num, HI2, HCJ.out.drewN _⟩, by simp [intOf]; omega⟩
                    · obtain rfl : j = k := by omega
                      have b5 : ¬ (j : Int) < (j : Int) := by omega
                      have HA2 := Lib.hid (all_take HY.out HA.out HQY.out)
                      have HD2 := Lib.hid (nodup_take HY.out HD.out HI.out)
                      go_wp2
                      exact ⟨⟨j + 1, by omega, by go_num, HA2, HD2, HCJ⟩, by simp [intOf]; omega⟩
              · obtain rfl : k = tn := by omega
                have b1 : ¬ (k : Int) < (k : Int) := by omega
                have HF : Hid (upR ts tag most = true) := by
                  have h1 := HA.out
                  have h2 := HD.out
                  rw [← HN.out, List.take_length] at h1 h2
                  exact decide_eq_true ⟨by rw [HN.out]; omega, by rw [HN.out]; omega, HTAG.out, by omega, by omega, h1, h2⟩
                go_wp2
                go_ret
                rw [HF.out]
                exact ⟨rfl, HC.out⟩
      · have e1 : tag.toList.isEmpty = false := by rw [hem]; exact decide_eq_false ht
        have HNT := Lib.hid ht
        clear hem ht
        obtain ⟨q, hq⟩ : ∃ q, nameB (strL tag) = q := ⟨_, rfl⟩
        have HQ := Lib.hid hq
        clear hq
        cases q with
        | false =>
          have HF : Hid (upR ts tag most = false) := decide_eq_false (fun h => by
            rcases h.2.2.1 with h | h
            · exact HNT.out h
            · rw [HQ.out] at h; cases h)
          go_enter Try.func9, Try.ntmps9
          go_wp2_with fail
          refine (r_right tag htg).mono ?_
          rintro e w2 ⟨rfl, hw2⟩
          obtain rfl : w = w2 := hw2.symm
          rw [HQ.out]
          go_wp2
          go_ret
          rw [HF.out]
          exact ⟨rfl, Chg.refl _ _⟩
        | true =>
          have HTAG : Hid (tag.size = 0 ∨ nameB (strL tag) = true) := .inr HQ.out
          by_cases h3 : most < 1
          · have HF : Hid (upR ts tag most = false) := decide_eq_false (fun h => by have := h.2.2.2.1; omega)
            go_enter Try.func9, Try.ntmps9
            go_wp2_with fail
            refine (r_right tag htg).mono ?_
            rintro e w2 ⟨rfl, hw2⟩
            obtain rfl : w = w2 := hw2.symm
            rw [HQ.out]
            go_wp2
            go_ret
            rw [HF.out]
            exact ⟨rfl, Chg.refl _ _⟩
          · by_cases h4 : 16 < most
            · have HF : Hid (upR ts tag most = false) := decide_eq_false (fun h => by have := h.2.2.2.2.1; omega)
              go_enter Try.func9, Try.ntmps9
              go_wp2_with fail
              refine (r_right tag htg).mono ?_
              rintro e w2 ⟨rfl, hw2⟩
              obtain rfl : w = w2 := hw2.symm
              rw [HQ.out]
              go_wp2
              go_ret
              rw [HF.out]
              exact ⟨rfl, Chg.refl _ _⟩
            · have HA0 : Hid (∀ s ∈ ts.take 0, nameB (strL s) = true) := by show ∀ s ∈ _, _; simp
              have HD0 : Hid ((ts.take 0).Nodup) := by show List.Nodup _; simp
              have HC0 := Lib.hid (Chg.refl nob w)
              go_enter Try.func9, Try.ntmps9
              go_wp2_with fail
              refine (r_right tag htg).mono ?_
              rintro e w2 ⟨rfl, hw2⟩
              obtain rfl : w = w2 := hw2.symm
              rw [HQ.out]
              go_wp2
              go_loopw [7] (fun i wr => ∃ k : Nat, k ≤ tn ∧ i = .int .i64 k ∧ Hid (∀ s ∈ ts.take k, nameB (strL s) = true) ∧ Hid ((ts.take k).Nodup) ∧ Hid (Chg nob w wr)) (fun i _ => tn - (intOf i).toNat)
              case atStart => exact ⟨0, Nat.zero_le _, rfl, HA0, HD0, HC0⟩
              case round =>
                obtain ⟨k, hk, rfl, HA, HD, HC⟩ := hrel
                clear HA0 HD0 HC0
                by_cases hlt : k < tn
                · have b1 : (k : Int) < (tn : Int) := by omega
                  have b3 : (0 : Int) ≤ (k : Int) := by omega
                  obtain ⟨y, hy⟩ : ∃ y, ts[k]? = some y := ⟨_, List.getElem?_eq_getElem (by rw [HN.out]; exact hlt)⟩
                  obtain ⟨ad, rfl, _, hcell⟩ := at_scalar (Kd.C_new HT.out HC.out) hy
                  have HY := Lib.hid hy
                  clear hy
                  go_wp2_with fail
                  refine (r_right y (HSZ.out y (List.mem_of_getElem? HY.out))).mono ?_
                  rintro e w2 ⟨rfl, hw2⟩
                  obtain rfl : wr = w2 := hw2.symm
                  obtain ⟨q, hq⟩ : ∃ q, nameB (strL y) = q := ⟨_, rfl⟩
                  rw [hq]
                  have HQY := Lib.hid hq
                  clear hq
                  cases q with
                  | false =>
                    have HF : Hid (upR ts tag most = false) := decide_eq_false (fun h => by have := h.2.2.2.2.2.1 y (List.mem_of_getElem? HY.out); rw [HQY.out] at this; cases this)
                    go_wp2
                    go_ret
                    rw [HF.out]
                    exact ⟨rfl, HC.out⟩
                  | true =>
                    have HI0 : Hid (y ∉ ts.take 0) := by show ¬ _; simp
                    clear hcell
                    go_wp2
                    go_loopw [8] (fun i wx => ∃ j : Nat, j ≤ k ∧ i = .int .i64 j ∧ Hid (y ∉ ts.take j) ∧ Hid (Chg nob w wx)) (fun i _ => k - (intOf i).toNat)
                    case atStart => exact ⟨0, Nat.zero_le _, rfl, HI0, HC⟩
                    case round =>
                      obtain ⟨j, hjk, rfl, HI, HCJ⟩ := hrel
                      clear HI0 HC
                      by_cases hjl : j < k
                      · have b5 : (j : Int) < (k : Int) := by omega
                        have b6 : (0 : Int) ≤ (j : Int) := by omega
                        have b7 : (j : Int) < (tn : Int) := by omega
                        obtain ⟨z, hz⟩ : ∃ z, ts[j]? = some z := ⟨_, List.getElem?_eq_getElem (by rw [HN.out]; omega)⟩
                        obtain ⟨ad2, e2, _, hcell2⟩ := at_scalar (Kd.C_new HT.out HCJ.out) hz
                        obtain rfl : ad = ad2 := by simpa using e2
                        obtain ⟨ad3, e3, _, hcell3⟩ := at_scalar (Kd.C_new HT.out HCJ.out) HY.out
                        obtain rfl : ad = ad3 := by simpa using e3
                        have HZ := Lib.hid hz
                        clear hz e2 e3
                        by_cases hzy : z = y
                        · subst hzy
                          have t : (z.toList == z.toList) = true := by simp
                          have HF : Hid (upR ts tag most = false) := decide_eq_false (fun h => not_nodup HY.out (mem_take_of HZ.out hjl) h.2.2.2.2.2.2)
                          go_wp2
                          go_quiet (fail)
                          go_wp2
                          go_ret
                          rw [HF.out]
                          exact ⟨rfl, HCJ.out.drewN _⟩
                        · have t : (z.toList == y.toList) = false := by rw [str_eq]; exact decide_eq_false hzy
                          have HI2 := Lib.hid (mem_take_next HZ.out HI.out (fun e => hzy e.symm))
                          clear hzy
                          go_wp2
                          go_quiet (fail)
                          go_wp2
                          exact ⟨⟨j + 1, by omega, by go_num, HI2, HCJ.out.drewN _⟩, by simp [intOf]; omega⟩
                      · obtain rfl : j = k := by omega
                        have b5 : ¬ (j : Int) < (j : Int) := by omega
                        have HA2 := Lib.hid (all_take HY.out HA.out HQY.out)
                        have HD2 := Lib.hid (nodup_take HY.out HD.out HI.out)
                        go_wp2
                        exact ⟨⟨j + 1, by omega, by go_num, HA2, HD2, HCJ⟩, by simp [intOf]; omega⟩
                · obtain rfl : k = tn := by omega
                  have b1 : ¬ (k : Int) < (k : Int) := by omega
                  have HF : Hid (upR ts tag most = true) := by
                    have h1 := HA.out
                    have h2 := HD.out
                    rw [← HN.out, List.take_length] at h1 h2
                    exact decide_eq_true ⟨by rw [HN.out]; omega, by rw [HN.out]; omega, HTAG.out, by omega, by omega, h1, h2⟩
                  go_wp2
                  go_ret
                  rw [HF.out]
                  exact ⟨rfl, HC.out⟩
end Go.Proofs.Ythjlgcooihpakaa
