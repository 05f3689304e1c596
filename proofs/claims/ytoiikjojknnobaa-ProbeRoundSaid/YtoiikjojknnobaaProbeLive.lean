/- The law ProbeLive: the walk. -/
import Derived.Test.YtoiikjojknnobaaProbeOthers
namespace Go.Proofs.Ytoiikjojknnobaa
open Go.RowKit
set_option linter.unusedVariables false
set_option linter.unusedSimpArgs false
theorem seekL_iff {live : List Int} : ∀ {l : List Int} {i : Nat}, (seekL live l i).2.1 = true → (seekL live l i).1 ∈ l ∧ (seekL live l i).1 ∈ live
  | [], i, h => by cases h
  | x :: l, i, h => by
    unfold seekL at h ⊢
    by_cases hx : x ∈ live
    · rw [if_pos hx]
      exact ⟨List.mem_cons_self .., hx⟩
    · rw [if_neg hx] at h ⊢
      have := seekL_iff h
      exact ⟨List.mem_cons_of_mem _ this.1, this.2⟩
theorem seekL_none {live : List Int} : ∀ {l : List Int} {i : Nat}, (seekL live l i).2.1 = false → ∀ x ∈ l, x ∉ live
  | [], i, _ => by simp
  | y :: l, i, h => by
    unfold seekL at h
    by_cases hy : y ∈ live
    · rw [if_pos hy] at h; cases h
    · rw [if_neg hy] at h
      intro x hx
      rcases List.mem_cons.1 hx with rfl | hx
      · exact hy
      · exact seekL_none h x hx
/-- Does any of a row live? -/
def anyL (row live : List Int) : Bool := row.any (fun x => decide (x ∈ live))
theorem next_ok {xs : List Int} (hx : ∀ x ∈ xs, 0 ≤ x ∧ x < 4294967296) {k : Nat} {s : List Int × Nat} (h : GoodR s) (live : List Int) :
    (nextF xs k s live).1.2 = anyL s.1 live ∧ ((nextF xs k s live).1.2 = true → (nextF xs k s live).1.1 ∈ s.1 ∧ (nextF xs k s live).1.1 ∈ live) ∧ (nextF xs k s live).2.1.1.Perm s.1 := by
  have hp := pickL_perm hx (k := k) (l := s.1) (by have := h.len; omega)
  unfold nextF anyL
  split
  · rename_i hf
    have h1 := seekL_iff hf
    have h2 : (seekL live (s.1.drop s.2) s.2).1 ∈ s.1 := List.mem_of_mem_drop h1.1
    exact ⟨(List.any_eq_true.2 ⟨_, h2, decide_eq_true h1.2⟩).symm, fun _ => ⟨h2, h1.2⟩, List.Perm.refl _⟩
  · obtain ⟨b, hb⟩ : ∃ b, (seekL live (pickL s.1 (drawOrd xs k s.1.length).1) 0).2.1 = b := ⟨_, rfl⟩
    cases b with
    | true =>
      have h1 := seekL_iff hb
      have h2 := hp.mem_iff.1 h1.1
      refine ⟨?_, fun _ => ⟨h2, h1.2⟩, hp⟩
      show (seekL live (pickL s.1 (drawOrd xs k s.1.length).1) 0).2.1 = _
      rw [hb]
      exact (List.any_eq_true.2 ⟨_, h2, decide_eq_true h1.2⟩).symm
    | false =>
      have h1 := seekL_none hb
      refine ⟨?_, fun e => ?_, hp⟩
      · show (seekL live (pickL s.1 (drawOrd xs k s.1.length).1) 0).2.1 = _
        rw [hb]
        refine (List.any_eq_false.2 fun x hx => ?_).symm
        simpa using h1 x (hp.mem_iff.2 hx)
      · have e : (seekL live (pickL s.1 (drawOrd xs k s.1.length).1) 0).2.1 = true := e
        rw [hb] at e
        cases e
theorem anyL_succ {row live : List Int} {i : Nat} {y : Int} (h : row[i]? = some y) : anyL (row.take (i + 1)) live = (anyL (row.take i) live || decide (y ∈ live)) := by
  unfold anyL
  rw [List.take_add_one, h, List.any_append]
  simp
theorem p_list {W w : World} {own : Nat → Prop} {g k : Nat} {p : Option Addr} {xs : List Int} {s : List Int × Nat} (h : PSt W own g p xs s k w) :
    Calls Try.prog 13 #[.pointer (some ⟨g, 0, none⟩)] w (Cloned w s.1) := by
  obtain ⟨okr, okd, h1, h2, h3, h4, h5, h6, h7⟩ := h
  exact rg_list h1 (by have := h7.len; omega)
abbrev livesK : Kd (List Int) := Kd.slice intK
theorem lives_at {w : World} {ok : Nat → Prop} {B : Option Addr} {ls : List (List Int)} (h : livesK.C w ok B ls) {j : Nat} {l : List Int} (hj : ls[j]? = some l) : ∃ b o A c, B = some ⟨b, o, none⟩ ∧ w.cell? ⟨b, o + j, none⟩ = some (.slice A l.length c) ∧ intK.C w ok A l := by
  obtain ⟨b, o, c, e, _, hk, hc⟩ := Kd.C_at' h hj
  obtain ⟨A, d, rfl, hl, hC⟩ := hk
  have := hc 0 (.slice A l.length d) rfl
  rw [show livesK.sz = 1 from rfl, Nat.mul_one, Nat.add_zero] at this
  exact ⟨b, o, A, d, e, this, hC⟩
set_option maxRecDepth 100000 in
set_option maxHeartbeats 4000000 in
theorem probeLive_walk {w : World} {ok : Nat → Prop} {A : Option Addr} {c : Nat} {xs : List Int} (h : (Kd.int .u32).C w ok A xs) (hc : xs.length ≤ c) (hb : ∀ x ∈ xs, 0 ≤ x ∧ x < 4294967296) (m : Int) {B : Option Addr} {nl cl : Nat} {ls : List (List Int)} (hls : livesK.C w (fun b => b < w.heap.size) B ls) (hnl : ls.length = nl) :
    Calls Try.prog 4 #[.slice A xs.length c, .int .u8 m, .slice B nl cl] w fun e w' => e = .returned (.bool true) ∧ Chg nob w w' := by
  obtain ⟨n, hn⟩ : ∃ n, xs.length = n := ⟨_, rfl⟩
  have HX := Lib.hid h
  have HXN := Lib.hid hn
  have HXC := Lib.hid hc
  have HXB := Lib.hid hb
  have HLS := Lib.hid hls
  have HNL := Lib.hid hnl
  rw [hn]
  clear h hn hc hb hls hnl
  go_enter Try.func4, Try.ntmps4
  go_wp2_with fail
  refine (rg_new _).mono ?_
  rintro e w1 ⟨g, rfl, hg, hr, hc1⟩
  go_wp2_with fail
  have hdn := draw_new (c := c) (Kd.C_new HX.out hc1) HXC.out HXB.out
  rw [HXN.out] at hdn
  refine hdn.mono ?_
  rintro e w2 ⟨gd, rfl, hd, hc2⟩
  generalize List.take 4096 xs = ys at hd
  have HS : Hid (∃ own s k, PSt w own g (some ⟨gd, 0, none⟩) ys s k w2) := ⟨_, _, _, p_start hr hg hd hc1 hc2⟩
  clear hdn hg hr hd hc1 hc2 HX HXN HXC HXB
  go_wp2
  go_loopw [9] (fun v wr => ∃ j : Nat, j ≤ 8 ∧ v = .int .i64 j ∧ Hid (∃ own s k, PSt w own g (some ⟨gd, 0, none⟩) ys s k wr)) (fun v _ => 8 - (intOf v).toNat)
  case atStart => exact ⟨0, Nat.zero_le _, rfl, HS⟩
  case round =>
    obtain ⟨j, hj, rfl, HSJ⟩ := hrel
    clear HS
    by_cases hlt : j < 8
    · have b1 : (j : Int) < 8 := by omega
      have b3 : ¬ (j : Int) < 0 := by omega
      by_cases hbit : bitF m j = true
      · have t : (Go.bits .and .u8 (m / 2 ^ j) 1 == 1) = true := hbit
        clear hbit
        go_wp2_with fail
        obtain ⟨own, s, k, hst⟩ := HSJ.out
        refine (p_add hst (j : Int)).mono ?_
        rintro e w3 ⟨rfl, _, own', hst', _⟩
        have HS3 : Hid (∃ own s k, PSt w own g (some ⟨gd, 0, none⟩) ys s k w3) := ⟨_, _, _, hst'⟩
        clear hst hst' t
        go_wp2
        exact ⟨⟨j + 1, by omega, by go_num, HS3⟩, by simp [intOf]; omega⟩
      · have t : (Go.bits .and .u8 (m / 2 ^ j) 1 == 1) = false := by simpa [bitF] using hbit
        clear hbit
        go_wp2
        exact ⟨⟨j + 1, by omega, by go_num, HSJ⟩, by simp [intOf]; omega⟩
    · obtain rfl : j = 8 := by omega
      have b1 : ¬ ((8 : Nat) : Int) < 8 := by omega
      rw [show ((8 : Nat) : Int) = 8 from rfl]
      go_wp2
      go_loopw [10] (fun v wr => ∃ j : Nat, j ≤ nl ∧ v = .int .i64 j ∧ Hid (∃ own s k, PSt w own g (some ⟨gd, 0, none⟩) ys s k wr)) (fun v _ => nl - (intOf v).toNat)
      case atStart => exact ⟨0, Nat.zero_le _, rfl, HSJ⟩
      case round =>
        obtain ⟨j, hj2, rfl, HSK⟩ := hrel
        clear HSJ
        have hsm := HLS.out.small
        rw [HNL.out] at hsm
        by_cases hlt1 : j < nl
        · have g1 : (j : Int) < (nl : Int) := by omega
          have g3 : (0 : Int) ≤ (j : Int) := by omega
          by_cases hlt2 : j < 30
          · have g2 : (j : Int) < 30 := by omega
            obtain ⟨l, hl⟩ : ∃ l, ls[j]? = some l := ⟨_, List.getElem?_eq_getElem (by rw [HNL.out]; exact hlt1)⟩
            obtain ⟨own, s, k, hst⟩ := HSK.out
            have hchg : Chg nob w wr := by obtain ⟨_, _, _, _, _, _, _, h6, _⟩ := hst; exact h6
            obtain ⟨lb, lo, A2, c2, rfl, hcell, hCl⟩ := lives_at HLS.out hl
            obtain ⟨ll, hll⟩ : ∃ ll, l.length = ll := ⟨_, rfl⟩
            rw [hll] at hcell
            have HLL := Lib.hid hll
            have HST := Lib.hid hst
            have HCELL := Lib.hid hcell
            have HCL := Lib.hid hCl
            have HCHG := Lib.hid hchg
            clear hst hchg hcell hl hCl hll
            go_wp2_with fail
            refine (p_list HST.out).mono ?_
            rintro e w3 ⟨A3, c3, rfl, hc3, hC3, hcn⟩
            obtain ⟨rn, hrn⟩ : ∃ rn, s.1.length = rn := ⟨_, rfl⟩
            rw [hrn] at hc3 ⊢
            have HRN := Lib.hid hrn
            have HC3 := Lib.hid (Kd.C_bound hC3)
            have HST3 := Lib.hid (HST.out.new hcn)
            have HCW3 := Lib.hid (HCHG.out.thenNew hcn)
            have hr8 : rn ≤ 8 := by obtain ⟨_, _, _, _, _, _, _, _, h7⟩ := HST.out; have := h7.len; omega
            have HLT := Lib.hid (fun b hb => (HST.out.lt b hb))
            have hw3 := hcn.size
            have HC30 := Lib.hid (Chg.refl nob w3)
            have HA0 : Hid (anyL (s.1.take 0) l = false) := rfl
            clear hrn hC3 hcn
            go_wp2
            go_loopw [12, 13] (fun v i wx => ∃ (q : Nat) (bv : Bool), q ≤ rn ∧ v = .bool bv ∧ i = .int .i64 q ∧ Hid (anyL (s.1.take q) l = bv) ∧ Hid (Chg nob w3 wx)) (fun _ i _ => rn - (intOf i).toNat)
            case atStart => exact ⟨0, false, Nat.zero_le _, rfl, rfl, HA0, HC30⟩
            case round =>
              obtain ⟨q, bv, hq, rfl, rfl, HA, HCQ⟩ := hrel
              clear HA0 HC30
              by_cases hqr : q < rn
              · have g5 : (q : Int) < (rn : Int) := by omega
                have g6 : (0 : Int) ≤ (q : Int) := by omega
                obtain ⟨y, hy⟩ : ∃ y, s.1[q]? = some y := ⟨_, List.getElem?_eq_getElem (by rw [HRN.out]; exact hqr)⟩
                obtain ⟨ad, rfl, _, hyc⟩ := at_scalar HC3.out hy
                have HYC := Lib.hid hyc
                have HAS := Lib.hid (anyL_succ (live := l) hy)
                have hcq := HCQ.out.drew
                have HHA : Hid (∀ wx, Chg nob w3 wx → Calls Try.prog 14 #[.slice A2 ll c2, .int .i64 y] wx fun e w' => e = .returned (.bool (decide (y ∈ l))) ∧ Chg nob w3 w') := fun wx hc => (r_has (Kd.C_new HCL.out (HCW3.out.thenNew hc)) HLL.out y).mono fun e w' ⟨he, hw⟩ => ⟨he, hw ▸ hc⟩
                clear hy hyc
                cases bv with
                | true =>
                  go_wp2
                  go_quiet (fail)
                  go_wp2
                  have HA2 : Hid (anyL (s.1.take (q + 1)) l = true) := by show _ = _; rw [HAS.out, HA.out]; rfl
                  exact ⟨⟨q + 1, true, by omega, rfl, by go_num, HA2, Lib.hid (HCQ.out.drewN _)⟩, by simp [intOf]; omega⟩
                | false =>
                  go_wp2
                  go_region_held3 (fun w' => w'.cell? (ad.add q) = some (.int .i64 y) ∧ w'.cell? ⟨lb, lo + j, none⟩ = some (.slice A2 ll c2)) (exact ⟨Chg.cell (by assumption) HYC.out (not_nob _), Chg.cell (HCW3.out.thenNew (by assumption)) HCELL.out (not_nob _)⟩)
                    (first | (go_at_call 14; refine (HHA.out _ (by assumption)).mono ?_; rintro e w' ⟨rfl, hq⟩))
                  have HA2 : Hid (anyL (s.1.take (q + 1)) l = decide (y ∈ l)) := by show _ = _; rw [HAS.out, HA.out]; rfl
                  have HQ := Lib.hid hq
                  clear hq hcq
                  go_wp2
                  exact ⟨⟨q + 1, _, by omega, rfl, by go_num, HA2, HQ⟩, by simp [intOf]; omega⟩
              · obtain rfl : q = rn := by omega
                have g5 : ¬ (q : Int) < (q : Int) := by omega
                have HALL : Hid (anyL s.1 l = bv) := by have := HA.out; rwa [← HRN.out, List.take_length] at this
                have hcell := HCW3.out.thenNew HCQ.out |>.cell HCELL.out (not_nob _)
                go_wp2_with fail
                have HSQ := Lib.hid (HST3.out.new HCQ.out)
                have HCLQ := Lib.hid (Kd.C_new HCL.out (HCW3.out.thenNew HCQ.out))
                refine (p_next HSQ.out HCLQ.out HLL.out (fun b hb ho => by have := (HLT.out b ho).1; omega)).mono ?_
                rintro e w5 ⟨rfl, hc5, own', hst5, _⟩
                obtain ⟨hn1, hn2, hn3⟩ := next_ok (xs := ys) (k := k) (by obtain ⟨_, _, _, h2, _⟩ := HST.out; exact h2.bd) (by obtain ⟨_, _, _, _, _, _, _, _, h7⟩ := HST.out; exact h7) l
                obtain ⟨N, hN⟩ : ∃ N, nextF ys k s l = N := ⟨_, rfl⟩
                rw [hN] at hst5 hn1 hn2 hn3 ⊢
                rw [HALL.out] at hn1
                obtain ⟨nn, hnn⟩ : ∃ nn, N.1.1 = nn := ⟨_, rfl⟩
                rw [hn1, hnn] at hn2 ⊢
                have HS5 := Lib.hid hst5
                have HR5 := Lib.hid (Kd.C_chg (Kd.C_new HC3.out HCQ.out) hc5 (fun b hb ho => by have := (HLT.out b ho).2; omega))
                have HW5 : Hid (Chg nob w w5) := by obtain ⟨_, _, _, _, _, _, _, h6, _⟩ := hst5; exact h6
                have HLS5 : Hid (∀ wx, Chg nob w5 wx → Calls Try.prog 13 #[.pointer (some ⟨g, 0, none⟩)] wx fun e w' => ∃ A c, e = .returned (.slice A q c) ∧ Chg nob w5 w') := fun wx hc => (p_list (hst5.new hc)).mono fun e w' ⟨A, c, he, _, _, hcn⟩ => ⟨A, c, by rw [he, hn3.length_eq, HRN.out], hc.thenNew hcn⟩
                have HHR : Hid (∀ wx, Chg nob w5 wx → Calls Try.prog 14 #[.slice A3 q c3, .int .i64 nn] wx fun e w' => e = .returned (.bool (decide (nn ∈ s.1))) ∧ Chg nob w5 w') := fun wx hc => (r_has (Kd.C_new HR5.out hc) HRN.out nn).mono fun e w' ⟨he, hw⟩ => ⟨he, hw ▸ hc⟩
                have HHL : Hid (∀ wx, Chg nob w5 wx → Calls Try.prog 14 #[.slice A2 ll c2, .int .i64 nn] wx fun e w' => e = .returned (.bool (decide (nn ∈ l))) ∧ Chg nob w5 w') := fun wx hc => (r_has (Kd.C_new HCL.out (HW5.out.thenNew hc)) HLL.out nn).mono fun e w' ⟨he, hw⟩ => ⟨he, hw ▸ hc⟩
                have hcr := (Chg.refl nob w5)
                clear hst5 hc5 hcell hn1 hn3 hN hnn
                cases bv with
                | true =>
                  obtain ⟨hm1, hm2⟩ := hn2 rfl
                  rw [decide_eq_true hm1] at HHR
                  rw [decide_eq_true hm2] at HHL
                  clear hm1 hm2 hn2
                  go_wp2_with (first | (go_at_call 14; with_reducible refine (HHR.out _ (by assumption)).mono ?_; rintro e w' ⟨rfl, hq⟩; have hcx := (HW5.out.thenNew hq).cell HCELL.out (not_nob _)) | (go_at_call 14; with_reducible refine (HHL.out _ (by assumption)).mono ?_; rintro e w' ⟨rfl, hq⟩) | (go_at_call 13; refine (HLS5.out _ (by assumption)).mono ?_; rintro e w' ⟨AL, CL, rfl, hq⟩))
                  have HSE : Hid (∃ own s k, PSt w own g (some ⟨gd, 0, none⟩) ys s k w') := ⟨_, _, _, HS5.out.new hq⟩
                  clear hcr hq
                  go_wp2
                  exact ⟨⟨j + 1, by omega, by go_num, HSE⟩, by simp [intOf]; omega⟩
                | false =>
                  clear hn2
                  go_wp2_with (first | (go_at_call 14; with_reducible refine (HHR.out _ (by assumption)).mono ?_; rintro e w' ⟨rfl, hq⟩; have hcx := (HW5.out.thenNew hq).cell HCELL.out (not_nob _)) | (go_at_call 14; with_reducible refine (HHL.out _ (by assumption)).mono ?_; rintro e w' ⟨rfl, hq⟩) | (go_at_call 13; refine (HLS5.out _ (by assumption)).mono ?_; rintro e w' ⟨AL, CL, rfl, hq⟩))
                  have HSE : Hid (∃ own s k, PSt w own g (some ⟨gd, 0, none⟩) ys s k w') := ⟨_, _, _, HS5.out.new hq⟩
                  clear hcr hq
                  go_wp2
                  exact ⟨⟨j + 1, by omega, by go_num, HSE⟩, by simp [intOf]; omega⟩
          · have g2 : ¬ (j : Int) < 30 := by omega
            go_wp2_with fail
            refine (probe_works _).mono ?_
            rintro e w9 ⟨rfl, hc9⟩
            obtain ⟨_, _, _, _, _, _, _, _, _, _, h6, _⟩ := HSK.out
            go_wp2
            go_ret
            exact ⟨rfl, h6.thenNew hc9⟩
        · have g1 : ¬ (j : Int) < (nl : Int) := by omega
          go_wp2_with fail
          refine (probe_works _).mono ?_
          rintro e w9 ⟨rfl, hc9⟩
          obtain ⟨_, _, _, _, _, _, _, _, _, _, h6, _⟩ := HSK.out
          go_wp2
          go_ret
          exact ⟨rfl, h6.thenNew hc9⟩
end Go.Proofs.Ytoiikjojknnobaa
