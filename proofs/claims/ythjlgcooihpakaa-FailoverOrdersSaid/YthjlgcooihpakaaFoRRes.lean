/- Failover: the reference's Resolve. -/
import Derived.Test.YthjlgcooihpakaaFoResolve
namespace Go.Proofs.Ythjlgcooihpakaa
open Go.RowKit
set_option linter.unusedVariables false
set_option linter.unusedSimpArgs false
theorem spk_pre {ts : List ByteArray} {tag : ByteArray} {ls : List Ans} (k : Nat) : (spkL tag (ts.zip ls) 0).take (spkN ts tag ls k) = spkL tag ((ts.zip ls).take k) 0 := by
  have h := spkL_append (tag := tag) ((ts.zip ls).take k) ((ts.zip ls).drop k) 0
  rw [List.take_append_drop] at h
  rw [h]
  exact List.take_left' rfl
/-- The first j instances, as many as are wanted. -/
def gdT (tag target : ByteArray) (most : Nat) (l : List Inst) (j : Nat) : List Svc := (goodL tag target (l.take j)).take most
theorem gdT_snoc {tag target : ByteArray} {most : Nat} {l : List Inst} {j : Nat} {x : Inst} (h : l[j]? = some x) : gdT tag target most l (j + 1) = gdT tag target most l j ++ (if servesB tag target x = true ∧ (gdT tag target most l j).length < most then [x.1] else []) := by
  unfold gdT
  rw [goodL_snoc h]
  generalize goodL tag target (l.take j) = G
  by_cases hs : servesB tag target x = true
  · rw [if_pos hs]
    by_cases hl : G.length < most
    · rw [if_pos ⟨hs, by rw [List.length_take]; omega⟩, List.take_of_length_le (by simp; omega), List.take_of_length_le (by omega)]
    · rw [if_neg (fun e => by have := e.2; rw [List.length_take] at this; omega), List.take_append_of_le_length (by omega), List.append_nil]
  · rw [if_neg hs, if_neg (fun e => hs e.1), List.append_nil, List.append_nil]
theorem spk_step_none {ts : List ByteArray} {tag : ByteArray} {ls : List Ans} {k : Nat} {t : ByteArray} {a : Ans} (h1 : ts[k]? = some t) (h2 : ls[k]? = some a) (h3 : a.1 = 1 → goodL tag t a.2.2.2.2.1 = []) (h : ∀ p ∈ spkL tag ((ts.zip ls).take k) 0, p.2 = []) : ∀ p ∈ spkL tag ((ts.zip ls).take (k + 1)) 0, p.2 = [] := by
  intro p hp
  rw [spkN_at h1 h2, List.mem_append] at hp
  rcases hp with hp | hp
  · exact h p hp
  · split at hp
    · rename_i h4
      simp at hp
      rw [hp]
      exact h3 h4
    · simp at hp
set_option maxRecDepth 100000 in
set_option maxHeartbeats 4000000 in
theorem r_resolve {w : World} {okT okL : Nat → Prop} {T B : Option Addr} {tn tc ln lc m : Nat} {ts : List ByteArray} {tag : ByteArray} {ls : List Ans} (hT : strK.C w okT T ts) (hL : ansK.C w okL B ls) (hn : ts.length = tn) (hln : ls.length = ln) (hm1 : 1 ≤ m) (hm16 : m ≤ 16) (hokL : ∀ b, okL b → b < w.heap.size) :
    Calls Try.prog 12 #[.slice T tn tc, .string tag, .int .i64 m, .slice B ln lc] w (ResPost w (resF ts tag m ls)) := by
  have hsm := hT.small
  have hsl := hL.small
  rw [hn] at hsm
  rw [hln] at hsl
  have HT := Lib.hid hT
  have HL := Lib.hid hL
  have HN := Lib.hid hn
  have HLN := Lib.hid hln
  have HOL := Lib.hid hokL
  have HC0 := Lib.hid (Chg.refl nob w)
  have HP0 : Hid (∀ p ∈ spkL tag ((ts.zip ls).take 0) 0, p.2 = []) := by show ∀ p ∈ _, _; simp [spkL]
  clear hT hL hn hln hokL
  go_enter Try.func12, Try.ntmps12
  go_wp2
  go_loopw [10] (fun i wr => ∃ k : Nat, k ≤ tn ∧ k ≤ ln ∧ i = .int .i64 k ∧ Hid (∀ p ∈ spkL tag ((ts.zip ls).take k) 0, p.2 = []) ∧ Hid (Chg nob w wr)) (fun i _ => tn - (intOf i).toNat)
  case atStart => exact ⟨0, Nat.zero_le _, Nat.zero_le _, rfl, HP0, HC0⟩
  case round =>
    obtain ⟨k, hk, hkl, rfl, HP, HC⟩ := hrel
    clear HP0 HC0
    by_cases hlt : k < tn ∧ k < ln
    · obtain ⟨hlt1, hlt2⟩ := hlt
      have b1 : (k : Int) < (tn : Int) := by omega
      have b2 : (k : Int) < (ln : Int) := by omega
      have b3 : (0 : Int) ≤ (k : Int) := by omega
      obtain ⟨y, hy⟩ : ∃ y, ts[k]? = some y := ⟨_, List.getElem?_eq_getElem (by rw [HN.out]; exact hlt1)⟩
      obtain ⟨a, ha⟩ : ∃ a, ls[k]? = some a := ⟨_, List.getElem?_eq_getElem (by rw [HLN.out]; exact hlt2)⟩
      obtain ⟨w1, hw1⟩ : ∃ w1, w1 = wr := ⟨_, rfl⟩
      subst hw1
      obtain ⟨ad, rfl, _, hcell⟩ := at_scalar (Kd.C_new HT.out HC.out) hy
      obtain ⟨bb, bo, c, rfl, _, hkk, hcc⟩ := Kd.C_at' (Kd.C_new HL.out HC.out) ha
      obtain ⟨S, sd, K, kd, Nn, nd, I, id, E, ed, Tt, td, rfl, _, _, _, ⟨hI1, hI2, hI3⟩, _, _⟩ := ans_cells hkk
      have z0 := hcc 0 _ rfl
      have z8 := hcc 8 _ rfl
      rw [show ansK.sz = 11 from rfl, Nat.add_zero] at z0
      rw [show ansK.sz = 11 from rfl] at z8
      obtain ⟨im, him⟩ : ∃ im, a.2.2.2.2.1.length = im := ⟨_, rfl⟩
      rw [him] at z8 hI2 hI3
      have hism := hI1.small
      rw [him] at hism
      have HY := Lib.hid hy
      have HA := Lib.hid ha
      have HIM := Lib.hid him
      have HI := Lib.hid hI1
      have HZ0 := Lib.hid z0
      have HZ8 := Lib.hid z8
      have HCE := Lib.hid hcell
      have hs1 := HC.out.size
      have HR0 : Hid (svcK.R 58 w1 w1.heap.size (fun b => okL b ∨ w1.heap.size ≤ b) (.slice none 0 0) (gdT tag y m a.2.2.2.2.1 0)) := by show Kd.R _ _ _ _ _ _ _; simp only [gdT, goodL, List.take_zero, List.filter_nil, List.map_nil, List.take_nil]; exact Kd.R_nil _ _ _ _ _
      have HM0 : Hid ((gdT tag y m a.2.2.2.2.1 0).length = 0) := by show _ = _; simp [gdT, goodL]
      have HC10 := Lib.hid (Chg.refl nob w1)
      clear hy ha him hI1 hkk hcc z0 z8 hcell
      go_wp2
      go_loopw [11, 12] (fun v i wx => ∃ (j mm : Nat) (V : Option Addr) (cv : Nat), j ≤ im ∧ mm ≤ j ∧ v = .slice V mm cv ∧ i = .int .i64 j ∧ (a.1 = 1 ∨ j = 0) ∧ Hid ((gdT tag y m a.2.2.2.2.1 j).length = mm) ∧ Hid (svcK.R 58 wx w1.heap.size (fun b => okL b ∨ w1.heap.size ≤ b) (.slice V mm cv) (gdT tag y m a.2.2.2.2.1 j)) ∧ Hid (Chg nob w1 wx)) (fun _ i _ => im - (intOf i).toNat)
      case atStart => exact ⟨0, 0, none, 0, Nat.zero_le _, Nat.le_refl _, rfl, rfl, .inr rfl, HM0, HR0, HC10⟩
      case round =>
        obtain ⟨j, mm, V, cv, hj, hmj, rfl, rfl, hkd, HM, HR, HCJ⟩ := hrel
        clear HR0 HM0 HC10
        have z0 := HCJ.out.cell HZ0.out (not_nob _)
        have z8 := HCJ.out.cell HZ8.out (not_nob _)
        have hce := HCJ.out.cell HCE.out (not_nob _)
        have b6 : (0 : Int) ≤ (j : Int) := by omega
        by_cases hjl : j < im
        · have b5 : (j : Int) < (im : Int) := by omega
          by_cases hk1 : a.1 = 1
          · have t1 : (a.1 == 1) = true := by simp [hk1]
            clear hkd
            obtain ⟨x, hx⟩ : ∃ x, a.2.2.2.2.1[j]? = some x := ⟨_, List.getElem?_eq_getElem (by rw [HIM.out]; exact hjl)⟩
            obtain ⟨ib, io, L, d, rfl, hokb, hat, h7, hCt, hd, hts⟩ := inst_at (Kd.C_new HI.out HCJ.out) hx
            obtain ⟨xn, hxn⟩ : ∃ xn, x.1.2.2.2.1.length = xn := ⟨_, rfl⟩
            rw [hxn] at hat hd hts
            obtain ⟨p0, p1, p2, p3, p4, p5, p6⟩ := hat
            have HX := Lib.hid hx
            have HXN := Lib.hid hxn
            have HCT := Lib.hid hCt
            have HK1 := Lib.hid hk1
            obtain ⟨w2, hw2⟩ : ∃ w2, w2 = wr.alloc (.cells (instV x L d xn) 65) := ⟨_, rfl⟩
            have HW2 := Lib.hid hw2
            have hc2 : Chg nob wr w2 := by rw [hw2]; exact (Chg.refl nob wr).alloc _
            have hb2 : w2.heap[wr.heap.size]? = some (.cells (instV x L d xn) 65 (0, 0)) := by rw [hw2]; exact heap_alloc_new wr _
            have HC2 := Lib.hid hc2
            have HB2 := Lib.hid hb2
            have HGS := Lib.hid (gdT_snoc (tag := tag) (target := y) (most := m) hx)
            clear hx hxn hCt hw2 hc2 hb2 hk1
            go_upto_region 9 with fail
            rw [show wr.alloc (.cells #[.int .i64 x.1.1, .string x.1.2.1, .string x.1.2.2.1, .slice L xn d, .int .i64 x.1.2.2.2.2.1, .int .u64 x.1.2.2.2.2.2.1, .int .u64 x.1.2.2.2.2.2.2, .int .i64 x.2] 65) = w2 from HW2.out.symm]
            clear p0 p1 p2 p3 p4 p5 p6 h7 z0 z8
            obtain ⟨⟨p0, p1, p2, p3, p4, p5, p6⟩, p7⟩ := inst_block HB2.out
            have hce2 := HC2.out.cell hce (not_nob _)
            have HCT2 := Lib.hid (Kd.C_new HCT.out HC2.out)
            have hem := empty_is tag
            have HQV : Hid ((servesB tag y x && decide (mm < m)) = (servesB tag y x && decide (mm < m))) := rfl
            clear hce p0 p1 p4 p5 p6
            go_cut [81] from 26 to 86 (fun b wx => b = .bool (servesB tag y x && decide (mm < m)) ∧ Hid (Chg nob w2 wx))
            case first =>
              by_cases hs : x.2 = 0
              · have t2 : (x.2 == 0) = true := by simp [hs]
                by_cases hnm : x.1.2.2.1 = y
                · have t3 : (x.1.2.2.1.toList == y.toList) = true := by rw [str_eq]; exact decide_eq_true hnm
                  by_cases hg : tag.size = 0
                  · have e1 : tag.toList.isEmpty = true := by rw [hem]; exact decide_eq_true hg
                    have HSV : Hid (servesB tag y x = true) := decide_eq_true ⟨hs, hnm, .inl hg⟩
                    clear hs hnm hg hem
                    by_cases hmm : mm < m
                    · have b9 : (mm : Int) < (m : Int) := by omega
                      have HV : Hid ((servesB tag y x && decide (mm < m)) = true) := by show _ = _; rw [HSV.out, decide_eq_true hmm]; rfl
                      go_wp2
                      go_quiet (fail)
                      go_wp2_with fail
                      go_meet
                      exact ⟨by rw [HV.out], Lib.hid (sdrew nob _ _)⟩
                    · have b9 : ¬ (mm : Int) < (m : Int) := by omega
                      have HV : Hid ((servesB tag y x && decide (mm < m)) = false) := by show _ = _; rw [HSV.out, decide_eq_false hmm]; rfl
                      go_wp2
                      go_quiet (fail)
                      go_wp2_with fail
                      go_meet
                      exact ⟨by rw [HV.out], Lib.hid (sdrew nob _ _)⟩
                  · have e1 : tag.toList.isEmpty = false := by rw [hem]; exact decide_eq_false hg
                    have HSV : Hid (servesB tag y x = decide (tag ∈ x.1.2.2.2.1)) := by
                      show _ = _
                      unfold servesB
                      by_cases hmt : tag ∈ x.1.2.2.2.1
                      · rw [decide_eq_true hmt]; exact decide_eq_true ⟨hs, hnm, .inr hmt⟩
                      · rw [decide_eq_false hmt]; exact decide_eq_false (fun h => by rcases h.2.2 with h | h; exact hg h; exact hmt h)
                    clear hs hnm hg hem
                    by_cases hmt : tag ∈ x.1.2.2.2.1
                    · by_cases hmm : mm < m
                      · have b9 : (mm : Int) < (m : Int) := by omega
                        have HV : Hid ((servesB tag y x && decide (mm < m)) = true) := by show _ = _; rw [HSV.out, decide_eq_true hmm, decide_eq_true hmt]; rfl
                        have HHA : Hid (∀ wx, Chg nob w2 wx → Calls Try.prog 23 #[.slice L xn d, .string tag] wx fun e w' => e = .returned (.bool true) ∧ w' = wx) := fun wx hx => (r_hasS (Kd.C_new HCT2.out hx) HXN.out tag).mono fun e w' ⟨h1, h2⟩ => ⟨by rw [h1, decide_eq_true hmt], h2⟩
                        clear hmt
                        go_wp2
                        go_quiet ((go_at_call 23; exact Calls.quiet_of_same (HHA.out _ (sdrew nob _ _))))
                        go_wp2_with fail
                        go_meet
                        exact ⟨by rw [HV.out], Lib.hid (sdrew nob _ _)⟩
                      · have b9 : ¬ (mm : Int) < (m : Int) := by omega
                        have HV : Hid ((servesB tag y x && decide (mm < m)) = false) := by show _ = _; rw [decide_eq_false hmm, Bool.and_false]
                        have HHA : Hid (∀ wx, Chg nob w2 wx → Calls Try.prog 23 #[.slice L xn d, .string tag] wx fun e w' => e = .returned (.bool true) ∧ w' = wx) := fun wx hx => (r_hasS (Kd.C_new HCT2.out hx) HXN.out tag).mono fun e w' ⟨h1, h2⟩ => ⟨by rw [h1, decide_eq_true hmt], h2⟩
                        clear hmt
                        go_wp2
                        go_quiet ((go_at_call 23; exact Calls.quiet_of_same (HHA.out _ (sdrew nob _ _))))
                        go_wp2_with fail
                        go_meet
                        exact ⟨by rw [HV.out], Lib.hid (sdrew nob _ _)⟩
                    · have HV : Hid ((servesB tag y x && decide (mm < m)) = false) := by show _ = _; rw [HSV.out, decide_eq_false hmt, Bool.false_and]
                      have HHA : Hid (∀ wx, Chg nob w2 wx → Calls Try.prog 23 #[.slice L xn d, .string tag] wx fun e w' => e = .returned (.bool false) ∧ w' = wx) := fun wx hx => (r_hasS (Kd.C_new HCT2.out hx) HXN.out tag).mono fun e w' ⟨h1, h2⟩ => ⟨by rw [h1, decide_eq_false hmt], h2⟩
                      clear hmt
                      go_wp2
                      go_quiet ((go_at_call 23; exact Calls.quiet_of_same (HHA.out _ (sdrew nob _ _))))
                      go_wp2_with fail
                      go_meet
                      exact ⟨by rw [HV.out], Lib.hid (sdrew nob _ _)⟩
                · have t3 : (x.1.2.2.1.toList == y.toList) = false := by rw [str_eq]; exact decide_eq_false hnm
                  have HV : Hid ((servesB tag y x && decide (mm < m)) = false) := by show _ = _; rw [show servesB tag y x = false from decide_eq_false (fun h => hnm h.2.1), Bool.false_and]
                  clear hs hnm hem
                  go_wp2
                  go_quiet (fail)
                  go_wp2_with fail
                  go_meet
                  exact ⟨by rw [HV.out], Lib.hid (sdrew nob _ _)⟩
              · have t2 : (x.2 == 0) = false := by simp [hs]
                have HV : Hid ((servesB tag y x && decide (mm < m)) = false) := by show _ = _; rw [show servesB tag y x = false from decide_eq_false (fun h => hs h.1), Bool.false_and]
                clear hs hem
                go_wp2
                go_quiet (fail)
                go_wp2_with fail
                go_meet
                exact ⟨by rw [HV.out], Lib.hid (sdrew nob _ _)⟩
            case rest =>
              obtain ⟨rfl, HCW⟩ := hcut
              have HWX := Lib.hid (HC2.out.thenNew HCW.out)
              have HC3 := Lib.hid (HCJ.out.thenNew HWX.out)
              obtain ⟨⟨p0, p1, p2, p3, p4, p5, p6⟩, p7⟩ := inst_block (HCW.out.heap HB2.out (not_nob _))
              have hgs := HGS.out
              rw [HM.out] at hgs
              have HCT3 := Lib.hid (Kd.C_new HCT2.out HCW.out)
              have hs3 := HC3.out.size
              by_cases hq : servesB tag y x = true ∧ mm < m
              · have HQ : Hid ((servesB tag y x && decide (mm < m)) = true) := by show _ = _; rw [hq.1, decide_eq_true hq.2]; rfl
                rw [if_pos hq] at hgs
                have HGS2 := Lib.hid hgs
                have hmm16 := hq.2
                have hsv : svcK.K wc (fun b => okL b) x.1 (svcV x.1 L d xn).toList := by
                  have := svc_mk (w := wc) (ok := okL) (x := x.1) (L := L) (d := d) HCT3.out (by rw [HXN.out]; exact hd) (by rw [HXN.out]; exact hts)
                  rw [HXN.out] at this
                  exact this
                have HSV := Lib.hid hsv
                have HRX := Lib.hid (Kd.R_new HR.out HWX.out)
                rw [HQ.out]
                clear hgs hsv hq
                go_wp2_with (at_builtin; refine wp_append1 (d := svcK) rfl _ _ 27 rfl 58 (.agg #[.int .i64 0, .string ByteArray.empty, .string ByteArray.empty, .slice none 0 0, .int .i64 0, .int .u64 0, .int .u64 0]) 88 Try.underlying27 l_cloneV_info rfl w1.heap.size _ okL (.slice V mm cv) (gdT tag y m a.2.2.2.2.1 j) x.1 (svcV x.1 L d xn) rfl rfl HRX.out HSV.out ?_ ?_ ?_ hs3 (mm + 1) (by rw [HM.out]) ?_)
                · intro b hb e
                  have h1 := (Kd.R_own HRX.out b e.symm).1
                  have h2 := HOL.out b hb
                  omega
                · rw [HM.out]; simp only [maxLen]; omega
                · rw [HM.out]; omega
                intro A5 c5 w5 hR5 hC5 _
                have HR5 : Hid (svcK.R 58 w5 w1.heap.size (fun b => okL b ∨ w1.heap.size ≤ b) (.slice A5 (mm + 1) c5) (gdT tag y m a.2.2.2.2.1 (j + 1))) := by
                  show Kd.R _ _ _ _ _ _ _
                  rw [HGS2.out]
                  refine Kd.R_mono hR5 (fun b hb => ?_)
                  rcases hb with hb | hb | hb
                  · exact hb
                  · exact .inl hb
                  · exact .inr (by omega)
                have HC5 : Hid (Chg nob w1 w5) := HC3.out.trans hC5 (fun i hi => .inr (Kd.R_own HRX.out i hi.symm).1)
                have HM5 : Hid ((gdT tag y m a.2.2.2.2.1 (j + 1)).length = mm + 1) := by show _ = _; rw [HGS2.out, List.length_append, HM.out]; rfl
                have HK1' := HK1.out
                clear hR5 hC5 p0 p1 p2 p3 p4 p5 p6 p7
                go_wp2
                exact ⟨⟨j + 1, mm + 1, A5, c5, by omega, by omega, by go_num, by go_num, .inl HK1.out, HM5, HR5, HC5⟩, by simp [intOf]; omega⟩
              · have HQ : Hid ((servesB tag y x && decide (mm < m)) = false) := by
                  show _ = _
                  rw [Bool.and_eq_false_iff]
                  by_cases h1 : servesB tag y x = true
                  · exact .inr (decide_eq_false (fun h2 => hq ⟨h1, h2⟩))
                  · exact .inl (by simpa using h1)
                rw [if_neg hq, List.append_nil] at hgs
                have HM2 : Hid ((gdT tag y m a.2.2.2.2.1 (j + 1)).length = mm) := by show _ = _; rw [hgs]; exact HM.out
                have HR2 : Hid (svcK.R 58 wc w1.heap.size (fun b => okL b ∨ w1.heap.size ≤ b) (.slice V mm cv) (gdT tag y m a.2.2.2.2.1 (j + 1))) := by show Kd.R _ _ _ _ _ _ _; rw [hgs]; exact Kd.R_new HR.out HWX.out
                rw [HQ.out]
                clear hgs hq p0 p1 p2 p3 p4 p5 p6 p7
                go_wp2
                exact ⟨⟨j + 1, mm, V, cv, by omega, by omega, rfl, by go_num, .inl HK1.out, HM2, HR2, HC3⟩, by simp [intOf]; omega⟩
          · have t1 : (a.1 == 1) = false := by simp [hk1]
            obtain rfl : j = 0 := by omega
            have HG0 : Hid (a.1 = 1 → goodL tag y a.2.2.2.2.1 = []) := fun h => absurd h hk1
            obtain rfl : mm = 0 := by omega
            have HP2 := Lib.hid (spk_step_none HY.out HA.out HG0.out HP.out)
            have HC2 := Lib.hid (HC.out.thenNew HCJ.out)
            clear hk1 hkd
            rw [show ((0 : Nat) : Int) = (0 : Int) from rfl] at b5 b6 ⊢
            go_wp2
            exact ⟨⟨k + 1, by omega, by omega, by go_num, HP2, HC2⟩, by simp [intOf]; omega⟩
        · obtain rfl : j = im := by omega
          have b5 : ¬ (j : Int) < (j : Int) := by omega
          have HFULL : Hid (a.2.2.2.2.1.take j = a.2.2.2.2.1) := List.take_of_length_le (by rw [HIM.out]; exact Nat.le_refl _)
          have HGD : Hid (gdT tag y m a.2.2.2.2.1 j = (goodL tag y a.2.2.2.2.1).take m) := by show _ = _; rw [gdT, HFULL.out]
          have HC2 := Lib.hid (HC.out.thenNew HCJ.out)
          by_cases hmm : 0 < mm
          · have b7 : (0 : Int) < (mm : Int) := by omega
            have hk1 : a.1 = 1 := by omega
            have hne : goodL tag y a.2.2.2.2.1 ≠ [] := by
              intro e
              have h1 := HM.out
              rw [HGD.out, e] at h1
              simp at h1
              omega
            have HF : Hid (resF ts tag m ls = (gdT tag y m a.2.2.2.2.1 j, (k : Int))) := by
              show _ = _
              rw [HGD.out]
              exact fstL_some (spkN_is HY.out HA.out hk1).2 (by rw [spk_pre]; exact HP.out) hne
            obtain ⟨k1, k2, k3⟩ := Kd.R_read HR.out
            have HPO : Hid (ResPost w (gdT tag y m a.2.2.2.2.1 j, (k : Int)) (.returned (.tuple #[.slice V mm cv, .int .i64 k])) wr) := by
              refine ⟨V, cv, ?_, ?_, Kd.C_mono (Kd.C_bound k1) (fun b hb => hb.2), HC2.out⟩
              · show _ = Ending.returned (.tuple #[.slice V (gdT tag y m a.2.2.2.2.1 j).length cv, _])
                rw [k2]
              · show (gdT tag y m a.2.2.2.2.1 j).length ≤ cv
                rw [k2]; exact k3
            clear k1 k2 k3 hne hkd hk1
            go_wp2
            go_ret2
            rw [HF.out]
            exact HPO.out
          · obtain rfl : mm = 0 := by omega
            have HG0 : Hid (a.1 = 1 → goodL tag y a.2.2.2.2.1 = []) := fun _ => by
              have h1 := HM.out
              rw [HGD.out, List.length_take] at h1
              exact List.eq_nil_of_length_eq_zero (by omega)
            have HP2 := Lib.hid (spk_step_none HY.out HA.out HG0.out HP.out)
            have b7 : ¬ ((0 : Nat) : Int) < ((0 : Nat) : Int) := by omega
            clear hkd
            rw [show ((0 : Nat) : Int) = (0 : Int) from rfl] at b7
            go_wp2
            exact ⟨⟨k + 1, by omega, by omega, by go_num, HP2, HC2⟩, by simp [intOf]; omega⟩
    · have HF : Hid (resF ts tag m ls = ([], -1)) := by
        refine fstL_none ?_
        have := HP.out
        rw [List.take_of_length_le (by rw [List.length_zip, HN.out, HLN.out]; omega)] at this
        exact this
      have HPO : Hid (ResPost w ([], -1) (.returned (.tuple #[.slice none 0 0, .int .i64 (-1)])) wr) := ⟨none, 0, rfl, Nat.le_refl _, Kd.C_nil _ _ _ _, HC.out⟩
      by_cases h1 : k < tn
      · have b1 : (k : Int) < (tn : Int) := by omega
        have b2 : ¬ (k : Int) < (ln : Int) := by omega
        clear hlt
        go_wp2
        go_ret2
        rw [HF.out]
        exact HPO.out
      · have b1 : ¬ (k : Int) < (tn : Int) := by omega
        clear hlt
        go_wp2
        go_ret2
        rw [HF.out]
        exact HPO.out
end Go.Proofs.Ythjlgcooihpakaa
