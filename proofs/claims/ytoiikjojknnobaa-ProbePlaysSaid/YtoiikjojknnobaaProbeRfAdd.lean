/- The reference's Add. -/
import Derived.Test.YtoiikjojknnobaaProbeRfRem
namespace Go.Proofs.Ytoiikjojknnobaa
open Go.RowKit
set_option linter.unusedVariables false
set_option linter.unusedSimpArgs false
/-- The first j of a row, with a node laid ahead of place q, if q is one of them. -/
def insL (row : List Int) (q : Nat) (node : Int) (j : Nat) : List Int := if q < j then row.take q ++ node :: (row.take j).drop q else row.take j
theorem insL_0 (row : List Int) (q : Nat) (node : Int) : insL row q node 0 = [] := by simp [insL]
theorem insL_at {row : List Int} {q : Nat} {node y : Int} (h : row[q]? = some y) : insL row q node q ++ [node] ++ [y] = insL row q node (q + 1) := by
  obtain ⟨hj, he⟩ := List.getElem?_eq_some_iff.1 h
  have h1 : (row.take (q + 1)).drop q = [y] := by
    rw [List.take_succ_eq_append_getElem hj, he, List.drop_append_of_le_length (by simp; omega), List.drop_of_length_le (by simp; omega)]
    rfl
  unfold insL
  rw [if_neg (Nat.lt_irrefl _), if_pos (Nat.lt_succ_self _), h1, List.append_assoc]
  rfl
theorem insL_ne {row : List Int} {q j : Nat} {node y : Int} (h : row[j]? = some y) (hq : j ≠ q) : insL row q node j ++ [y] = insL row q node (j + 1) := by
  obtain ⟨hj, he⟩ := List.getElem?_eq_some_iff.1 h
  unfold insL
  by_cases hl : q < j
  · rw [if_pos hl, if_pos (by omega), List.take_succ_eq_append_getElem hj, he, List.drop_append_of_le_length (by simp; omega)]
    simp
  · rw [if_neg hl, if_neg (by omega), List.take_succ_eq_append_getElem hj, he]
theorem insL_len {row : List Int} {q j : Nat} {node : Int} (hj : j ≤ row.length) : (insL row q node j).length = if q < j then j + 1 else j := by
  unfold insL
  split
  · simp; omega
  · simp; omega
theorem insL_end {row : List Int} {q n : Nat} {node : Int} (hn : row.length = n) (hq : q ≤ n) : (if q = n then insL row q node n ++ [node] else insL row q node n) = row.take q ++ node :: row.drop q := by
  subst hn
  unfold insL
  by_cases h : q = row.length
  · subst h
    rw [if_pos rfl, if_neg (Nat.lt_irrefl _)]
    simp
  · rw [if_neg h, if_pos (by omega), List.take_length]
set_option maxRecDepth 100000 in
set_option maxHeartbeats 4000000 in
theorem rf_add {w : World} {okr okd : Nat → Prop} {g gd at_ k : Nat} {row xs : List Int} (h : IsRR w okr g row at_) (hD : IsRef w okd gd xs k) (hne : gd ≠ g) (hrd : ¬ okr gd) (hdg : ¬ okd g) (hl : row.length ≤ 8) (hat : at_ ≤ 8) (node : Int) :
    Calls Try.prog 17 #[.pointer (some ⟨g, 0, none⟩), .int .i64 node, .pointer (some ⟨gd, 0, none⟩)] w fun e w' => e = .returned (.bool (addF xs k (row, at_) node).1) ∧ RfPost w okr okd g gd xs (addF xs k (row, at_) node).2.1.1 (addF xs k (row, at_) node).2.1.2 (addF xs k (row, at_) node).2.2 w' := by
  have HI := Lib.hid h
  have HD := Lib.hid hD
  have HNE := Lib.hid hne
  have HRD := Lib.hid hrd
  have HDG := Lib.hid hdg
  have hpost0 : RfPost w okr okd g gd xs row at_ k w := ⟨by
    obtain ⟨a0, A, c, a1, a3⟩ := h
    exact ⟨fun k => by rcases k.1 with h1 | h1; exact a0 h1; have := heap_lt a1; omega, A, c, a1, Kd.C_mono (Kd.C_bound a3) (fun b hb => ⟨.inl hb.1, hb.2⟩)⟩, hD, Chg.refl _ _⟩
  have HP0 := Lib.hid hpost0
  by_cases hbad : ¬ (0 ≤ node ∧ node < 8 ∧ node ∉ row)
  · have HF : Hid (addF xs k (row, at_) node = (false, (row, at_), k)) := if_neg hbad
    have HB := Lib.hid hbad
    clear h hD hne hrd hdg hpost0 hbad
    by_cases h1 : node < 0
    · go_enter Try.func17, Try.ntmps17
      go_wp2
      go_ret
      rw [HF.out]
      exact ⟨rfl, HP0.out⟩
    · by_cases h2 : 7 < node
      · go_enter Try.func17, Try.ntmps17
        go_wp2
        go_ret
        rw [HF.out]
        exact ⟨rfl, HP0.out⟩
      · obtain ⟨A, c, q0, q1, q3, hC⟩ := HI.out.read
        have hin : node ∈ row := by
          have := HB.out
          apply Classical.byContradiction
          intro hn
          exact this ⟨by omega, by omega, hn⟩
        have HIN := Lib.hid hin
        have HC := Lib.hid hC
        clear hC hin
        go_enter Try.func17, Try.ntmps17
        go_wp2_with fail
        refine (r_has HC.out rfl node).mono ?_
        rintro e w' ⟨rfl, rfl⟩
        rw [decide_eq_true HIN.out]
        go_wp2
        go_ret
        rw [HF.out]
        exact ⟨rfl, HP0.out⟩
  · have hgood : 0 ≤ node ∧ node < 8 ∧ node ∉ row := Classical.not_not.1 hbad
    obtain ⟨hn0, hn8, hnin⟩ := hgood
    have b7 : ¬ node < 0 := by omega
    have b8 : ¬ 7 < node := by omega
    have HNIN := Lib.hid hnin
    obtain ⟨n, hn⟩ : ∃ n, row.length = n := ⟨_, rfl⟩
    have hbd := drawVal_bd (HD.out.bd) k ((row.length : Int) + 1)
    obtain ⟨jv, hjv⟩ : ∃ jv, drawVal xs k ((row.length : Int) + 1) = jv := ⟨_, rfl⟩
    obtain ⟨kv, hkv⟩ : ∃ kv, k + drawAdv xs k ((row.length : Int) + 1) = kv := ⟨_, rfl⟩
    rw [hjv] at hbd
    obtain ⟨q, rfl⟩ : ∃ q : Nat, jv = q := ⟨jv.toNat, by omega⟩
    have HF : Hid (addF xs k (row, at_) node = (true, (row.take q ++ node :: row.drop q, if q < at_ then at_ + 1 else at_), kv)) := by
      show _ = _
      rw [addF, if_pos ⟨hn0, hn8, hnin⟩]
      dsimp only
      rw [hjv, hkv]
      rfl
    rw [hn] at hl hbd hjv hkv
    have hqn : q ≤ n := by omega
    have HN := Lib.hid hn
    have HJV := Lib.hid hjv
    have HKV := Lib.hid hkv
    obtain ⟨A, c, q0, q1, q3, hC⟩ := h.read
    rw [hn] at q0
    have HC := Lib.hid hC
    clear h hD hne hrd hdg hpost0 hbad hnin hn hjv hkv hbd hC
    go_enter Try.func17, Try.ntmps17
    go_wp2_with fail
    refine (r_has HC.out HN.out node).mono ?_
    rintro e w1 ⟨rfl, rfl⟩
    rw [decide_eq_false HNIN.out]
    go_wp2_with fail
    refine (ref_below HD.out ((n : Int) + 1)).mono ?_
    rintro e w2 ⟨rfl, hd2, hc2⟩
    rw [HJV.out]
    rw [HKV.out] at hd2
    have HD2 := Lib.hid hd2
    have HC2 := Lib.hid hc2
    have HI2 := Lib.hid (HI.out.chg hc2 (fun e => HNE.out e.symm) (fun b hb e => HRD.out (by rw [← show b = gd from e]; exact hb)))
    have HR0 : Hid (intK.R 3 w2 w2.heap.size (fun b => some b = (Value.slice none 0 0).ownBlock) (.slice none 0 0) (insL row q node 0)) := by
      show Kd.R _ _ _ _ _ _ _
      rw [insL_0]
      exact Kd.R_nil _ _ _ _ _
    have HC0 := Lib.hid (Chg.refl nob w2)
    clear hd2 hc2 q0 q1 q3 HC
    go_wp2
    go_loopw [8, 9] (fun v i wr => ∃ (j m : Nat) (V : Option Addr) (cv : Nat), j ≤ n ∧ m ≤ j + 1 ∧ v = .slice V m cv ∧ i = .int .i64 j ∧ Hid ((insL row q node j).length = m) ∧ Hid (intK.R 3 wr w2.heap.size (fun b => some b = (Value.slice V m cv).ownBlock) (.slice V m cv) (insL row q node j)) ∧ Hid (Chg nob w2 wr)) (fun v i _ => n - (intOf i).toNat)
    case atStart => exact ⟨0, 0, none, 0, Nat.zero_le _, by omega, rfl, rfl, by show _ = _; rw [insL_0]; rfl, HR0, HC0⟩
    case round =>
      obtain ⟨j, m, V, cv, hj, hmj, rfl, rfl, HM, HR, HCR⟩ := hrel
      clear HR0 HC0
      have HI3 := Lib.hid (HI2.out.new HCR.out)
      obtain ⟨A3, c3, q0, q1, q3, hC3⟩ := HI3.out.read
      rw [HN.out] at q0
      have HA3 := Lib.hid hC3
      clear hC3
      by_cases hlt : j < n
      · have b1 : (j : Int) < (n : Int) := by omega
        have b3 : (0 : Int) ≤ (j : Int) := by omega
        obtain ⟨y, hy⟩ : ∃ y, row[j]? = some y := ⟨_, List.getElem?_eq_getElem (by rw [HN.out]; exact hlt)⟩
        obtain ⟨ad2, rfl, _, hcell2⟩ := at_scalar HA3.out hy
        have HY := Lib.hid hy
        clear hy
        by_cases hjq : j = q
        · subst hjq
          have HSN := Lib.hid (insL_at (node := node) HY.out)
          have t : ((j : Int) == (j : Int)) = true := by simp
          clear hcell2
          go_wp2_with (at_builtin; refine wp_app1I rfl _ _ rfl w2.heap.size _ (.slice V m cv) (insL row j node j) node rfl rfl HR.out HCR.out.size (m + 1) (by rw [HM.out]) (by omega) ?_)
          intro A5 c5 w5 hR5 hC5 _
          have HR5 := Lib.hid hR5
          have HC5 : Hid (Chg nob w2 w5) := HCR.out.trans hC5 (fun i hi => .inr (Kd.R_own HR.out i hi.symm).1)
          have HIL : Hid ((insL row j node j ++ [node]).length = m + 1) := by show _ = _; rw [List.length_append, HM.out]; rfl
          have HI5 := Lib.hid (HI2.out.new HC5.out)
          obtain ⟨A6, c6, z0, z1, z3, hC6⟩ := HI5.out.read
          rw [HN.out] at z0
          obtain ⟨ad6, rfl, _, hcell6⟩ := at_scalar hC6 HY.out
          clear hR5 hC5 q0 q1 q3 hC6
          go_wp2_with (at_builtin; refine wp_app1I rfl _ _ rfl w2.heap.size _ (.slice A5 (m + 1) c5) (insL row j node j ++ [node]) y rfl rfl HR5.out HC5.out.size (m + 1 + 1) (by rw [HIL.out]) (by omega) ?_)
          intro A7 c7 w7 hR7 hC7 _
          rw [show insL row j node j ++ [node, y] = insL row j node (j + 1) from by rw [← HSN.out, List.append_assoc]; rfl] at hR7
          have HR7 := Lib.hid hR7
          have HC7 : Hid (Chg nob w2 w7) := HC5.out.trans hC7 (fun i hi => .inr (Kd.R_own HR5.out i hi.symm).1)
          have HM7 : Hid ((insL row j node (j + 1)).length = m + 1 + 1) := by show _ = _; rw [← HSN.out, List.length_append, HIL.out]; rfl
          have HM0 := HM.out
          have hmj2 : m = j := by rw [← HM0, insL_len (by rw [HN.out]; exact hj), if_neg (Nat.lt_irrefl _)]
          clear hR7 hC7 z0 z1 z3 hcell6 HM0
          go_wp2
          exact ⟨⟨j + 1, m + 1 + 1, A7, c7, by omega, by omega, by go_num, by go_num, HM7, HR7, HC7⟩, by simp [intOf]; omega⟩
        · have HSN := Lib.hid (insL_ne (node := node) (q := q) HY.out hjq)
          have t : ((j : Int) == (q : Int)) = false := by simp; omega
          go_wp2_with (at_builtin; refine wp_app1I rfl _ _ rfl w2.heap.size _ (.slice V m cv) (insL row q node j) y rfl rfl HR.out HCR.out.size (m + 1) (by rw [HM.out]) (by omega) ?_)
          intro A7 c7 w7 hR7 hC7 _
          rw [HSN.out] at hR7
          have HR7 := Lib.hid hR7
          have HC7 : Hid (Chg nob w2 w7) := HCR.out.trans hC7 (fun i hi => .inr (Kd.R_own HR.out i hi.symm).1)
          have HM7 : Hid ((insL row q node (j + 1)).length = m + 1) := by show _ = _; rw [← HSN.out, List.length_append, HM.out]; rfl
          clear hR7 hC7 q0 q1 q3 hcell2
          go_wp2
          exact ⟨⟨j + 1, m + 1, A7, c7, by omega, by omega, by go_num, by go_num, HM7, HR7, HC7⟩, by simp [intOf]; omega⟩
      · obtain rfl : j = n := by omega
        have b1 : ¬ (j : Int) < (j : Int) := by omega
        have hend := insL_end (node := node) HN.out hqn
        have HRL : Hid ((row.take q ++ node :: row.drop q).length = j + 1) := by show _ = _; simp [HN.out]; have := HN.out; omega
        have hfin : ∀ (V2 : Option Addr) (c2 : Nat) (w3 : World), intK.R 3 w3 w2.heap.size (fun b => some b = (Value.slice V2 (j + 1) c2).ownBlock) (.slice V2 (j + 1) c2) (row.take q ++ node :: row.drop q) → Chg nob w2 w3 →
            RfPost w1 okr okd g gd xs (row.take q ++ node :: row.drop q) at_ kv (w3.setCell ⟨g, 0, none⟩ (.slice V2 (j + 1) c2)) := by
          intro V2 c2 w3 hR hC
          obtain ⟨k1, k2, k3⟩ := Kd.R_read (Kd.R_ge Kd.scalar_flat hR)
          have hs1 := HC2.out.size
          have hs2 := hC.size
          have hgl := HI.out.lt
          have hss : (w3.setCell ⟨g, 0, none⟩ (.slice V2 (j + 1) c2)).heap.size = w3.heap.size := by simp [World.setCell]
          refine ⟨?_, (HD2.out.new hC).chg (Chg.set1 (Chg.refl (fun b => b = g) w3) 0 _) HNE.out (fun b hb e => HDG.out (by rw [← show b = g from e]; exact hb)), ((HC2.out.mono (T := fun b => b = g ∨ b = gd) (fun i hi => .inl (.inr hi))).thenNew hC).setCell (p := ⟨g, 0, none⟩) (.inl (.inl rfl)) _⟩
          rw [hss]
          exact (HI2.out.new hC).setRow (Kd.C_mono (Kd.C_bound k1) (fun b hb => ⟨.inr (by have := hb.1; omega), hb.2⟩)) HRL.out (fun e => by rcases e.1 with h1 | h1; exact HI.out.1 h1; omega)
        have HFIN := Lib.hid hfin
        have HEND := Lib.hid hend
        clear hfin hend
        have HMJ : Hid (m = if q < j then j + 1 else j) := by show _ = _; rw [← HM.out, insL_len (by rw [HN.out]; exact hj)]
        by_cases hqj : q = j
        · subst hqj
          have t : ((q : Int) == (q : Int)) = true := by simp
          have hm2 := HMJ.out
          rw [if_neg (Nat.lt_irrefl _)] at hm2
          subst hm2
          go_wp2_with (at_builtin; refine wp_app1I rfl _ _ rfl w2.heap.size _ (.slice V m cv) (insL row m node m) node rfl rfl HR.out HCR.out.size (m + 1) (by rw [HM.out]) (by omega) ?_)
          intro A7 c7 w7 hR7 hC7 _
          have he := HEND.out
          rw [if_pos trivial] at he
          rw [he] at hR7
          have HR7 := Lib.hid hR7
          have HC7 : Hid (Chg nob w2 w7) := HCR.out.trans hC7 (fun i hi => .inr (Kd.R_own HR.out i hi.symm).1)
          have HI7 := Lib.hid (HI2.out.new HC7.out)
          obtain ⟨A6, c6, z0, z1, z3, hC6⟩ := HI7.out.read
          rw [HN.out] at z0
          clear hR7 hC7 q0 q1 q3 he hC6
          go_upto_if 78 with fail

          have HFIN2 := Lib.hid (HFIN.out _ _ _ HR7.out HC7.out)
          obtain ⟨A9, c9, p0, p1, p3, _⟩ := HFIN2.out.1.read
          by_cases hja : m < at_
          · have b9 : (m : Int) < (at_ : Int) := by omega
            have HF2 : Hid (addF xs k (row, at_) node = (true, (row.take m ++ node :: row.drop m, at_ + 1), kv)) := by show _ = _; rw [HF.out, if_pos hja]
            have hset := HFIN2.out.1.setAt (at_ + 1)
            have hcs : Chg (fun b => b = g) (w7.setCell ⟨g, 0, none⟩ (.slice A7 (m + 1) c7)) ((w7.setCell ⟨g, 0, none⟩ (.slice A7 (m + 1) c7)).setCell ⟨g, 1, none⟩ (.int .i64 ((at_ + 1 : Nat) : Int))) := Chg.set1 (Chg.refl _ _) 1 _
            rw [show ((at_ + 1 : Nat) : Int) = (at_ : Int) + 1 from by omega] at hset hcs
            have HSET := Lib.hid hset
            have HCS := Lib.hid hcs
            clear HF hja hset hcs
            go_wp2
            go_ret
            rw [HF2.out]
            refine ⟨rfl, ?_, HFIN2.out.2.1.chg HCS.out HNE.out (fun b hb e => HDG.out (by rw [← show b = g from e]; exact hb)), HFIN2.out.2.2.trans HCS.out (fun b hb => .inl (.inl hb))⟩
            rw [show ((w7.setCell ⟨g, 0, none⟩ (.slice A7 (m + 1) c7)).setCell ⟨g, 1, none⟩ (.int .i64 ((at_ : Int) + 1))).heap.size = (w7.setCell ⟨g, 0, none⟩ (.slice A7 (m + 1) c7)).heap.size from by simp [World.setCell]]
            exact HSET.out
          · have b9 : ¬ (m : Int) < (at_ : Int) := by omega
            have HF2 : Hid (addF xs k (row, at_) node = (true, (row.take m ++ node :: row.drop m, at_), kv)) := by show _ = _; rw [HF.out, if_neg hja]
            clear HF hja
            go_wp2
            go_ret
            rw [HF2.out]
            exact ⟨rfl, HFIN2.out⟩
        · have t : ((q : Int) == (j : Int)) = false := by simp; omega
          have hm2 := HMJ.out
          rw [if_pos (by omega)] at hm2
          subst hm2
          have he := HEND.out
          rw [if_neg hqj] at he
          have HR7 := HR
          rw [he] at HR7
          have HC7 := HCR
          clear he
          obtain ⟨A7, hA7⟩ : ∃ A7, A7 = V := ⟨_, rfl⟩
          subst hA7
          obtain ⟨c7, hc7⟩ : ∃ c7, c7 = cv := ⟨_, rfl⟩
          subst hc7
          go_upto_if 78 with fail

          have HFIN2 := Lib.hid (HFIN.out _ _ _ HR7.out HC7.out)
          obtain ⟨A9, c9, p0, p1, p3, _⟩ := HFIN2.out.1.read
          by_cases hja : q < at_
          · have b9 : (q : Int) < (at_ : Int) := by omega
            have HF2 : Hid (addF xs k (row, at_) node = (true, (row.take q ++ node :: row.drop q, at_ + 1), kv)) := by show _ = _; rw [HF.out, if_pos hja]
            have hset := HFIN2.out.1.setAt (at_ + 1)
            have hcs : Chg (fun b => b = g) (wr.setCell ⟨g, 0, none⟩ (.slice A7 (j + 1) c7)) ((wr.setCell ⟨g, 0, none⟩ (.slice A7 (j + 1) c7)).setCell ⟨g, 1, none⟩ (.int .i64 ((at_ + 1 : Nat) : Int))) := Chg.set1 (Chg.refl _ _) 1 _
            rw [show ((at_ + 1 : Nat) : Int) = (at_ : Int) + 1 from by omega] at hset hcs
            have HSET := Lib.hid hset
            have HCS := Lib.hid hcs
            clear HF hja hset hcs
            go_wp2
            go_ret
            rw [HF2.out]
            refine ⟨rfl, ?_, HFIN2.out.2.1.chg HCS.out HNE.out (fun b hb e => HDG.out (by rw [← show b = g from e]; exact hb)), HFIN2.out.2.2.trans HCS.out (fun b hb => .inl (.inl hb))⟩
            rw [show ((wr.setCell ⟨g, 0, none⟩ (.slice A7 (j + 1) c7)).setCell ⟨g, 1, none⟩ (.int .i64 ((at_ : Int) + 1))).heap.size = (wr.setCell ⟨g, 0, none⟩ (.slice A7 (j + 1) c7)).heap.size from by simp [World.setCell]]
            exact HSET.out
          · have b9 : ¬ (q : Int) < (at_ : Int) := by omega
            have HF2 : Hid (addF xs k (row, at_) node = (true, (row.take q ++ node :: row.drop q, at_), kv)) := by show _ = _; rw [HF.out, if_neg hja]
            clear HF hja
            go_wp2
            go_ret
            rw [HF2.out]
            exact ⟨rfl, HFIN2.out⟩
end Go.Proofs.Ytoiikjojknnobaa
