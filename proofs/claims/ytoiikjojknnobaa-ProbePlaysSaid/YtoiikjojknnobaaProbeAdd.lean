/- A ring: what a call of Add and Remove leaves. -/
import Derived.Test.YtoiikjojknnobaaProbeRing
import Derived.Test.YtoiikjojknnobaaStepFlat
namespace Go.Proofs.Ytoiikjojknnobaa
open Go.RowKit
set_option linter.unusedVariables false
set_option linter.unusedSimpArgs false
/-- A node is added: whether it was; the row and the place; how many draws are taken. -/
def addF (xs : List Int) (k : Nat) (s : List Int × Nat) (node : Int) : Bool × (List Int × Nat) × Nat :=
  if 0 ≤ node ∧ node < 8 ∧ node ∉ s.1 then
    (true, (s.1.take (drawVal xs k (s.1.length + 1)).toNat ++ node :: s.1.drop (drawVal xs k (s.1.length + 1)).toNat, if (drawVal xs k (s.1.length + 1)).toNat < s.2 then s.2 + 1 else s.2), k + drawAdv xs k (s.1.length + 1))
  else (false, s, k)
/-- What a call leaves of a ring and its draws. -/
def RgPost (w : World) (okr okd : Nat → Prop) (g : Nat) (p : Option Addr) (xs : List Int) (row : List Int) (at_ k : Nat) (w' : World) : Prop :=
  IsRing w' (fun b => (okr b ∨ w.heap.size ≤ b) ∧ b < w'.heap.size) g row at_ ∧ IsD w' okd p xs k ∧ Chg (fun b => b = g ∨ okd b) w w'
theorem step_growI {ops : Array Oper} {o : Oper} {a : Act} {w : World} {K : Act → World → Prop} {Q : Exit → Act → World → Prop} {E : Prop}
    (hgd : o.guard = none) (s x : Operand) (ho : o.op = .call { callee := .builtin .append, args := #[s, x], argTypes := #[28, 28] })
    {ok ok2 : Nat → Prop} {A B : Option Addr} {n cap m c : Nat} {xs ys : List Int} (hs : a.eval s = .slice A n cap) (hx : a.eval x = .slice B m c) (hA : intK.C w ok A xs) (hn : xs.length = n) (h0 : A = none → n = 0 ∧ cap = 0) (hB : intK.C w ok2 B ys) (hm : ys.length = m) (hm0 : 0 < m) (hfull : cap < n + m) (hl : n + m ≤ 1000000000000)
    (len : Nat) (hlen : n + m = len) (h : ∀ A' c' w', intK.R 3 w' w.heap.size (fun k => some k = (Value.slice A' len c').ownBlock) (.slice A' len c') (xs ++ ys) → Chg nob w w' → K (a.put o.dst (.slice A' len c')) w') :
    if Region.wanted o (yielded ops a.tmps) = true then Oper.wp Try.prog o a w K Q else E := by
  subst hlen
  obtain ⟨A', c', w', hrun, hR, hC⟩ := run_growI (ty := o.type) (c := c) hA hn h0 hB hm hm0 hfull hl
  rw [if_pos (show Region.wanted o (yielded ops a.tmps) = true from by simp [Region.wanted, hgd])]
  unfold Oper.wp execOp
  simp only [ho, resolve, invoke, builtin, Sem.run_bind, Sem.run_pure, Result.andThen_ok, List.map_toArray, List.map_cons, List.map_nil, hs, hx, hrun]
  exact h A' c' w' hR hC
theorem step_ownI {ops : Array Oper} {o : Oper} {a : Act} {w : World} {K : Act → World → Prop} {Q : Exit → Act → World → Prop} {E : Prop}
    (hgd : o.guard = none) (s x : Operand) (ho : o.op = .call { callee := .builtin .append, args := #[s, x], argTypes := #[28, 28] })
    (base : Nat) {ok ok2 : Nat → Prop} {v : Value} {B : Option Addr} {m c : Nat} {xs ys : List Int} (hs : a.eval s = v) (hx : a.eval x = .slice B m c) (hr : intK.R 3 w base ok v xs) (hB : intK.C w ok2 B ys) (hm : ys.length = m) (hbase : base ≤ w.heap.size)
    (len : Nat) (hlen : xs.length + m = len) (hl : len ≤ 1000000000000) (h : ∀ A' c' w', intK.R 3 w' base (fun k => some k = (Value.slice A' len c').ownBlock) (.slice A' len c') (xs ++ ys) → Chg (fun k => some k = v.ownBlock) w w' → K (a.put o.dst (.slice A' len c')) w') :
    if Region.wanted o (yielded ops a.tmps) = true then Oper.wp Try.prog o a w K Q else E :=
  step_appendF (d := intK) Kd.scalar_flat hgd s x 28 ho 3 (.int .i64 0) 8 Try.underlying28 i64_info rfl base ok ok2 v xs ys B m c hs hx hm hr hB (by unfold maxLen; omega) (by omega) hbase len hlen (fun A' c' w' h1 h2 _ => h A' c' w' h1 h2)
set_option maxRecDepth 100000 in
set_option maxHeartbeats 4000000 in
theorem rg_add {w : World} {okr okd : Nat → Prop} {g at_ k : Nat} {row xs : List Int} {p : Option Addr} (h : IsRing w okr g row at_) (hD : IsD w okd p xs k) (hdis : ∀ b, okd b → ¬ okr b ∧ b ≠ g) (hokd : ∀ b, okd b → b < w.heap.size) (hl : row.length ≤ 8) (hat : at_ ≤ 8) (node : Int) :
    Calls Try.prog 10 #[.pointer (some ⟨g, 0, none⟩), .int .i64 node, .pointer p] w fun e w' => e = .returned (.bool (addF xs k (row, at_) node).1) ∧ RgPost w okr okd g p xs (addF xs k (row, at_) node).2.1.1 (addF xs k (row, at_) node).2.1.2 (addF xs k (row, at_) node).2.2 w' := by
  have HI := Lib.hid h
  have HD := Lib.hid hD
  have HDIS := Lib.hid hdis
  have HOKD := Lib.hid hokd
  have hpost0 : RgPost w okr okd g p xs row at_ k w := ⟨by have := h.bound; exact ⟨fun k => by have := k.1; rcases this with h1 | h1; exact h.1 h1; have := h.lt; omega, by obtain ⟨_, A, c, a1, a2, a3, a4⟩ := this; exact ⟨A, c, a1, a2, Kd.C_mono a3 (fun b hb => ⟨.inl hb.1, hb.2⟩), a4⟩⟩, hD, Chg.refl _ _⟩
  have HP0 := Lib.hid hpost0
  by_cases hbad : ¬ (0 ≤ node ∧ node < 8 ∧ node ∉ row)
  · have HF : Hid (addF xs k (row, at_) node = (false, (row, at_), k)) := if_neg hbad
    have HB := Lib.hid hbad
    clear h hD hdis hokd hpost0 hbad
    go_enter Try.func10, Try.ntmps10
    go_wp2_with fail
    refine (rg_none HI.out).mono ?_
    rintro e w' ⟨rfl, rfl⟩
    by_cases h1 : node < 0
    · go_wp2
      go_ret
      rw [HF.out]
      exact ⟨rfl, HP0.out⟩
    · by_cases h2 : 8 ≤ node
      · go_wp2
        go_ret
        rw [HF.out]
        exact ⟨rfl, HP0.out⟩
      · obtain ⟨A, c, q0, q1, q2, q3, hc, hC, h0⟩ := HI.out.read
        have hin : node ∈ row := by
          have := HB.out
          apply Classical.byContradiction
          intro hn
          exact this ⟨by omega, by omega, hn⟩
        have HIN := Lib.hid hin
        have HC := Lib.hid hC
        clear hC hin
        go_wp2_with fail
        refine (l_contains HC.out rfl node).mono ?_
        rintro e w' ⟨rfl, rfl⟩
        rw [decide_eq_true HIN.out]
        go_wp2
        go_ret
        rw [HF.out]
        exact ⟨rfl, HP0.out⟩
  · have hgood : 0 ≤ node ∧ node < 8 ∧ node ∉ row := Classical.not_not.1 hbad
    obtain ⟨hn0, hn8, hnin⟩ := hgood
    have HNIN := Lib.hid hnin
    obtain ⟨n, hn⟩ : ∃ n, row.length = n := ⟨_, rfl⟩
    have hbd := drawVal_bd (HD.out.bd) k ((row.length : Int) + 1)
    obtain ⟨jv, hjv⟩ : ∃ jv, drawVal xs k ((row.length : Int) + 1) = jv := ⟨_, rfl⟩
    obtain ⟨kv, hkv⟩ : ∃ kv, k + drawAdv xs k ((row.length : Int) + 1) = kv := ⟨_, rfl⟩
    rw [hjv] at hbd
    obtain ⟨j, rfl⟩ : ∃ j : Nat, jv = j := ⟨jv.toNat, by omega⟩
    have HF : Hid (addF xs k (row, at_) node = (true, (row.take j ++ node :: row.drop j, if j < at_ then at_ + 1 else at_), kv)) := by
      show _ = _
      rw [addF, if_pos ⟨hn0, hn8, hnin⟩]
      dsimp only
      rw [hjv, hkv]
      rfl
    rw [hn] at hl hbd hjv hkv
    have hjn : j ≤ n := by omega
    have HN := Lib.hid hn
    have HJV := Lib.hid hjv
    have HKV := Lib.hid hkv
    clear h hD hdis hokd hpost0 hbad hnin hn hjv hkv hbd
    go_enter Try.func10, Try.ntmps10
    go_wp2_with fail
    refine (rg_none HI.out).mono ?_
    rintro e w' ⟨rfl, rfl⟩
    obtain ⟨A, c, q0, q1, q2, q3, hc, hC, h0⟩ := HI.out.read
    rw [HN.out] at q1 hc
    have HC := Lib.hid hC
    have H0 := Lib.hid h0
    clear hC h0
    go_wp2_with fail
    refine (l_contains HC.out HN.out node).mono ?_
    rintro e w1 ⟨rfl, rfl⟩
    rw [decide_eq_false HNIN.out]
    go_wp2_with fail
    refine (d_below HD.out ((n : Int) + 1)).mono ?_
    rintro e w2 ⟨rfl, hd2, hc2⟩
    rw [HJV.out]
    rw [HKV.out] at hd2
    have HD2 := Lib.hid hd2
    have HC2 := Lib.hid hc2
    have HI2 := Lib.hid (HI.out.chg hc2 (fun e => (HDIS.out _ e).2 rfl) (fun b hb e => (HDIS.out _ e).1 hb))
    clear hd2 hc2 q0 q1 q2 q3
    obtain ⟨_, A2, c2, hrow2, hc2, hC2, h02⟩ := HI2.out
    rw [HN.out] at hrow2 hc2
    obtain ⟨q0, q1, q2, q3⟩ := ring_row hrow2
    have HROW2 := Lib.hid hrow2
    clear hrow2
    have HA2 := Lib.hid hC2
    have H02 := Lib.hid h02
    clear hC2 h02 HC H0
    go_upto_region 5 with fail
    have HOK2 : Hid (∀ b, okd b → b < w2.heap.size) := fun b hb => Nat.lt_of_lt_of_le (HOKD.out b hb) HC2.out.size
    have HG2 := Lib.hid HI2.out.lt
    have hjc : j ≤ c2 := by omega
    have hnc : n ≤ c2 := hc2
    have HTL : Hid ((row.take j).length = j) := by show _ = _; rw [List.length_take, HN.out]; omega
    have HDL : Hid ((row.drop j).length = n - j) := by show _ = _; rw [List.length_drop, HN.out]
    have HRL : Hid ((row.take j ++ node :: row.drop j).length = n + 1) := by show _ = _; rw [List.length_append, List.length_cons, HTL.out, HDL.out]; omega
    go_cut [] (fun wx => ∃ A6 c6, Hid (intK.C wx (fun b => w2.heap.size ≤ b) A6 (row.take j ++ node :: row.drop j)) ∧ n + 1 ≤ c6 ∧ Hid (∃ w6, Chg nob w2 w6 ∧ intK.C w6 (fun b => w2.heap.size ≤ b) A6 (row.take j ++ node :: row.drop j) ∧ A6 ≠ none ∧ wx = w6.setCell ⟨g, 1, none⟩ (.slice A6 (n + 1) c6)))
    case first =>
      have hcb : Chg nob w2 (w2.alloc (.cells #[.int .i64 node] 3)).drew := ((Chg.refl nob w2).alloc _).drew
      have HCB := Lib.hid hcb
      have hbx : intK.C (w2.alloc (.cells #[.int .i64 node] 3)).drew (fun k => False ∨ k = w2.heap.size) (some ⟨w2.heap.size, 0, none⟩) [node] := boxed (d := intK) (w := w2.drew) (ok := fun _ => False) 3 rfl
      have HBX := Lib.hid hbx
      have q1b : (w2.alloc (.cells #[.int .i64 node] 3)).cell? ⟨g, 1, none⟩ = some (.slice A2 n c2) := hcb.cell q1 (not_nob _)
      have HT := Lib.hid (Kd.C_take (Kd.C_new HA2.out hcb) j (by rw [HN.out]; exact hjn))
      have HDR := Lib.hid (Kd.C_drop HA2.out j n (by rw [HN.out]; exact hjn) (by rw [HN.out]; exact Nat.le_refl _))
      have hsz : (w2.alloc (.cells #[.int .i64 node] 3)).drew.heap.size = w2.heap.size + 1 := by simp
      have HSZ := Lib.hid hsz
      have FIN : ∀ (A5 : Option Addr) (c5 : Nat) (w5 : World) (A6 : Option Addr) (c6 : Nat) (w6 : World), intK.R 3 w5 (w2.alloc (.cells #[.int .i64 node] 3)).drew.heap.size (fun k => some k = (Value.slice A5 (j + 1) c5).ownBlock) (.slice A5 (j + 1) c5) (row.take j ++ [node]) → Chg nob (w2.alloc (.cells #[.int .i64 node] 3)).drew w5 →
          intK.R 3 w6 (w2.alloc (.cells #[.int .i64 node] 3)).drew.heap.size (fun k => some k = (Value.slice A6 (n + 1) c6).ownBlock) (.slice A6 (n + 1) c6) (row.take j ++ [node] ++ row.drop j) → Chg (fun k => some k = (Value.slice A5 (j + 1) c5).ownBlock) w5 w6 →
          ∃ B6 d6, Hid (intK.C (w6.setCell ⟨g, 1, none⟩ (.slice A6 (n + 1) c6)) (fun b => w2.heap.size ≤ b) B6 (row.take j ++ node :: row.drop j)) ∧ n + 1 ≤ d6 ∧ Hid (∃ w7, Chg nob w2 w7 ∧ intK.C w7 (fun b => w2.heap.size ≤ b) B6 (row.take j ++ node :: row.drop j) ∧ B6 ≠ none ∧ w6.setCell ⟨g, 1, none⟩ (.slice A6 (n + 1) c6) = w7.setCell ⟨g, 1, none⟩ (.slice B6 (n + 1) d6)) := by
        intro A5 c5 w5 A6 c6 w6 hR5 hC5 hR6 hC6
        rw [List.append_assoc, List.singleton_append] at hR6
        obtain ⟨k1, k2, k3⟩ := Kd.R_read (Kd.R_ge Kd.scalar_flat hR6)
        have hs := HSZ.out
        have kC : intK.C w6 (fun b => w2.heap.size ≤ b) A6 (row.take j ++ node :: row.drop j) := Kd.C_mono k1 (fun b hb => by omega)
        have hcx : Chg nob w2 w6 := ((((HCB.out.thenNew hC5).ofNew (S := fun k => some k = (Value.slice A5 (j + 1) c5).ownBlock)).trans hC6 (fun i hi => .inl hi))).mono (fun i hi => .inr (by have := (Kd.R_own hR5 i hi.symm).1; omega))
        have hA6 : A6 ≠ none := by
          rintro rfl
          obtain ⟨_, inner, _, hc⟩ := kC
          obtain ⟨ad, e, _⟩ := hc (by rw [HRL.out]; omega)
          cases e
        have hg := HG2.out
        exact ⟨A6, c6, Kd.C_chg kC (Chg.set1 (Chg.refl (fun b => b = g) w6) 1 _) (fun b hb e => by have : b = g := e; omega), k3, w6, hcx, kC, hA6, rfl⟩
      clear hcb hbx hsz
      cases A2 with
      | none =>
        have hn0 : n = 0 := by
          apply Classical.byContradiction
          intro hne
          obtain ⟨_, inner, _, hc⟩ := HA2.out
          obtain ⟨ad, e, _⟩ := hc (by rw [HN.out]; omega)
          cases e
        obtain rfl : j = 0 := by omega
        obtain rfl := H02.out rfl
        subst hn0
        have hrow0 : row = [] := List.eq_nil_of_length_eq_zero HN.out
        have HROW0 := Lib.hid hrow0
        clear hrow0 HDR
        go_region_law (first
          | (refine step_growI rfl (.tmp 43) (.tmp 45) rfl rfl rfl HT.out HTL.out (fun _ => ⟨rfl, rfl⟩) HBX.out rfl (by decide) (by omega) (by omega) 1 rfl ?_
             intro A5 c5 w5 hR5 hC5
             have q1c : w5.cell? ⟨g, 1, none⟩ = some (.slice none 0 0) := hC5.cell q1b (not_nob _)
             have HR5 := Lib.hid hR5
             have HC5 := Lib.hid hC5
             clear hR5 hC5)
          | (refine step_ownI rfl (.tmp 46) (.tmp 54) rfl _ rfl rfl HR5.out (Kd.C_nil _ _ (fun _ => True) none) rfl HC5.out.size 1 (by rw [List.length_append, HTL.out]; rfl) (by omega) ?_
             intro A6 c6 w6 hR6 hC6
             have hng : ¬ (some g = (Value.slice A5 1 c5).ownBlock) := fun e => by
               have h1 := (Kd.R_own HR5.out g e.symm).1
               have h2 := HCB.out.size
               have h3 := HG2.out
               omega
             have hrow6 := hC6.heap (HC5.out.heap (HCB.out.heap HROW2.out (not_nob _)) (not_nob _)) hng
             have q1d := (ring_row hrow6).2.1
             have q3d := (ring_row hrow6).2.2.2
             have HR6 := Lib.hid hR6
             have HC6 := Lib.hid hC6
             clear hR6 hC6 hng hrow6))
        all_goals go_wp2
        all_goals go_meet
        all_goals exact FIN A5 c5 w5 A6 c6 w6 HR5.out HC5.out (by rw [HROW0.out, List.drop_nil]; exact HR6.out) HC6.out
      | some a2 =>
        by_cases hjn' : j = n
        · subst hjn'
          have hdrop : Hid (row.drop j = []) := List.eq_nil_of_length_eq_zero (by rw [HDL.out]; omega)
          clear HDR
          go_region_law (first
            | (refine step_growI rfl (.tmp 43) (.tmp 45) rfl rfl rfl HT.out HTL.out (fun h => by cases h) HBX.out rfl (by decide) (by omega) (by omega) (j + 1) rfl ?_
               intro A5 c5 w5 hR5 hC5
               have q1c : w5.cell? ⟨g, 1, none⟩ = some (.slice (some a2) j c2) := hC5.cell q1b (not_nob _)
               have HR5 := Lib.hid hR5
               have HC5 := Lib.hid hC5
               clear hR5 hC5)
            | (refine step_ownI rfl (.tmp 46) (.tmp 54) rfl _ rfl rfl HR5.out (Kd.C_nil _ _ (fun _ => True) (some a2)) rfl HC5.out.size (j + 1) (by rw [List.length_append, HTL.out]; simp) (by omega) ?_
               intro A6 c6 w6 hR6 hC6
               have hng : ¬ (some g = (Value.slice A5 (j + 1) c5).ownBlock) := fun e => by
                 have h1 := (Kd.R_own HR5.out g e.symm).1
                 have h2 := HCB.out.size
                 have h3 := HG2.out
                 omega
               have hrow6 := hC6.heap (HC5.out.heap (HCB.out.heap HROW2.out (not_nob _)) (not_nob _)) hng
               have q1d := (ring_row hrow6).2.1
               have q3d := (ring_row hrow6).2.2.2
               have HR6 := Lib.hid hR6
               have HC6 := Lib.hid hC6
               clear hR6 hC6 hng hrow6))
          all_goals go_wp2
          all_goals go_meet
          all_goals exact FIN A5 c5 w5 A6 c6 w6 HR5.out HC5.out (by rw [hdrop.out]; exact HR6.out) HC6.out
        · have hne : ¬ n = j := fun e => hjn' e.symm
          have HD2' : Hid (intK.C w2 okr (some (a2.add j)) (row.drop j)) := by
            have h := HDR.out
            rw [if_neg hne, show j * intK.sz = j from Nat.mul_one j] at h
            exact h
          clear HDR hjn'
          go_region_law (first
            | (refine step_growI rfl (.tmp 43) (.tmp 45) rfl rfl rfl HT.out HTL.out (fun h => by cases h) HBX.out rfl (by decide) (by omega) (by omega) (j + 1) rfl ?_
               intro A5 c5 w5 hR5 hC5
               have q1c : w5.cell? ⟨g, 1, none⟩ = some (.slice (some a2) n c2) := hC5.cell q1b (not_nob _)
               have HR5 := Lib.hid hR5
               have HC5 := Lib.hid hC5
               clear hR5 hC5)
            | (refine step_ownI rfl (.tmp 46) (.tmp 54) rfl _ rfl rfl HR5.out (Kd.C_new HD2'.out (HCB.out.thenNew HC5.out)) HDL.out HC5.out.size (n + 1) (by rw [List.length_append, HTL.out]; simp; omega) (by omega) ?_
               intro A6 c6 w6 hR6 hC6
               have hng : ¬ (some g = (Value.slice A5 (j + 1) c5).ownBlock) := fun e => by
                 have h1 := (Kd.R_own HR5.out g e.symm).1
                 have h2 := HCB.out.size
                 have h3 := HG2.out
                 omega
               have hrow6 := hC6.heap (HC5.out.heap (HCB.out.heap HROW2.out (not_nob _)) (not_nob _)) hng
               have q1d := (ring_row hrow6).2.1
               have q3d := (ring_row hrow6).2.2.2
               have HR6 := Lib.hid hR6
               have HC6 := Lib.hid hC6
               clear hR6 hC6 hng hrow6))
          all_goals go_wp2
          all_goals go_meet
          all_goals exact FIN A5 c5 w5 A6 c6 w6 HR5.out HC5.out HR6.out HC6.out
    case rest =>
      obtain ⟨A6, c6, _, hc6, HE⟩ := hcut
      obtain ⟨w6, hcx, hC6, hA6, rfl⟩ := HE.out
      have hrow6 := hcx.heap HROW2.out (not_nob _)
      have hgw1 := HI.out.lt
      have hs12 := HC2.out.size
      have hs26 := hcx.size
      have hss : (w6.setCell ⟨g, 1, none⟩ (.slice A6 (n + 1) c6)).heap.size = w6.heap.size := by simp [World.setCell]
      have hring : IsRing (w6.setCell ⟨g, 1, none⟩ (.slice A6 (n + 1) c6)) (fun b => (okr b ∨ w1.heap.size ≤ b) ∧ b < w6.heap.size) g (row.take j ++ node :: row.drop j) at_ :=
        (HI2.out.new hcx).setRow (Kd.C_mono (Kd.C_bound hC6) (fun b hb => ⟨.inr (by have := hb.1; omega), hb.2⟩)) HRL.out hc6 (fun e => absurd e hA6) (fun h => by rcases h.1 with h1 | h1; exact HI.out.1 h1; omega)
      have hdx : IsD (w6.setCell ⟨g, 1, none⟩ (.slice A6 (n + 1) c6)) okd p xs kv := (HD2.out.new hcx).chg (Chg.set1 (Chg.refl (fun b => b = g) w6) 1 _) (fun b hb e => (HDIS.out b hb).2 e)
      have hcc : Chg (fun b => b = g ∨ okd b) w1 (w6.setCell ⟨g, 1, none⟩ (.slice A6 (n + 1) c6)) := ((HC2.out.mono (T := fun b => b = g ∨ okd b) (fun i hi => .inl (.inr hi))).thenNew hcx).setCell (p := ⟨g, 1, none⟩) (.inl (.inl rfl)) _
      obtain ⟨p0, p1, p2, p3⟩ := ring_row hrow6
      have HRING := Lib.hid hring
      have HDX := Lib.hid hdx
      have HCC := Lib.hid hcc
      have HSS := Lib.hid hss
      clear hcx hC6 hA6 hrow6 hring hdx hcc hss HE
      by_cases hja : j < at_
      · have b1 : (j : Int) < (at_ : Int) := by omega
        have HF2 : Hid (addF xs k (row, at_) node = (true, (row.take j ++ node :: row.drop j, at_ + 1), kv)) := by show _ = _; rw [HF.out, if_pos hja]
        clear HF hja
        go_wp2
        go_ret
        rw [HF2.out]
        have hset := HRING.out.setAt (at_ + 1)
        have hcs : Chg (fun b => b = g) (w6.setCell ⟨g, 1, none⟩ (.slice A6 (n + 1) c6)) ((w6.setCell ⟨g, 1, none⟩ (.slice A6 (n + 1) c6)).setCell ⟨g, 2, none⟩ (.int .i64 ((at_ + 1 : Nat) : Int))) := Chg.set1 (Chg.refl _ _) 2 _
        rw [show ((at_ + 1 : Nat) : Int) = (at_ : Int) + 1 from by omega] at hset hcs
        refine ⟨rfl, ?_, HDX.out.chg hcs (fun b hb e => (HDIS.out b hb).2 e), HCC.out.trans hcs (fun b hb => .inl (.inl hb))⟩
        rw [show ((w6.setCell ⟨g, 1, none⟩ (.slice A6 (n + 1) c6)).setCell ⟨g, 2, none⟩ (.int .i64 ((at_ : Int) + 1))).heap.size = w6.heap.size from by simp [World.setCell]]
        exact hset
      · have b1 : ¬ (j : Int) < (at_ : Int) := by omega
        have HF2 : Hid (addF xs k (row, at_) node = (true, (row.take j ++ node :: row.drop j, at_), kv)) := by show _ = _; rw [HF.out, if_neg hja]
        clear HF hja
        go_wp2
        go_ret
        rw [HF2.out]
        refine ⟨rfl, ?_, HDX.out, HCC.out⟩
        rw [HSS.out]
        exact HRING.out
end Go.Proofs.Ytoiikjojknnobaa
