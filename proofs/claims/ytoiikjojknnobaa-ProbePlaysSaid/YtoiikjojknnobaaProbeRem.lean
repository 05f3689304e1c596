/- A ring: what a call of Remove leaves. -/
import Derived.Test.YtoiikjojknnobaaProbeAdd
namespace Go.Proofs.Ytoiikjojknnobaa
open Go.RowKit
set_option linter.unusedVariables false
set_option linter.unusedSimpArgs false
/-- A node is removed: whether it was; the row and the place. -/
def remF (s : List Int × Nat) (node : Int) : Bool × (List Int × Nat) :=
  if node ∈ s.1 then (true, (s.1.take (s.1.idxOf node) ++ s.1.drop (s.1.idxOf node + 1), if s.1.idxOf node < s.2 then s.2 - 1 else s.2)) else (false, s)
theorem run_sameI {w : World} {ty : TypeId} {A B : Option Addr} {n cap c : Nat} (h : n ≤ cap) : (Builtin.append_ #[28, 28] ty #[.slice A n cap, .slice B 0 c]).run Try.prog w = .ok (.slice A n cap) w ∨ A = none := by
  obtain ⟨i, hi, hzz⟩ := Option.map_eq_some_iff.1 i64_info
  cases A with
  | none => exact .inr rfl
  | some a => left; cases B <;> simp [Builtin.append_, run_underlying Try.underlying28, sizeOf, typeInfo, hi, Builtin.lenOf, Builtin.firstCells, h, storeCells, loadCells, loadCellsFrom]
theorem step_sameI {ops : Array Oper} {o : Oper} {a : Act} {w : World} {K : Act → World → Prop} {Q : Exit → Act → World → Prop} {E : Prop}
    (hgd : o.guard = none) (s x : Operand) (ho : o.op = .call { callee := .builtin .append, args := #[s, x], argTypes := #[28, 28] })
    {ad : Addr} {B : Option Addr} {n cap c : Nat} (hs : a.eval s = .slice (some ad) n cap) (hx : a.eval x = .slice B 0 c) (hn : n ≤ cap) (h : K (a.put o.dst (.slice (some ad) n cap)) w) :
    if Region.wanted o (yielded ops a.tmps) = true then Oper.wp Try.prog o a w K Q else E := by
  have hrun := (run_sameI (w := w) (ty := o.type) (A := some ad) (B := B) (c := c) hn).resolve_right (by simp)
  rw [if_pos (show Region.wanted o (yielded ops a.tmps) = true from by simp [Region.wanted, hgd])]
  unfold Oper.wp execOp
  simp only [ho, resolve, invoke, builtin, Sem.run_bind, Sem.run_pure, Result.andThen_ok, List.map_toArray, List.map_cons, List.map_nil, hs, hx, hrun]
  exact h
theorem idxOf_lt {l : List Int} {x : Int} (h : x ∈ l) : l.idxOf x < l.length := List.idxOf_lt_length_of_mem h
set_option maxRecDepth 100000 in
set_option maxHeartbeats 4000000 in
theorem rg_remove {w : World} {okr okd : Nat → Prop} {g at_ k : Nat} {row xs : List Int} {p : Option Addr} (h : IsRing w okr g row at_) (hD : IsD w okd p xs k) (hdis : ∀ b, okd b → ¬ okr b ∧ b ≠ g) (hl : row.length ≤ 8) (hat : at_ ≤ 8) (node : Int) :
    Calls Try.prog 18 #[.pointer (some ⟨g, 0, none⟩), .int .i64 node] w fun e w' => e = .returned (.bool (remF (row, at_) node).1) ∧ RgPost w okr okd g p xs (remF (row, at_) node).2.1 (remF (row, at_) node).2.2 k w' := by
  have HI := Lib.hid h
  have HD := Lib.hid hD
  have HDIS := Lib.hid hdis
  have hpost0 : RgPost w okr okd g p xs row at_ k w := ⟨by have := h.bound; exact ⟨fun k => by have := k.1; rcases this with h1 | h1; exact h.1 h1; have := h.lt; omega, by obtain ⟨_, A, c, a1, a2, a3, a4⟩ := this; exact ⟨A, c, a1, a2, Kd.C_mono a3 (fun b hb => ⟨.inl hb.1, hb.2⟩), a4⟩⟩, hD, Chg.refl _ _⟩
  have HP0 := Lib.hid hpost0
  by_cases hin : node ∈ row
  · obtain ⟨n, hn⟩ : ∃ n, row.length = n := ⟨_, rfl⟩
    obtain ⟨j, hj⟩ : ∃ j, row.idxOf node = j := ⟨_, rfl⟩
    have hjn : j < n := by rw [← hj, ← hn]; exact idxOf_lt hin
    have HF : Hid (remF (row, at_) node = (true, (row.take j ++ row.drop (j + 1), if j < at_ then at_ - 1 else at_))) := by
      show _ = _
      rw [remF, if_pos hin]
      dsimp only
      rw [hj]
    have HIX : Hid (idxI row node = j) := by show _ = _; rw [idxI, if_pos hin, hj]
    rw [hn] at hl
    have HN := Lib.hid hn
    clear h hD hdis hpost0 hin hn hj
    go_enter Try.func18, Try.ntmps18
    go_wp2_with fail
    refine (rg_none HI.out).mono ?_
    rintro e w2 ⟨rfl, rfl⟩
    obtain ⟨_, A2, c2, hrow2, hc2, hC2, h02⟩ := HI.out
    rw [HN.out] at hrow2 hc2
    obtain ⟨q0, q1, q2, q3⟩ := ring_row hrow2
    have HROW2 := Lib.hid hrow2
    have HA2 := Lib.hid hC2
    clear hrow2 hC2 h02
    go_wp2_with fail
    refine (l_index HA2.out HN.out node).mono ?_
    rintro e w1 ⟨rfl, rfl⟩
    rw [HIX.out]
    go_upto_region 6 with fail
    have hjc : j ≤ c2 := by omega
    have hj1c : j + 1 ≤ c2 := by omega
    have hj1n : j + 1 ≤ n := hjn
    have HTL : Hid ((row.take j).length = j) := by show _ = _; rw [List.length_take, HN.out]; omega
    have HDL : Hid ((row.drop (j + 1)).length = n - (j + 1)) := by show _ = _; rw [List.length_drop, HN.out]
    have HRL : Hid ((row.take j ++ row.drop (j + 1)).length = n - 1) := by show _ = _; rw [List.length_append, HTL.out, HDL.out]; omega
    have HG2 := Lib.hid HI.out.lt
    go_cut [] (fun wx => ∃ A6 c6, n - 1 ≤ c6 ∧ Hid (∃ w6, Chg nob w1 w6 ∧ intK.C w6 (fun b => okr b ∨ w1.heap.size ≤ b) A6 (row.take j ++ row.drop (j + 1)) ∧ A6 ≠ none ∧ wx = w6.setCell ⟨g, 1, none⟩ (.slice A6 (n - 1) c6)))
    case first =>
      cases A2 with
      | none =>
        obtain ⟨_, inner, _, hc⟩ := HA2.out
        obtain ⟨ad, e, _⟩ := hc (by rw [HN.out]; omega)
        cases e
      | some a2 =>
        have HT := Lib.hid (Kd.C_take (Kd.C_new HA2.out ((Chg.refl nob w1).drew)) j (by rw [HN.out]; omega))
        have hp0 : (0 : Int) ≤ (j : Int) + 1 := by omega
        have hjj : (j : Int) ≤ (j : Int) + 1 := by omega
        have hp1 : (j : Int) + 1 ≤ (n : Int) := by omega
        have wj : IntKind.i64.wrap ((j : Int) + 1) = (j : Int) + 1 := IntWalk.i64_in _ (by omega)
        by_cases hlast : n = j + 1
        · have hm0 : n - (j + 1) = 0 := by omega
          have hn1 : n - 1 = j := by omega
          have HFIN : Hid (intK.C w1 (fun b => okr b ∨ w1.heap.size ≤ b) (some a2) (row.take j ++ row.drop (j + 1))) := by
            show Kd.C _ _ _ _ _
            rw [List.eq_nil_of_length_eq_zero (show (row.drop (j + 1)).length = 0 by rw [HDL.out]; omega), List.append_nil]
            exact Kd.C_mono (Kd.C_take HA2.out j (by rw [HN.out]; omega)) (fun b hb => .inl hb)
          by_cases hcj : c2 = j + 1
          all_goals
            go_region_law (refine step_sameI rfl (.tmp 23) (.tmp 30) rfl rfl rfl (Nat.le_refl _) ?_)
            all_goals go_wp2
            all_goals go_meet
            all_goals exact ⟨some a2, j, by omega, w1.drew, (Chg.refl nob w1).drew, Kd.C_new HFIN.out ((Chg.refl nob w1).drew), by simp, by rw [hn1]; rfl⟩
        · have hcj : ¬ c2 = j + 1 := by omega
          have HD2' : Hid (intK.C w1 okr (some ⟨a2.block, a2.off + (j + 1), none⟩) (row.drop (j + 1))) := by
            have h := Kd.C_drop HA2.out (j + 1) c2 (by rw [HN.out]; omega) (by rw [HN.out]; omega)
            rw [if_neg hcj, show (j + 1) * intK.sz = j + 1 from Nat.mul_one _] at h
            have e : a2.add (j + 1) = ⟨a2.block, a2.off + (j + 1), none⟩ := by simp [Addr.add]
            rw [Option.map_some, e] at h
            exact h
          have FIN : ∀ (A6 : Option Addr) (c6 : Nat) (w6 : World), intK.R 3 w6 w1.drew.heap.size (fun k => some k = (Value.slice A6 (n - 1) c6).ownBlock) (.slice A6 (n - 1) c6) (row.take j ++ row.drop (j + 1)) → Chg nob w1.drew w6 →
              ∃ B6 d6, n - 1 ≤ d6 ∧ Hid (∃ w7, Chg nob w1 w7 ∧ intK.C w7 (fun b => okr b ∨ w1.heap.size ≤ b) B6 (row.take j ++ row.drop (j + 1)) ∧ B6 ≠ none ∧ w6.setCell ⟨g, 1, none⟩ (.slice A6 (n - 1) c6) = w7.setCell ⟨g, 1, none⟩ (.slice B6 (n - 1) d6)) := by
            intro A6 c6 w6 hR6 hC6
            obtain ⟨k1, k2, k3⟩ := Kd.R_read (Kd.R_ge Kd.scalar_flat hR6)
            have hA6 : A6 ≠ none := by
              rintro rfl
              obtain ⟨_, inner, _, hc⟩ := k1
              obtain ⟨ad, e, _⟩ := hc (by rw [HRL.out]; omega)
              cases e
            exact ⟨A6, c6, k3, w6, ((Chg.refl nob w1).drew).thenNew hC6, Kd.C_mono k1 (fun b hb => .inr hb), hA6, rfl⟩
          go_region_law (first
            | (refine step_growI rfl (.tmp 23) (.tmp 30) rfl rfl rfl HT.out HTL.out (fun h => by cases h) (Kd.C_new HD2'.out ((Chg.refl nob w1).drew)) HDL.out (by omega) (by omega) (by omega) (n - 1) (by omega) ?_
               intro A6 c6 w6 hR6 hC6
               have hrow6 := hC6.heap (((Chg.refl nob w1).drew).heap HROW2.out (not_nob _)) (not_nob _)
               have q1d := (ring_row hrow6).2.1
               have q3d := (ring_row hrow6).2.2.2
               have HR6 := Lib.hid hR6
               have HC6 := Lib.hid hC6
               clear hR6 hC6 hrow6))
          all_goals go_wp2
          all_goals go_meet
          all_goals exact FIN A6 c6 w6 HR6.out HC6.out
    case rest =>
      obtain ⟨A6, c6, hc6, HE⟩ := hcut
      obtain ⟨w6, hcx, hC6, hA6, rfl⟩ := HE.out
      have hrow6 := hcx.heap HROW2.out (not_nob _)
      have hgw1 := HI.out.lt
      have hs26 := hcx.size
      have hss : (w6.setCell ⟨g, 1, none⟩ (.slice A6 (n - 1) c6)).heap.size = w6.heap.size := by simp [World.setCell]
      have hring : IsRing (w6.setCell ⟨g, 1, none⟩ (.slice A6 (n - 1) c6)) (fun b => (okr b ∨ w1.heap.size ≤ b) ∧ b < w6.heap.size) g (row.take j ++ row.drop (j + 1)) at_ :=
        (HI.out.new hcx).setRow (Kd.C_bound hC6) HRL.out hc6 (fun e => absurd e hA6) (fun h => by rcases h.1 with h1 | h1; exact HI.out.1 h1; omega)
      have hdx : IsD (w6.setCell ⟨g, 1, none⟩ (.slice A6 (n - 1) c6)) okd p xs k := (HD.out.new hcx).chg (Chg.set1 (Chg.refl (fun b => b = g) w6) 1 _) (fun b hb e => (HDIS.out b hb).2 e)
      have hcc : Chg (fun b => b = g ∨ okd b) w1 (w6.setCell ⟨g, 1, none⟩ (.slice A6 (n - 1) c6)) := (hcx.ofNew).setCell (p := ⟨g, 1, none⟩) (.inl (.inl rfl)) _
      obtain ⟨p0, p1, p2, p3⟩ := ring_row hrow6
      have HRING := Lib.hid hring
      have HDX := Lib.hid hdx
      have HCC := Lib.hid hcc
      have HSS := Lib.hid hss
      clear hcx hC6 hA6 hrow6 hring hdx hcc hss HE q0 q1 q2 q3
      by_cases hja : j < at_
      · have b1 : (j : Int) < (at_ : Int) := by omega
        have HF2 : Hid (remF (row, at_) node = (true, (row.take j ++ row.drop (j + 1), at_ - 1))) := by show _ = _; rw [HF.out, if_pos hja]
        have hset := HRING.out.setAt (at_ - 1)
        have hcs : Chg (fun b => b = g) (w6.setCell ⟨g, 1, none⟩ (.slice A6 (n - 1) c6)) ((w6.setCell ⟨g, 1, none⟩ (.slice A6 (n - 1) c6)).setCell ⟨g, 2, none⟩ (.int .i64 ((at_ - 1 : Nat) : Int))) := Chg.set1 (Chg.refl _ _) 2 _
        rw [show ((at_ - 1 : Nat) : Int) = (at_ : Int) - 1 from by omega] at hset hcs
        have HSET := Lib.hid hset
        have HCS := Lib.hid hcs
        clear HF hja hset hcs
        go_wp2
        go_ret
        rw [HF2.out]
        refine ⟨rfl, ?_, HDX.out.chg HCS.out (fun b hb e => (HDIS.out b hb).2 e), HCC.out.trans HCS.out (fun b hb => .inl (.inl hb))⟩
        rw [show ((w6.setCell ⟨g, 1, none⟩ (.slice A6 (n - 1) c6)).setCell ⟨g, 2, none⟩ (.int .i64 ((at_ : Int) - 1))).heap.size = w6.heap.size from by simp [World.setCell]]
        exact HSET.out
      · have b1 : ¬ (j : Int) < (at_ : Int) := by omega
        have HF2 : Hid (remF (row, at_) node = (true, (row.take j ++ row.drop (j + 1), at_))) := by show _ = _; rw [HF.out, if_neg hja]
        clear HF hja
        go_wp2
        go_ret
        rw [HF2.out]
        refine ⟨rfl, ?_, HDX.out, HCC.out⟩
        rw [HSS.out]
        exact HRING.out
  · have HF : Hid (remF (row, at_) node = (false, (row, at_))) := if_neg hin
    have HIX := Lib.hid (idxI_not hin)
    clear h hD hdis hpost0 hin
    go_enter Try.func18, Try.ntmps18
    go_wp2_with fail
    refine (rg_none HI.out).mono ?_
    rintro e w2 ⟨rfl, rfl⟩
    obtain ⟨A, c, q0, q1, q2, q3, hc, hC, h0⟩ := HI.out.read
    have HC := Lib.hid hC
    clear hC
    go_wp2_with fail
    refine (l_index HC.out rfl node).mono ?_
    rintro e w1 ⟨rfl, rfl⟩
    rw [HIX.out]
    go_wp2
    go_ret
    rw [HF.out]
    exact ⟨rfl, HP0.out⟩
end Go.Proofs.Ytoiikjojknnobaa
