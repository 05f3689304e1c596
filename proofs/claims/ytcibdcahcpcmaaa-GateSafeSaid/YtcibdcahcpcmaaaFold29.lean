import Derived.Test.YtcibdcahcpcmaaaFold28
/- field.Reader: what a call of Text, Flag, Done does. -/
namespace Go.Proofs.Ytcibdcahcpcmaaa
open Go.RowKit
set_option linter.unusedVariables false
set_option maxRecDepth 100000
set_option linter.unusedSimpArgs false
set_option maxHeartbeats 2000000 in
theorem rd_text_pos {w : World} {ok : Nat → Prop} {p : Option Addr} {mk : Bool} {bs : List UInt8} {e : Nat} (h : IsRd w ok p mk bs e) (most : Nat) (hm1 : most ≤ 9223372036854775807) :
    Calls Try.prog 52 #[.pointer p, .int .i64 most] w fun x w' => x = .returned (.string (rText mk bs e (most : Int)).1) ∧ IsRd w' ok p mk (rText mk bs e (most : Int)).2.1 (rText mk bs e (most : Int)).2.2 ∧ Chg (At p) w w' := by
  by_cases hst : mk = true ∧ e = 0
  · obtain ⟨rfl, rfl⟩ := hst
    rcases h with ⟨g, rfl, h⟩ | ⟨_, h, _⟩
    · have HI : Hid (IsRd w ok (some ⟨g, 0, none⟩) true bs 0) := .inl ⟨g, rfl, h⟩
      have HA := Lib.hid h
      obtain ⟨A, c, e0, e1, e2, ef, hl, hC⟩ := h.read
      have HC := Lib.hid hC
      have hsm := hC.small
      obtain ⟨m, hm⟩ : ∃ m, bs.length = m := ⟨_, rfl⟩
      rw [hm] at e1 hl hsm
      have HM := Lib.hid hm
      obtain ⟨na, nb, nc⟩ := numAt_lt bs
      obtain ⟨N, Z, E, hN⟩ : ∃ N Z E, numAt bs = (N, Z, E) := ⟨_, _, _, rfl⟩
      rw [hN] at na nb nc
      simp only at na nb nc
      have HZ : Hid (E = 0 → 1 ≤ Z ∧ Z ≤ m) := by
        show E = 0 → _
        intro he
        have := numAt_size (bs := bs) (by rw [hN]; exact he)
        rw [hN] at this
        rw [← hm]
        exact this
      have HN := Lib.hid hN
      have hM2 : (max (most : Int) 0).toNat = most := by omega
      clear h hC hm hN
      go_enter Try.func52, Try.ntmps52
      go_wp2_with fail
      refine (rd_stands HI.out).mono ?_
      rintro x w1 ⟨rfl, rfl⟩
      simp only [decide_true, Bool.and_true]
      go_wp2_with fail
      refine (field_number HC.out HM.out hl).mono ?_
      rintro x w2 ⟨rfl, hc2⟩
      rw [HN.out]
      have HA2 : Hid (IsRdAt w2 ok g true bs 0) := HA.out.chg hc2 (fun b _ => not_nob b)
      obtain ⟨A', c', e0', e1', e2', ef', hl', hC'⟩ := HA2.out.read
      have f1 : w2.cell? ⟨g, 1, none⟩ = some (.slice A m c) := hc2.cell e1 (not_nob _)
      have f2 : w2.cell? ⟨g, 2, none⟩ = some (.int .i64 (0 : Nat)) := hc2.cell e2 (not_nob _)
      have hC2 := Lib.hid (Kd.C_new HC.out hc2)
      have HC2 := Lib.hid hc2
      clear e0' e1' e2' hl' hC' e0 e1 e2 ef hc2
      by_cases he : E = 0
      · subst he
        obtain ⟨z1, z2⟩ := HZ.out rfl
        rw [show numV (N, Z, 0) = .tuple #[.int .u64 N, .int .i64 Z, .int .i64 0] from rfl]
        by_cases hb : most < N
        · have HR : Hid (rText true bs 0 (most : Int) = (strOf [], bs, 3)) := by show _ = _; simp [rText, rTextE, HN.out, hM2, hb]
          have b1 : (most : Int) < (N : Int) := by omega
          have HM2 := Lib.hid hM2
          clear hM2
          go_wp2_with fail
          refine (rd_fail HA2.out 3).mono ?_
          rintro x w3 ⟨rfl, hA3, hc3⟩
          go_wp2
          go_ret
          rw [HR.out]
          exact ⟨rfl, .inl ⟨g, rfl, hA3⟩, (Chg.ofNew HC2.out).trans hc3 (fun b hb => .inl hb)⟩
        · by_cases hb2 : m - Z < N
          · have HR : Hid (rText true bs 0 (most : Int) = (strOf [], bs, 30)) := by show _ = _; simp [rText, rTextE, HN.out, hM2, hb, HM.out, hb2]
            have b1 : ¬ (most : Int) < (N : Int) := by omega
            have b2 : ((m : Int) - (Z : Int)) < (N : Int) := by omega
            have HM2 := Lib.hid hM2
            clear hM2
            go_wp2_with fail
            refine (rd_fail HA2.out 30).mono ?_
            rintro x w3 ⟨rfl, hA3, hc3⟩
            go_wp2
            go_ret
            rw [HR.out]
            exact ⟨rfl, .inl ⟨g, rfl, hA3⟩, (Chg.ofNew HC2.out).trans hc3 (fun b hb => .inl hb)⟩
          · have HR : Hid (rText true bs 0 (most : Int) = (strOf ((bs.drop Z).take N), bs.drop (Z + N), 0)) := by show _ = _; simp [rText, rTextE, HN.out, hM2, hb, HM.out, hb2]
            have b1 : ¬ (most : Int) < (N : Int) := by omega
            have b2 : ¬ ((m : Int) - (Z : Int)) < (N : Int) := by omega
            have b3 : (N : Int) ≤ 9223372036854775807 := by omega
            have b4 : ((Z : Int) + (N : Int)) ≤ (m : Int) := by omega
            have hD := C_dropB hC2.out Z c (by rw [HM.out]; exact z2) (by rw [HM.out]; exact hl)
            have hT := Kd.C_take hD N (by rw [List.length_drop, HM.out]; omega)
            have hTl : ((bs.drop Z).take N).length = N := by rw [List.length_take, List.length_drop, HM.out]; omega
            have hcv := fun c' => run_conv (P := Try.prog) (src := 26) (dst := 9) (e := 5) (c := c') hT hTl (by kernel_rfl) (by kernel_rfl) (by kernel_rfl)
            have HD2 := Lib.hid (C_dropB hC2.out (Z + N) c (by rw [HM.out]; omega) (by rw [HM.out]; exact hl))
            have hdl : (bs.drop (Z + N)).length = m - (Z + N) := by rw [List.length_drop, HM.out]
            have HDL := Lib.hid hdl
            have HM2 := Lib.hid hM2
            clear hD hdl hT hTl hM2
            by_cases hcz : c = Z
            · rw [if_pos hcz] at hcv
              have hcv := hcv 0
              go_wp2
              all_goals
                go_ret
                rw [HR.out]
                refine ⟨rfl, .inl ⟨g, rfl, IsRdAt.put HA2.out ?_ HDL.out (by omega)⟩, (Chg.ofNew HC2.out).trans (set_chg _) (fun b hb => .inl hb)⟩
                have hD := HD2.out
                first | (rw [if_pos (by omega)] at hD; exact hD) | (rw [if_neg (by omega)] at hD; exact hD)
            · rw [if_neg hcz] at hcv
              have hcv := hcv (c - Z)
              go_wp2
              all_goals
                go_ret
                rw [HR.out]
                refine ⟨rfl, .inl ⟨g, rfl, IsRdAt.put HA2.out ?_ HDL.out (by omega)⟩, (Chg.ofNew HC2.out).trans (set_chg _) (fun b hb => .inl hb)⟩
                have hD := HD2.out
                first | (rw [if_pos (by omega)] at hD; exact hD) | (rw [if_neg (by omega)] at hD; exact hD)
      · have he' : ((E : Int) == 0) = false := by simp; omega
        have HR : Hid (rText true bs 0 (most : Int) = (strOf [], bs, E)) := by show _ = _; simp [rText, rTextE, HN.out, he]
        have HM2 := Lib.hid hM2
        clear hM2
        rw [show numV (N, Z, E) = .tuple #[.int .u64 N, .int .i64 Z, .int .i64 E] from rfl]
        go_wp2_with fail
        refine (rd_fail HA2.out E).mono ?_
        rintro x w3 ⟨rfl, hA3, hc3⟩
        go_wp2
        go_ret
        rw [HR.out]
        exact ⟨rfl, .inl ⟨g, rfl, hA3⟩, (Chg.ofNew HC2.out).trans hc3 (fun b hb => .inl hb)⟩
    · cases h
  · have hb : (mk && decide (e = 0)) = false := by
      cases mk <;> simp_all
    have HR : Hid (rText mk bs e (most : Int) = (strOf [], bs, e)) := by show _ = _; rw [rText, if_neg hst]
    have HI := Lib.hid h
    go_enter Try.func52, Try.ntmps52
    clear h
    go_wp2_with fail
    refine (rd_stands HI.out).mono ?_
    rintro x w1 ⟨rfl, rfl⟩
    rw [hb]
    go_wp2
    go_ret
    rw [HR.out]
    exact ⟨rfl, HI.out, Chg.refl _ _⟩
set_option maxHeartbeats 2000000 in
theorem rd_text_neg {w : World} {ok : Nat → Prop} {p : Option Addr} {mk : Bool} {bs : List UInt8} {e : Nat} (h : IsRd w ok p mk bs e) (most : Int) (hm0 : -9223372036854775808 ≤ most) (hm1 : most < 0) :
    Calls Try.prog 52 #[.pointer p, .int .i64 most] w fun x w' => x = .returned (.string (rText mk bs e most).1) ∧ IsRd w' ok p mk (rText mk bs e most).2.1 (rText mk bs e most).2.2 ∧ Chg (At p) w w' := by
  by_cases hst : mk = true ∧ e = 0
  · obtain ⟨rfl, rfl⟩ := hst
    rcases h with ⟨g, rfl, h⟩ | ⟨_, h, _⟩
    · have HI : Hid (IsRd w ok (some ⟨g, 0, none⟩) true bs 0) := .inl ⟨g, rfl, h⟩
      have HA := Lib.hid h
      obtain ⟨A, c, e0, e1, e2, ef, hl, hC⟩ := h.read
      have HC := Lib.hid hC
      have hsm := hC.small
      obtain ⟨m, hm⟩ : ∃ m, bs.length = m := ⟨_, rfl⟩
      rw [hm] at e1 hl hsm
      have HM := Lib.hid hm
      obtain ⟨na, nb, nc⟩ := numAt_lt bs
      obtain ⟨N, Z, E, hN⟩ : ∃ N Z E, numAt bs = (N, Z, E) := ⟨_, _, _, rfl⟩
      rw [hN] at na nb nc
      simp only at na nb nc
      have HZ : Hid (E = 0 → 1 ≤ Z ∧ Z ≤ m) := by
        show E = 0 → _
        intro he
        have := numAt_size (bs := bs) (by rw [hN]; exact he)
        rw [hN] at this
        rw [← hm]
        exact this
      have HN := Lib.hid hN
      have hM2 : (max most 0).toNat = 0 := by omega
      clear h hC hm hN
      go_enter Try.func52, Try.ntmps52
      go_wp2_with fail
      refine (rd_stands HI.out).mono ?_
      rintro x w1 ⟨rfl, rfl⟩
      simp only [decide_true, Bool.and_true]
      go_wp2_with fail
      refine (field_number HC.out HM.out hl).mono ?_
      rintro x w2 ⟨rfl, hc2⟩
      rw [HN.out]
      have HA2 : Hid (IsRdAt w2 ok g true bs 0) := HA.out.chg hc2 (fun b _ => not_nob b)
      obtain ⟨A', c', e0', e1', e2', ef', hl', hC'⟩ := HA2.out.read
      have f1 : w2.cell? ⟨g, 1, none⟩ = some (.slice A m c) := hc2.cell e1 (not_nob _)
      have f2 : w2.cell? ⟨g, 2, none⟩ = some (.int .i64 (0 : Nat)) := hc2.cell e2 (not_nob _)
      have hC2 := Lib.hid (Kd.C_new HC.out hc2)
      have HC2 := Lib.hid hc2
      clear e0' e1' e2' hl' hC' e0 e1 e2 ef hc2
      by_cases he : E = 0
      · subst he
        obtain ⟨z1, z2⟩ := HZ.out rfl
        rw [show numV (N, Z, 0) = .tuple #[.int .u64 N, .int .i64 Z, .int .i64 0] from rfl]
        by_cases hb : 0 < N
        · have HR : Hid (rText true bs 0 most = (strOf [], bs, 3)) := by show _ = _; simp [rText, rTextE, HN.out, hM2, hb]
          have b1 : (0 : Int) < (N : Int) := by omega
          have HM2 := Lib.hid hM2
          clear hM2
          go_wp2_with fail
          refine (rd_fail HA2.out 3).mono ?_
          rintro x w3 ⟨rfl, hA3, hc3⟩
          go_wp2
          go_ret
          rw [HR.out]
          exact ⟨rfl, .inl ⟨g, rfl, hA3⟩, (Chg.ofNew HC2.out).trans hc3 (fun b hb => .inl hb)⟩
        · by_cases hb2 : m - Z < N
          · exact absurd hb2 (by omega)
          · have HR : Hid (rText true bs 0 most = (strOf ((bs.drop Z).take N), bs.drop (Z + N), 0)) := by show _ = _; simp [rText, rTextE, HN.out, hM2, hb, HM.out, hb2]
            have b1 : ¬ (0 : Int) < (N : Int) := by omega
            have b2 : ¬ ((m : Int) - (Z : Int)) < (N : Int) := by omega
            have b3 : (N : Int) ≤ 9223372036854775807 := by omega
            have b4 : ((Z : Int) + (N : Int)) ≤ (m : Int) := by omega
            have hD := C_dropB hC2.out Z c (by rw [HM.out]; exact z2) (by rw [HM.out]; exact hl)
            have hT := Kd.C_take hD N (by rw [List.length_drop, HM.out]; omega)
            have hTl : ((bs.drop Z).take N).length = N := by rw [List.length_take, List.length_drop, HM.out]; omega
            have hcv := fun c' => run_conv (P := Try.prog) (src := 26) (dst := 9) (e := 5) (c := c') hT hTl (by kernel_rfl) (by kernel_rfl) (by kernel_rfl)
            have HD2 := Lib.hid (C_dropB hC2.out (Z + N) c (by rw [HM.out]; omega) (by rw [HM.out]; exact hl))
            have hdl : (bs.drop (Z + N)).length = m - (Z + N) := by rw [List.length_drop, HM.out]
            have HDL := Lib.hid hdl
            have HM2 := Lib.hid hM2
            clear hD hdl hT hTl hM2
            by_cases hcz : c = Z
            · rw [if_pos hcz] at hcv
              have hcv := hcv 0
              go_wp2
              all_goals
                go_ret
                rw [HR.out]
                refine ⟨rfl, .inl ⟨g, rfl, IsRdAt.put HA2.out ?_ HDL.out (by omega)⟩, (Chg.ofNew HC2.out).trans (set_chg _) (fun b hb => .inl hb)⟩
                have hD := HD2.out
                first | (rw [if_pos (by omega)] at hD; exact hD) | (rw [if_neg (by omega)] at hD; exact hD)
            · rw [if_neg hcz] at hcv
              have hcv := hcv (c - Z)
              go_wp2
              all_goals
                go_ret
                rw [HR.out]
                refine ⟨rfl, .inl ⟨g, rfl, IsRdAt.put HA2.out ?_ HDL.out (by omega)⟩, (Chg.ofNew HC2.out).trans (set_chg _) (fun b hb => .inl hb)⟩
                have hD := HD2.out
                first | (rw [if_pos (by omega)] at hD; exact hD) | (rw [if_neg (by omega)] at hD; exact hD)
      · have he' : ((E : Int) == 0) = false := by simp; omega
        have HR : Hid (rText true bs 0 most = (strOf [], bs, E)) := by show _ = _; simp [rText, rTextE, HN.out, he]
        have HM2 := Lib.hid hM2
        clear hM2
        rw [show numV (N, Z, E) = .tuple #[.int .u64 N, .int .i64 Z, .int .i64 E] from rfl]
        go_wp2_with fail
        refine (rd_fail HA2.out E).mono ?_
        rintro x w3 ⟨rfl, hA3, hc3⟩
        go_wp2
        go_ret
        rw [HR.out]
        exact ⟨rfl, .inl ⟨g, rfl, hA3⟩, (Chg.ofNew HC2.out).trans hc3 (fun b hb => .inl hb)⟩
    · cases h
  · have hb : (mk && decide (e = 0)) = false := by
      cases mk <;> simp_all
    have HR : Hid (rText mk bs e most = (strOf [], bs, e)) := by show _ = _; rw [rText, if_neg hst]
    have HI := Lib.hid h
    go_enter Try.func52, Try.ntmps52
    clear h
    go_wp2_with fail
    refine (rd_stands HI.out).mono ?_
    rintro x w1 ⟨rfl, rfl⟩
    rw [hb]
    go_wp2
    go_ret
    rw [HR.out]
    exact ⟨rfl, HI.out, Chg.refl _ _⟩
theorem rd_text {w : World} {ok : Nat → Prop} {p : Option Addr} {mk : Bool} {bs : List UInt8} {e : Nat} (h : IsRd w ok p mk bs e) (most : Int) (hm0 : -9223372036854775808 ≤ most) (hm1 : most ≤ 9223372036854775807) :
    Calls Try.prog 52 #[.pointer p, .int .i64 most] w fun x w' => x = .returned (.string (rText mk bs e most).1) ∧ IsRd w' ok p mk (rText mk bs e most).2.1 (rText mk bs e most).2.2 ∧ Chg (At p) w w' := by
  by_cases hp : 0 ≤ most
  · obtain ⟨n, rfl⟩ := Int.eq_ofNat_of_zero_le hp
    exact rd_text_pos h n (by omega)
  · exact rd_text_neg h most hm0 (by omega)
end Go.Proofs.Ytcibdcahcpcmaaa

/- field.Reader: what a call of Flag, Done, Read does. -/
namespace Go.Proofs.Ytcibdcahcpcmaaa
open Go.RowKit
set_option maxRecDepth 100000
set_option linter.unusedVariables false
theorem rd_done {w : World} {ok : Nat → Prop} {p : Option Addr} {mk : Bool} {bs : List UInt8} {e : Nat} (h : IsRd w ok p mk bs e) :
    Calls Try.prog 59 #[.pointer p] w fun x w' => x = .returned (.int .i64 (rDone bs e)) ∧ w' = w := by
  have HI := Lib.hid h
  clear h
  go_enter Try.func59, Try.ntmps59
  go_wp2_with fail
  refine (rd_wrong HI.out).mono ?_
  rintro x w1 ⟨rfl, rfl⟩
  by_cases he : e = 0
  · subst he
    rw [show (((0 : Nat) : Int)) = (0 : Int) from rfl]
    go_wp2_with fail
    refine (rd_left HI.out).mono ?_
    rintro x w1 ⟨rfl, rfl⟩
    have HR : Hid (rDone bs 0 = if 0 < bs.length then 41 else 0) := by show _ = _; simp [rDone]
    obtain ⟨m, hm⟩ : ∃ m, bs.length = m := ⟨_, rfl⟩
    rw [hm] at HR ⊢
    clear HI hm
    by_cases hm : 0 < m
    · rw [if_pos hm] at HR
      go_wp2
      go_ret
      rw [HR.out]
      exact ⟨rfl, rfl⟩
    · obtain rfl : m = 0 := by omega
      rw [if_neg hm] at HR
      rw [show (((0 : Nat) : Int)) = (0 : Int) from rfl]
      go_wp2
      go_ret
      rw [HR.out]
      exact ⟨rfl, rfl⟩
  · have he' : ((e : Int) == 0) = false := by simp; omega
    go_wp2
    go_ret
    rw [rDone, if_pos he]
    exact ⟨rfl, rfl⟩
/-- A new reader, of the call's own. -/
def RdNew (w : World) (bs : List UInt8) (x : Ending) (w' : World) : Prop := ∃ g, x = .returned (.pointer (some ⟨g, 0, none⟩)) ∧ IsRdAt w' (fun b => w.heap.size ≤ b) g true bs 0 ∧ Chg nob w w'
theorem rd_read {w : World} {ok : Nat → Prop} {A : Option Addr} {m c : Nat} {bs : List UInt8} (hb : Kd.byte.C w ok A bs) (hm : bs.length = m) (hm2 : m ≤ 140737488355328) :
    Calls Try.prog 50 #[.slice A m c] w (RdNew w bs) := by
  have HB := Lib.hid hb
  have HM := Lib.hid hm
  clear hb hm
  have HE : Hid (Kd.byte.R 5 (w.alloc (.cells #[] 5)) w.heap.size (fun k => k = w.heap.size) (.slice (some ⟨w.heap.size, 0, none⟩) 0 0) ([] : List UInt8)) := empty_own w w.heap.size 5 Kd.byte (Nat.le_refl _)
  go_enter Try.func50, Try.ntmps50
  go_wp2_with (at_builtin; refine wp_appB rfl _ _ rfl w.heap.size _ _ (.slice (some ⟨w.heap.size, 0, none⟩) 0 0) ([] : List UInt8) bs A m c rfl rfl HM.out HE.out (Kd.C_new HB.out ((Chg.refl _ _).alloc _)) (by simp) m ?_ ?_ ?_)
  · simp
  · omega
  intro A1 c1 w1 hR hC _
  have hc1 : Chg nob w w1 := ((Chg.refl _ w).alloc _).trans hC (fun b hb => .inr (by
    have : some b = some w.heap.size := hb
    cases this
    exact Nat.le_refl _))
  have s1 := hc1.size
  have HR := Lib.hid (Kd.R_read (byte_ge hR)).1
  obtain ⟨hlen, hcap⟩ := (Kd.R_read hR).2
  clear hR hC HE
  have HN : ∀ cs t, Chg nob w1 (w1.alloc (.cells cs t)) := fun cs t => (Chg.refl _ _).alloc _
  go_wp2
  go_ret
  refine ⟨w1.heap.size, rfl, ⟨s1, A1, c1, ?_, by rw [HM.out]; exact hcap, ?_⟩, hc1.thenNew ((Chg.refl _ _).alloc _)⟩
  · rw [HM.out]
    exact heap_alloc_new w1 _
  · exact Kd.C_new (Kd.C_mono (Kd.C_bound HR.out) (fun b hb => ⟨hb.1, by omega⟩)) ((Chg.refl _ _).alloc _)
end Go.Proofs.Ytcibdcahcpcmaaa
