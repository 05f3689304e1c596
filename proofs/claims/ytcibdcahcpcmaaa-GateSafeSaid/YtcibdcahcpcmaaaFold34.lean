import Derived.Test.YtcibdcahcpcmaaaFold29
/- sodalityref04.Reader: what a call of Num, Text, Flag, Done does. -/
namespace Go.Proofs.Ytcibdcahcpcmaaa
open Go.RowKit
set_option maxRecDepth 100000
set_option linter.unusedVariables false
set_option linter.unusedSimpArgs false
/-- Block g is the reference's reader: the bytes that are left, what is wrong. What it rests on is ok. -/
def IsRef (w : World) (ok : Nat → Prop) (g : Nat) (bs : List UInt8) (e : Nat) : Prop :=
  ¬ ok g ∧ ∃ A c, w.heap[g]? = some (.cells #[.slice A bs.length c, .int .i64 e] 104 (0, 0)) ∧ bs.length ≤ c ∧ Kd.byte.C w ok A bs
section
variable {w w' : World} {ok ok' : Nat → Prop} {g : Nat} {bs : List UInt8} {e : Nat}
theorem IsRef.chg {S : Nat → Prop} (h : IsRef w ok g bs e) (hc : Chg S w w') (hg : ¬ S g) (hs : ∀ b, ok b → ¬ S b) : IsRef w' ok g bs e := by
  obtain ⟨h0, A, c, h1, h2, h3⟩ := h
  exact ⟨h0, A, c, hc.heap h1 hg, h2, Kd.C_chg h3 hc hs⟩
theorem IsRef.new (h : IsRef w ok g bs e) (hc : Chg nob w w') : IsRef w' ok g bs e := h.chg hc (not_nob _) (fun _ _ => not_nob _)
theorem IsRef.lt (h : IsRef w ok g bs e) : g < w.heap.size := by
  obtain ⟨_, A, c, h1, _⟩ := h
  exact heap_lt h1
theorem IsRef.err (h : IsRef w ok g bs e) (e' : Nat) : IsRef (w.setCell ⟨g, 1, none⟩ (.int .i64 e')) ok g bs e' := by
  obtain ⟨h0, A, c, h1, h2, h3⟩ := h
  refine ⟨h0, A, c, ?_, h2, Kd.C_step h3 (fun b hb _ => Below.heap_setCell _ _ _ _ (fun e => h0 (by rw [← show b = g from e]; exact hb)))⟩
  simp [World.setCell, Array.getElem?_modify, h1]
theorem IsRef.put {A' : Option Addr} {c' n : Nat} {bs' : List UInt8} (h : IsRef w ok g bs e) (hC : Kd.byte.C w ok A' bs') (hn : bs'.length = n) (hc : n ≤ c') : IsRef (w.setCell ⟨g, 0, none⟩ (.slice A' n c')) ok g bs' e := by
  subst hn
  obtain ⟨h0, A, c, h1, h2, h3⟩ := h
  refine ⟨h0, A', c', ?_, hc, Kd.C_step hC (fun b hb _ => Below.heap_setCell _ _ _ _ (fun e => h0 (by rw [← show b = g from e]; exact hb)))⟩
  simp [World.setCell, Array.getElem?_modify, h1]
theorem IsRef.read (h : IsRef w ok g bs e) :
    ∃ A c, w.cell? ⟨g, 0, none⟩ = some (.slice A bs.length c) ∧ w.cell? ⟨g, 1, none⟩ = some (.int .i64 e) ∧ w.frozen? ⟨g, 0, none⟩ = false ∧ w.frozen? ⟨g, 1, none⟩ = false ∧ bs.length ≤ c ∧ Kd.byte.C w ok A bs := by
  obtain ⟨h0, A, c, h1, h2, h3⟩ := h
  refine ⟨A, c, ?_, ?_, ?_, ?_, h2, h3⟩
  · rw [cell_of_row w g 0 _ _ _ h1]; rfl
  · rw [cell_of_row w g 1 _ _ _ h1]; rfl
  · simp [World.frozen?, h1]
  · simp [World.frozen?, h1]
end
set_option maxHeartbeats 1000000 in
theorem rr_num {w : World} {ok : Nat → Prop} {g : Nat} {bs : List UInt8} {e : Nat} (h : IsRef w ok g bs e) (most : Nat) (hmost : most < 18446744073709551616) :
    Calls Try.prog 46 #[.pointer (some ⟨g, 0, none⟩), .int .u64 most] w fun x w' => x = .returned (.int .u64 (rNum true bs e most).1) ∧ IsRef w' ok g (rNum true bs e most).2.1 (rNum true bs e most).2.2 ∧ Chg (At (some ⟨g, 0, none⟩)) w w' := by
  by_cases hst : e = 0
  · subst hst
    have hdummy : True := trivial
    · obtain ⟨A, c, e0, e1, ef0, ef1, hl, hC⟩ := h.read
      have HI := Lib.hid h
      have HC := Lib.hid hC
      have hsm := hC.small
      obtain ⟨m, hm⟩ : ∃ m, bs.length = m := ⟨_, rfl⟩
      rw [hm] at e0 hl hsm
      have HM := Lib.hid hm
      obtain ⟨na, nb, nc⟩ := numAt_lt bs
      obtain ⟨N, Z, E, hN⟩ : ∃ N Z E, numAt bs = (N, Z, E) := ⟨_, _, _, rfl⟩
      rw [hN] at na nb nc
      simp only at na nb nc
      have HZ : Hid (E = 0 → 1 ≤ Z ∧ Z ≤ m) := by
        show E = 0 → _
        intro he
        have := numAt_size (bs := bs) (by rw [hN]; exact he)
        rw [hN] at this
        rw [← hm]
        exact this
      have HN := Lib.hid hN
      clear h hC hm hN
      rw [show (((0 : Nat) : Int)) = (0 : Int) from rfl] at e1
      go_enter Try.func46, Try.ntmps46
      go_wp2_with fail
      refine (ref_number HC.out HM.out hl).mono ?_
      rintro x w2 ⟨rfl, hc2⟩
      rw [HN.out]
      have HI2 : Hid (IsRef w2 ok g bs 0) := HI.out.new hc2
      obtain ⟨A', c', e0', e1', f0, f1, hl', hC'⟩ := HI2.out.read
      have d0 : w2.cell? ⟨g, 0, none⟩ = some (.slice A m c) := hc2.cell e0 (not_nob _)
      have d1 : w2.cell? ⟨g, 1, none⟩ = some (.int .i64 0) := hc2.cell e1 (not_nob _)
      have hC2 := Lib.hid (Kd.C_new HC.out hc2)
      have HC2 := Lib.hid hc2
      clear e0' e1' hl' hC' e0 e1 ef0 ef1 hc2
      by_cases he : E = 0
      · subst he
        obtain ⟨z1, z2⟩ := HZ.out rfl
        rw [show numV (N, Z, 0) = .tuple #[.int .u64 N, .int .i64 Z, .int .i64 0] from rfl]
        by_cases hb : most < N
        · have HR : Hid (rNum true bs 0 most = (0, bs, 3)) := by show _ = _; simp [rNum, rNumE, HN.out, hb]
          have b1 : (most : Int) < (N : Int) := by omega
          go_wp2
          go_ret
          rw [HR.out]
          exact ⟨rfl, HI2.out.err 3, (Chg.ofNew HC2.out).trans (set_chg _) (fun b hb => .inl hb)⟩
        · have HR : Hid (rNum true bs 0 most = (N, bs.drop Z, 0)) := by show _ = _; simp [rNum, rNumE, HN.out, hb]
          have b1 : ¬ (most : Int) < (N : Int) := by omega
          have HD := Lib.hid (C_dropB hC2.out Z c (by rw [HM.out]; exact z2) (by rw [HM.out]; exact hl))
          have hdl : (bs.drop Z).length = m - Z := by rw [List.length_drop, HM.out]
          have HDL := Lib.hid hdl
          clear hdl
          go_wp2
          all_goals
            go_ret
            rw [HR.out]
            refine ⟨rfl, IsRef.put HI2.out ?_ HDL.out (by omega), (Chg.ofNew HC2.out).trans (set_chg _) (fun b hb => .inl hb)⟩
            have hD := HD.out
            first | (rw [if_pos (by omega)] at hD; exact hD) | (rw [if_neg (by omega)] at hD; exact hD)
      · have he' : ((E : Int) == 0) = false := by simp; omega
        have HR : Hid (rNum true bs 0 most = (0, bs, E)) := by show _ = _; simp [rNum, rNumE, HN.out, he]
        rw [show numV (N, Z, E) = .tuple #[.int .u64 N, .int .i64 Z, .int .i64 E] from rfl]
        go_wp2
        go_ret
        rw [HR.out]
        exact ⟨rfl, HI2.out.err E, (Chg.ofNew HC2.out).trans (set_chg _) (fun b hb => .inl hb)⟩
  · have HR : Hid (rNum true bs e most = (0, bs, e)) := by show _ = _; rw [rNum, if_neg (fun h => hst h.2)]
    obtain ⟨A, c, e0, e1, ef0, ef1, hl, hC⟩ := h.read
    have HI := Lib.hid h
    have he' : ((e : Int) == 0) = false := by simp; omega
    clear h hC hl
    go_enter Try.func46, Try.ntmps46
    go_wp2
    go_ret
    rw [HR.out]
    exact ⟨rfl, HI.out, Chg.refl _ _⟩
set_option maxHeartbeats 2000000 in
theorem rr_text_pos {w : World} {ok : Nat → Prop} {g : Nat} {bs : List UInt8} {e : Nat} (h : IsRef w ok g bs e) (most : Nat) (hm1 : most ≤ 9223372036854775807) :
    Calls Try.prog 45 #[.pointer (some ⟨g, 0, none⟩), .int .i64 most] w fun x w' => x = .returned (.string (rText true bs e (most : Int)).1) ∧ IsRef w' ok g (rText true bs e (most : Int)).2.1 (rText true bs e (most : Int)).2.2 ∧ Chg (At (some ⟨g, 0, none⟩)) w w' := by
  by_cases hst : e = 0
  · subst hst
    have hM2 : (max (most : Int) 0).toNat = most := by omega
    · obtain ⟨A, c, e0, e1, ef0, ef1, hl, hC⟩ := h.read
      have HI := Lib.hid h
      have HC := Lib.hid hC
      have hsm := hC.small
      obtain ⟨m, hm⟩ : ∃ m, bs.length = m := ⟨_, rfl⟩
      rw [hm] at e0 hl hsm
      have HM := Lib.hid hm
      obtain ⟨na, nb, nc⟩ := numAt_lt bs
      obtain ⟨N, Z, E, hN⟩ : ∃ N Z E, numAt bs = (N, Z, E) := ⟨_, _, _, rfl⟩
      rw [hN] at na nb nc
      simp only at na nb nc
      have HZ : Hid (E = 0 → 1 ≤ Z ∧ Z ≤ m) := by
        show E = 0 → _
        intro he
        have := numAt_size (bs := bs) (by rw [hN]; exact he)
        rw [hN] at this
        rw [← hm]
        exact this
      have HN := Lib.hid hN
      have HM2 := Lib.hid hM2
      clear hM2
      clear h hC hm hN
      rw [show (((0 : Nat) : Int)) = (0 : Int) from rfl] at e1
      go_enter Try.func45, Try.ntmps45
      go_wp2_with fail
      refine (ref_number HC.out HM.out hl).mono ?_
      rintro x w2 ⟨rfl, hc2⟩
      rw [HN.out]
      have HI2 : Hid (IsRef w2 ok g bs 0) := HI.out.new hc2
      obtain ⟨A', c', e0', e1', f0, f1, hl', hC'⟩ := HI2.out.read
      have d0 : w2.cell? ⟨g, 0, none⟩ = some (.slice A m c) := hc2.cell e0 (not_nob _)
      have d1 : w2.cell? ⟨g, 1, none⟩ = some (.int .i64 0) := hc2.cell e1 (not_nob _)
      have hC2 := Lib.hid (Kd.C_new HC.out hc2)
      have HC2 := Lib.hid hc2
      clear e0' e1' hl' hC' e0 e1 ef0 ef1 hc2
      by_cases he : E = 0
      · subst he
        obtain ⟨z1, z2⟩ := HZ.out rfl
        rw [show numV (N, Z, 0) = .tuple #[.int .u64 N, .int .i64 Z, .int .i64 0] from rfl]
        by_cases hb : most < N
        · have HR : Hid (rText true bs 0 (most : Int) = (strOf [], bs, 3)) := by show _ = _; simp [rText, rTextE, HN.out, HM2.out, hb]
          have b1 : (most : Int) < (N : Int) := by omega
          go_wp2
          go_ret
          rw [HR.out]
          exact ⟨rfl, HI2.out.err 3, (Chg.ofNew HC2.out).trans (set_chg _) (fun b hb => .inl hb)⟩
        · by_cases hb2 : m - Z < N
          · have HR : Hid (rText true bs 0 (most : Int) = (strOf [], bs, 30)) := by show _ = _; simp [rText, rTextE, HN.out, HM2.out, hb, HM.out, hb2]
            have b1 : ¬ (most : Int) < (N : Int) := by omega
            have b2 : ((m : Int) - (Z : Int)) < (N : Int) := by omega
            go_wp2
            go_ret
            rw [HR.out]
            exact ⟨rfl, HI2.out.err 30, (Chg.ofNew HC2.out).trans (set_chg _) (fun b hb => .inl hb)⟩
          · have HR : Hid (rText true bs 0 (most : Int) = (strOf ((bs.drop Z).take N), bs.drop (Z + N), 0)) := by show _ = _; simp [rText, rTextE, HN.out, HM2.out, hb, HM.out, hb2]
            have b1 : ¬ (most : Int) < (N : Int) := by omega
            have b2 : ¬ ((m : Int) - (Z : Int)) < (N : Int) := by omega
            have b3 : (N : Int) ≤ 9223372036854775807 := by omega
            have b4 : ((Z : Int) + (N : Int)) ≤ (m : Int) := by omega
            have hD := C_dropB hC2.out Z c (by rw [HM.out]; exact z2) (by rw [HM.out]; exact hl)
            have hT := Kd.C_take hD N (by rw [List.length_drop, HM.out]; omega)
            have hTl : ((bs.drop Z).take N).length = N := by rw [List.length_take, List.length_drop, HM.out]; omega
            have hcv := fun c' => run_conv (P := Try.prog) (src := 26) (dst := 9) (e := 5) (c := c') hT hTl (by kernel_rfl) (by kernel_rfl) (by kernel_rfl)
            have HD := Lib.hid (C_dropB hC2.out (Z + N) c (by rw [HM.out]; omega) (by rw [HM.out]; exact hl))
            have hdl : (bs.drop (Z + N)).length = m - (Z + N) := by rw [List.length_drop, HM.out]
            have HDL := Lib.hid hdl
            clear hD hdl hT hTl
            by_cases hcz : c = Z
            · rw [if_pos hcz] at hcv
              have hcv := hcv 0
              go_wp2
              all_goals
                go_ret
                rw [HR.out]
                refine ⟨rfl, IsRef.put HI2.out ?_ HDL.out (by omega), (Chg.ofNew HC2.out).trans (set_chg _) (fun b hb => .inl hb)⟩
                have hD := HD.out
                first | (rw [if_pos (by omega)] at hD; exact hD) | (rw [if_neg (by omega)] at hD; exact hD)
            · rw [if_neg hcz] at hcv
              have hcv := hcv (c - Z)
              go_wp2
              all_goals
                go_ret
                rw [HR.out]
                refine ⟨rfl, IsRef.put HI2.out ?_ HDL.out (by omega), (Chg.ofNew HC2.out).trans (set_chg _) (fun b hb => .inl hb)⟩
                have hD := HD.out
                first | (rw [if_pos (by omega)] at hD; exact hD) | (rw [if_neg (by omega)] at hD; exact hD)
      · have he' : ((E : Int) == 0) = false := by simp; omega
        have HR : Hid (rText true bs 0 (most : Int) = (strOf [], bs, E)) := by show _ = _; simp [rText, rTextE, HN.out, he]
        rw [show numV (N, Z, E) = .tuple #[.int .u64 N, .int .i64 Z, .int .i64 E] from rfl]
        go_wp2
        go_ret
        rw [HR.out]
        exact ⟨rfl, HI2.out.err E, (Chg.ofNew HC2.out).trans (set_chg _) (fun b hb => .inl hb)⟩
  · have HR : Hid (rText true bs e (most : Int) = (strOf [], bs, e)) := by show _ = _; rw [rText, if_neg (fun h => hst h.2)]
    obtain ⟨A, c, e0, e1, ef0, ef1, hl, hC⟩ := h.read
    have HI := Lib.hid h
    have he' : ((e : Int) == 0) = false := by simp; omega
    clear h hC hl
    go_enter Try.func45, Try.ntmps45
    go_wp2
    go_ret
    rw [HR.out]
    exact ⟨rfl, HI.out, Chg.refl _ _⟩
set_option maxHeartbeats 2000000 in
theorem rr_text_neg {w : World} {ok : Nat → Prop} {g : Nat} {bs : List UInt8} {e : Nat} (h : IsRef w ok g bs e) (most : Int) (hm0 : -9223372036854775808 ≤ most) (hm1 : most < 0) :
    Calls Try.prog 45 #[.pointer (some ⟨g, 0, none⟩), .int .i64 most] w fun x w' => x = .returned (.string (rText true bs e most).1) ∧ IsRef w' ok g (rText true bs e most).2.1 (rText true bs e most).2.2 ∧ Chg (At (some ⟨g, 0, none⟩)) w w' := by
  by_cases hst : e = 0
  · subst hst
    have hM2 : (max most 0).toNat = 0 := by omega
    · obtain ⟨A, c, e0, e1, ef0, ef1, hl, hC⟩ := h.read
      have HI := Lib.hid h
      have HC := Lib.hid hC
      have hsm := hC.small
      obtain ⟨m, hm⟩ : ∃ m, bs.length = m := ⟨_, rfl⟩
      rw [hm] at e0 hl hsm
      have HM := Lib.hid hm
      obtain ⟨na, nb, nc⟩ := numAt_lt bs
      obtain ⟨N, Z, E, hN⟩ : ∃ N Z E, numAt bs = (N, Z, E) := ⟨_, _, _, rfl⟩
      rw [hN] at na nb nc
      simp only at na nb nc
      have HZ : Hid (E = 0 → 1 ≤ Z ∧ Z ≤ m) := by
        show E = 0 → _
        intro he
        have := numAt_size (bs := bs) (by rw [hN]; exact he)
        rw [hN] at this
        rw [← hm]
        exact this
      have HN := Lib.hid hN
      have HM2 := Lib.hid hM2
      clear hM2
      clear h hC hm hN
      rw [show (((0 : Nat) : Int)) = (0 : Int) from rfl] at e1
      go_enter Try.func45, Try.ntmps45
      go_wp2_with fail
      refine (ref_number HC.out HM.out hl).mono ?_
      rintro x w2 ⟨rfl, hc2⟩
      rw [HN.out]
      have HI2 : Hid (IsRef w2 ok g bs 0) := HI.out.new hc2
      obtain ⟨A', c', e0', e1', f0, f1, hl', hC'⟩ := HI2.out.read
      have d0 : w2.cell? ⟨g, 0, none⟩ = some (.slice A m c) := hc2.cell e0 (not_nob _)
      have d1 : w2.cell? ⟨g, 1, none⟩ = some (.int .i64 0) := hc2.cell e1 (not_nob _)
      have hC2 := Lib.hid (Kd.C_new HC.out hc2)
      have HC2 := Lib.hid hc2
      clear e0' e1' hl' hC' e0 e1 ef0 ef1 hc2
      by_cases he : E = 0
      · subst he
        obtain ⟨z1, z2⟩ := HZ.out rfl
        rw [show numV (N, Z, 0) = .tuple #[.int .u64 N, .int .i64 Z, .int .i64 0] from rfl]
        by_cases hb : 0 < N
        · have HR : Hid (rText true bs 0 most = (strOf [], bs, 3)) := by show _ = _; simp [rText, rTextE, HN.out, HM2.out, hb]
          have b1 : (0 : Int) < (N : Int) := by omega
          go_wp2
          go_ret
          rw [HR.out]
          exact ⟨rfl, HI2.out.err 3, (Chg.ofNew HC2.out).trans (set_chg _) (fun b hb => .inl hb)⟩
        · by_cases hb2 : m - Z < N
          · exact absurd hb2 (by omega)
          · have HR : Hid (rText true bs 0 most = (strOf ((bs.drop Z).take N), bs.drop (Z + N), 0)) := by show _ = _; simp [rText, rTextE, HN.out, HM2.out, hb, HM.out, hb2]
            have b1 : ¬ (0 : Int) < (N : Int) := by omega
            have b2 : ¬ ((m : Int) - (Z : Int)) < (N : Int) := by omega
            have b3 : (N : Int) ≤ 9223372036854775807 := by omega
            have b4 : ((Z : Int) + (N : Int)) ≤ (m : Int) := by omega
            have hD := C_dropB hC2.out Z c (by rw [HM.out]; exact z2) (by rw [HM.out]; exact hl)
            have hT := Kd.C_take hD N (by rw [List.length_drop, HM.out]; omega)
            have hTl : ((bs.drop Z).take N).length = N := by rw [List.length_take, List.length_drop, HM.out]; omega
            have hcv := fun c' => run_conv (P := Try.prog) (src := 26) (dst := 9) (e := 5) (c := c') hT hTl (by kernel_rfl) (by kernel_rfl) (by kernel_rfl)
            have HD := Lib.hid (C_dropB hC2.out (Z + N) c (by rw [HM.out]; omega) (by rw [HM.out]; exact hl))
            have hdl : (bs.drop (Z + N)).length = m - (Z + N) := by rw [List.length_drop, HM.out]
            have HDL := Lib.hid hdl
            clear hD hdl hT hTl
            by_cases hcz : c = Z
            · rw [if_pos hcz] at hcv
              have hcv := hcv 0
              go_wp2
              all_goals
                go_ret
                rw [HR.out]
                refine ⟨rfl, IsRef.put HI2.out ?_ HDL.out (by omega), (Chg.ofNew HC2.out).trans (set_chg _) (fun b hb => .inl hb)⟩
                have hD := HD.out
                first | (rw [if_pos (by omega)] at hD; exact hD) | (rw [if_neg (by omega)] at hD; exact hD)
            · rw [if_neg hcz] at hcv
              have hcv := hcv (c - Z)
              go_wp2
              all_goals
                go_ret
                rw [HR.out]
                refine ⟨rfl, IsRef.put HI2.out ?_ HDL.out (by omega), (Chg.ofNew HC2.out).trans (set_chg _) (fun b hb => .inl hb)⟩
                have hD := HD.out
                first | (rw [if_pos (by omega)] at hD; exact hD) | (rw [if_neg (by omega)] at hD; exact hD)
      · have he' : ((E : Int) == 0) = false := by simp; omega
        have HR : Hid (rText true bs 0 most = (strOf [], bs, E)) := by show _ = _; simp [rText, rTextE, HN.out, he]
        rw [show numV (N, Z, E) = .tuple #[.int .u64 N, .int .i64 Z, .int .i64 E] from rfl]
        go_wp2
        go_ret
        rw [HR.out]
        exact ⟨rfl, HI2.out.err E, (Chg.ofNew HC2.out).trans (set_chg _) (fun b hb => .inl hb)⟩
  · have HR : Hid (rText true bs e most = (strOf [], bs, e)) := by show _ = _; rw [rText, if_neg (fun h => hst h.2)]
    obtain ⟨A, c, e0, e1, ef0, ef1, hl, hC⟩ := h.read
    have HI := Lib.hid h
    have he' : ((e : Int) == 0) = false := by simp; omega
    clear h hC hl
    go_enter Try.func45, Try.ntmps45
    go_wp2
    go_ret
    rw [HR.out]
    exact ⟨rfl, HI.out, Chg.refl _ _⟩
theorem rr_text {w : World} {ok : Nat → Prop} {g : Nat} {bs : List UInt8} {e : Nat} (h : IsRef w ok g bs e) (most : Int) (hm0 : -9223372036854775808 ≤ most) (hm1 : most ≤ 9223372036854775807) :
    Calls Try.prog 45 #[.pointer (some ⟨g, 0, none⟩), .int .i64 most] w fun x w' => x = .returned (.string (rText true bs e most).1) ∧ IsRef w' ok g (rText true bs e most).2.1 (rText true bs e most).2.2 ∧ Chg (At (some ⟨g, 0, none⟩)) w w' := by
  by_cases hp : 0 ≤ most
  · obtain ⟨n, rfl⟩ := Int.eq_ofNat_of_zero_le hp
    exact rr_text_pos h n (by omega)
  · exact rr_text_neg h most hm0 (by omega)
theorem rr_done {w : World} {ok : Nat → Prop} {g : Nat} {bs : List UInt8} {e : Nat} (h : IsRef w ok g bs e) :
    Calls Try.prog 47 #[.pointer (some ⟨g, 0, none⟩)] w fun x w' => x = .returned (.int .i64 (rDone bs e)) ∧ w' = w := by
  obtain ⟨A, c, e0, e1, ef0, ef1, hl, hC⟩ := h.read
  obtain ⟨m, hm⟩ : ∃ m, bs.length = m := ⟨_, rfl⟩
  have HR : Hid (rDone bs e = if e ≠ 0 then e else if 0 < m then 41 else 0) := by show _ = _; rw [rDone, hm]
  rw [hm] at e0
  clear h hC hl hm
  by_cases he : e = 0
  · subst he
    rw [show (((0 : Nat) : Int)) = (0 : Int) from rfl] at e1
    rw [if_neg (by simp)] at HR
    by_cases hm : 0 < m
    · rw [if_pos hm] at HR
      go_enter Try.func47, Try.ntmps47
      go_wp2
      go_ret
      rw [HR.out]
      exact ⟨rfl, rfl⟩
    · obtain rfl : m = 0 := by omega
      rw [if_neg hm] at HR
      rw [show (((0 : Nat) : Nat)) = (0 : Nat) from rfl] at e0
      go_enter Try.func47, Try.ntmps47
      go_wp2
      go_ret
      rw [HR.out]
      exact ⟨rfl, rfl⟩
  · have he' : ((e : Int) == 0) = false := by simp; omega
    rw [if_pos he] at HR
    go_enter Try.func47, Try.ntmps47
    go_wp2
    go_ret
    rw [HR.out]
    exact ⟨rfl, rfl⟩
end Go.Proofs.Ytcibdcahcpcmaaa
