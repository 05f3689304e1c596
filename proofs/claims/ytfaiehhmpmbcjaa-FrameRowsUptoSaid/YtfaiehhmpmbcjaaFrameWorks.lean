/- Frames: a frame is put, and taken; the walk of FrameTakes. -/
import Derived.Test.YtfaiehhmpmbcjaaFrameRefTake
import Derived.Lib.SlBytesConst
namespace Go.Proofs.Ytfaiehhmpmbcjaa
open Go.RowKit
set_option linter.unusedVariables false
set_option linter.unusedSimpArgs false
theorem frame_works (w : World) : Calls Try.prog 13 #[] w fun e w' => e = .returned (.bool true) ∧ Chg nob w w' := by
  have hb := C_block (o := 0) (xs := [65, 66]) (heap_alloc_new w (.cells #[.int .u8 65, .int .u8 66] 5 (2, 3))) rfl (by decide)
  have hc := (Chg.refl nob w).alloc (.cells #[.int .u8 65, .int .u8 66] 5 (2, 3))
  have HB := Lib.hid hb
  have HC := Lib.hid hc
  have HT : Hid (takeE ([] ++ frameB (7, [65, 66])) = 0 ∧ frOf ([] ++ frameB (7, [65, 66])) = (7, [65, 66]) ∧ told ([] ++ frameB (7, [65, 66])) = 2) := by
    have := take_frame (f := (7, [65, 66])) (by decide) []
    rw [List.append_nil] at this
    exact this
  clear hb hc
  have hcv := fun (w : World) (C : Array Value) (n c : Nat) => Lib.run_convert_bytes_const (P := Try.prog) w 22 5 C n c Try.underlying22 Try.underlying5
  go_enter Try.func13, Try.ntmps13
  go_wp2_with fail
  clear hcv
  refine (f_put (k := 7) (n := 0) (bs := []) (Kd.C_nil _ _ (fun _ => False) none) HB.out rfl rfl (Nat.le_refl _) (by decide)).mono ?_
  rintro e w2 ⟨hc2, ⟨he, _⟩ | ⟨_, A, c, rfl, hl, hmc, hC⟩⟩
  · exact absurd (by decide) he
  have HL := Lib.hid hl
  have HC2 := Lib.hid (HC.out.thenNew hc2)
  have HB2 := Lib.hid hC
  clear hc2 hl hC
  go_wp2_with fail
  refine (f_take HB2.out HL.out hmc (by decide)).mono ?_
  rintro e w3 ⟨hc3, ⟨he, _⟩ | ⟨_, A3, c3, rfl, hmc3, hC3⟩⟩
  · exact absurd HT.out.1 he
  rw [HT.out.2.1] at hC3 ⊢
  rw [HT.out.2.2] at hmc3 ⊢
  have HC3 := Lib.hid ((HC2.out.thenNew hc3).alloc (.cells #[.int .u8 7, .slice A3 2 c3] 24))
  have hc4 := (Chg.refl nob w3).alloc (.cells #[.int .u8 7, .slice A3 2 c3] 24)
  have hcv := conv_any (Kd.C_new hC3 hc4) (show ([65, 66] : List UInt8).length = 2 from rfl)
  obtain ⟨q0, q1⟩ := row2c (heap_alloc_new w3 (.cells #[.int .u8 7, .slice A3 2 c3] 24))
  clear hc3 hc4 hC3 HT HB HC HB2 HL HC2
  go_wp2
  go_ret
  exact ⟨congrArg (fun b => Ending.returned (.bool b)) (show ((strOf [65, 66]).toList == [65, 66]) = true from by rw [strOf_list]; rfl), HC3.out⟩
/-- What Take and the reference's Take tell, side by side. -/
theorem taken_zero {w : World} {bs : List UInt8} {e : Ending} {w' : World} (h : Taken w bs e w') (he : takeE bs ≠ 0) : Chg nob w w' ∧ e = .returned (.tuple #[.agg #[.int .u8 0, .slice none 0 0], .int .i64 0, .int .i64 (takeE bs)]) := by
  obtain ⟨hc, ⟨_, rfl⟩ | ⟨h0, _⟩⟩ := h
  · exact ⟨hc, rfl⟩
  · exact absurd h0 he
set_option maxHeartbeats 2000000 in
theorem frameTakes_walk {w : World} {A : Option Addr} {m c : Nat} {bs : List UInt8} (hb : Kd.byte.C w (fun b => b < w.heap.size) A bs) (hm : bs.length = m) (hmc : m ≤ c) :
    Calls Try.prog 3 #[.slice A m c] w fun e w' => e = .returned (.bool true) ∧ Chg nob w w' := by
  have hsm := hb.small
  rw [hm] at hsm
  have HB := Lib.hid hb
  have HM := Lib.hid hm
  clear hb hm
  by_cases he : takeE bs = 0
  · obtain ⟨_, hl2, h7, h10, _⟩ := take_back he
    have HL2 := Lib.hid hl2
    obtain ⟨T, hT⟩ : ∃ T, told bs = T := ⟨_, rfl⟩
    obtain ⟨F, hF⟩ : ∃ F, frOf bs = F := ⟨_, rfl⟩
    rw [hT] at h10
    rw [hT, hF] at HL2
    have HT := Lib.hid hT
    have HF := Lib.hid hF
    have HE := Lib.hid he
    clear hl2 hT hF he h7
    go_enter Try.func3, Try.ntmps3
    go_wp2_with fail
    refine (f_take HB.out HM.out hmc hsm).mono ?_
    rintro e w2 ⟨hc2, ⟨hn, _⟩ | ⟨_, A2, c2, rfl, hm2, hC2⟩⟩
    · exact absurd HE.out hn
    rw [HF.out] at hC2 ⊢
    rw [HT.out] at hm2 ⊢
    have hc3 := hc2.alloc (.cells #[.int .u8 F.1.toNat, .slice A2 T c2] 24)
    have hc3' := (Chg.refl nob w2).alloc (.cells #[.int .u8 F.1.toNat, .slice A2 T c2] 24)
    obtain ⟨q0, q1⟩ := row2c (heap_alloc_new w2 (.cells #[.int .u8 F.1.toNat, .slice A2 T c2] 24))
    have HQ := Lib.hid (And.intro q0 q1)
    have HC2 := Lib.hid (Kd.C_new hC2 hc3')
    have HC3 := Lib.hid hc3
    have HB3 := Lib.hid (Kd.C_new HB.out hc3)
    clear hc2 hc3 hc3' q0 q1 hC2
    have hsz : w2.heap.size < (w2.alloc (.cells #[.int .u8 F.1.toNat, .slice A2 T c2] 24)).heap.size := by simp
    have HSZ := Lib.hid hsz
    clear hsz
    go_wp2_with fail
    refine (fr_take HB3.out (fun b hb => Nat.lt_of_lt_of_le hb HC3.out.size) HM.out hmc hsm).mono ?_
    rintro e w4 ⟨hc4, ⟨hn, _⟩ | ⟨_, A4, c4, rfl, hm4, hC4⟩⟩
    · exact absurd HE.out hn
    rw [HF.out] at hC4 ⊢
    rw [HT.out] at hm4 ⊢
    have hc5' := (Chg.refl nob w4).alloc (.cells #[.int .u8 F.1.toNat, .slice A4 T c4] 24)
    have hc5 := hc4.thenNew hc5'
    obtain ⟨r0, r1⟩ := row2c (heap_alloc_new w4 (.cells #[.int .u8 F.1.toNat, .slice A4 T c4] 24))
    have q0 := hc5.cell HQ.out.1 (not_nob _)
    have q1 := hc5.cell HQ.out.2 (not_nob _)
    have hcv := conv_any (Kd.C_new HC2.out hc5) HL2.out
    have hcv2 := conv_any (Kd.C_new hC4 hc5') HL2.out
    have HC5 := Lib.hid (HC3.out.thenNew hc5)
    clear hc4 hc5 hc5' hC4 HQ HC2 HC3 HB3
    go_wp2_with fail
    refine (frame_works _).mono ?_
    rintro e w9 ⟨rfl, hc9⟩
    have hfin := HC5.out.thenNew hc9
    clear hc9
    go_wp2
    go_ret
    exact ⟨by rfl, hfin⟩
  · have HE := Lib.hid he
    obtain ⟨E, hE⟩ : ∃ E, takeE bs = E := ⟨_, rfl⟩
    have HEE := Lib.hid hE
    clear he hE
    have hnil : ∀ w : World, (convert 22 9 (.slice none 0 0)).run Try.prog w = .ok (.string (strOf [])) w := fun w => conv_any (Kd.C_nil _ _ (fun _ => False) none) rfl 0
    go_enter Try.func3, Try.ntmps3
    go_wp2_with fail
    refine (f_take HB.out HM.out hmc hsm).mono ?_
    intro e w2 hT
    obtain ⟨hc2, rfl⟩ := taken_zero hT HE.out
    rw [HEE.out]
    have hc3 := hc2.alloc (.cells #[.int .u8 0, .slice none 0 0] 24)
    obtain ⟨q0, q1⟩ := row2c (heap_alloc_new w2 (.cells #[.int .u8 0, .slice none 0 0] 24))
    have HQ := Lib.hid (And.intro q0 q1)
    have HC3 := Lib.hid hc3
    have HB3 := Lib.hid (Kd.C_new HB.out hc3)
    clear hc2 hc3 q0 q1 hT
    go_wp2_with fail
    refine (fr_take HB3.out (fun b hb => Nat.lt_of_lt_of_le hb HC3.out.size) HM.out hmc hsm).mono ?_
    rintro e w4 ⟨hc4, ⟨_, rfl⟩ | ⟨hn, _⟩⟩
    · rw [HEE.out]
      have hc5 := hc4.alloc (.cells #[.int .u8 0, .slice none 0 0] 24)
      obtain ⟨r0, r1⟩ := row2c (heap_alloc_new w4 (.cells #[.int .u8 0, .slice none 0 0] 24))
      have q0 := hc5.cell HQ.out.1 (not_nob _)
      have q1 := hc5.cell HQ.out.2 (not_nob _)
      have HC5 := Lib.hid (HC3.out.thenNew hc5)
      clear hc4 hc5 HQ HC3 HB3
      go_wp2_with fail
      refine (frame_works _).mono ?_
      rintro e w9 ⟨rfl, hc9⟩
      have hfin := HC5.out.thenNew hc9
      clear hc9
      go_wp2
      go_ret
      exact ⟨by rfl, hfin⟩
    · exact absurd hn HE.out
end Go.Proofs.Ytfaiehhmpmbcjaa
