/- Frames: the walk of FramePacks. -/
import Derived.Test.YtfaiehhmpmbcjaaFramePackets
namespace Go.Proofs.Ytfaiehhmpmbcjaa
open Go.RowKit
set_option linter.unusedVariables false
set_option linter.unusedSimpArgs false
set_option maxRecDepth 100000 in
set_option maxHeartbeats 2000000 in
theorem framePacks_walk {w : World} {LA : Option Addr} {ln lc : Nat} {l : List Fr} {A : Option Addr} {m c : Nat} {bs : List UInt8} (hx : frK.C w (fun b => b < w.heap.size) LA l) (hn : l.length = ln)
    (hb : Kd.byte.C w (fun b => b < w.heap.size) A bs) (hm : bs.length = m) (hmc : m ≤ c) :
    Calls Try.prog 8 #[.slice LA ln lc, .slice A m c] w fun e w' => e = .returned (.bool true) ∧ Chg nob w w' := by
  have HX := Lib.hid hx
  have HN := Lib.hid hn
  have HB := Lib.hid hb
  have HM := Lib.hid hm
  clear hx hn hb hm
  have hnil : ∀ w : World, (convert 22 9 (.slice none 0 0)).run Try.prog w = .ok (.string (strOf [])) w := fun w => conv_any (Kd.C_nil _ _ (fun _ => False) none) rfl 0
  go_enter Try.func8, Try.ntmps8
  go_wp2_with fail
  refine (f_pack HX.out HN.out).mono ?_
  rintro e w2 ⟨hc2, hor2⟩
  have HC2 := Lib.hid hc2
  have HX2 := Lib.hid (Kd.C_mono (Kd.C_new HX.out hc2) (ok' := fun b => b < w2.heap.size) (fun b hb => Nat.lt_of_lt_of_le hb hc2.size))
  clear hc2
  by_cases hp : packE l = 0
  · have HP := Lib.hid hp
    rcases hor2 with ⟨he, _⟩ | ⟨_, A2, n2, c2, rfl, hn2, hc22, hC2⟩
    · exact absurd hp he
    have HL2 := Lib.hid hn2
    have HR2 := Lib.hid hC2
    clear hp hn2 hC2
    go_wp2_with fail
    refine (fr_pack HX2.out HN.out).mono ?_
    rintro e w3 ⟨hc3, ⟨he, _⟩ | ⟨_, A3, n3, c3, rfl, hn3, hc33, hC3⟩⟩
    · exact absurd HP.out he
    have HC3 := Lib.hid hc3
    have HL3 := Lib.hid hn3
    have HR3 := Lib.hid hC3
    have HCC := Lib.hid (HC2.out.thenNew hc3)
    clear hc3 hn3 hC3
    go_wp2_with fail
    refine (f_unpack (Kd.C_new HB.out HCC.out) HM.out hmc).mono ?_
    rintro e w4 ⟨hc4, hor4⟩
    have HC4 := Lib.hid hc4
    have HCD := Lib.hid (HCC.out.thenNew hc4)
    have HB4 := Lib.hid (Kd.C_mono (Kd.C_new HB.out HCD.out) (ok' := fun b => b < w4.heap.size) (fun b hb => Nat.lt_of_lt_of_le hb HCD.out.size))
    clear hc4
    by_cases hu : unpE bs = 0
    · have HU := Lib.hid hu
      rcases hor4 with ⟨he, _⟩ | ⟨_, L4, n4, c4, rfl, hn4, _, hC4⟩
      · exact absurd hu he
      have HL4 := Lib.hid hn4
      have HR4 := Lib.hid hC4
      clear hu hn4 hC4
      go_wp2_with fail
      refine (fr_unpack HB4.out HM.out hmc).mono ?_
      rintro e w5 ⟨hc5, ⟨he, _⟩ | ⟨_, L5, n5, c5, rfl, hn5, _, hC5⟩⟩
      · exact absurd HU.out he
      have HL5 := Lib.hid hn5
      have HR5 := Lib.hid hC5
      have hcv := conv_any (Kd.C_new HR2.out ((HC3.out.thenNew HC4.out).thenNew hc5)) HL2.out c2
      have hcv2 := conv_any (Kd.C_new HR3.out (HC4.out.thenNew hc5)) HL3.out c3
      have HC5 := Lib.hid hc5
      clear hn5 hC5 hc5
      go_wp2_with fail
      refine (fr_same (Kd.C_new HR4.out HC5.out) HR5.out HL4.out HL5.out).mono ?_
      rintro e w6 ⟨rfl, hc6⟩
      rw [decide_eq_true (rfl : (allR bs).1 = (allR bs).1)]
      have HC6 := Lib.hid ((HCD.out.thenNew HC5.out).thenNew hc6)
      clear hc6 hcv hcv2
      go_wp2_with fail
      refine (frame_works _).mono ?_
      rintro e w9 ⟨rfl, hc9⟩
      have hfin := HC6.out.thenNew hc9
      clear hc9
      go_wp2
      go_ret
      exact ⟨rfl, hfin⟩
    · have HU := Lib.hid hu
      rcases hor4 with ⟨_, rfl⟩ | ⟨he, _⟩
      rotate_left
      · exact absurd he hu
      clear hu
      go_wp2_with fail
      refine (fr_unpack HB4.out HM.out hmc).mono ?_
      rintro e w5 ⟨hc5, ⟨_, rfl⟩ | ⟨he, _⟩⟩
      rotate_left
      · exact absurd he HU.out
      obtain ⟨E, hE⟩ : ∃ E, unpE bs = E := ⟨_, rfl⟩
      rw [hE]
      have hcv := conv_any (Kd.C_new HR2.out ((HC3.out.thenNew HC4.out).thenNew hc5)) HL2.out c2
      have hcv2 := conv_any (Kd.C_new HR3.out (HC4.out.thenNew hc5)) HL3.out c3
      have HC5 := Lib.hid hc5
      clear hc5 hE
      go_wp2_with fail
      refine (fr_same (w := w5) (xs := []) (ys := []) (okA := fun _ => False) (okB := fun _ => False) (Kd.C_nil _ _ _ _) (Kd.C_nil _ _ _ _) rfl rfl).mono ?_
      rintro e w6 ⟨rfl, hc6⟩
      rw [decide_eq_true (rfl : ([] : List Fr) = [])]
      have HC6 := Lib.hid ((HCD.out.thenNew HC5.out).thenNew hc6)
      clear hc6 hcv hcv2
      go_wp2_with fail
      refine (frame_works _).mono ?_
      rintro e w9 ⟨rfl, hc9⟩
      have hfin := HC6.out.thenNew hc9
      clear hc9
      go_wp2
      go_ret
      exact ⟨rfl, hfin⟩
  · have HP := Lib.hid hp
    rcases hor2 with ⟨_, rfl⟩ | ⟨he, _⟩
    rotate_left
    · exact absurd he hp
    obtain ⟨G, hG⟩ : ∃ G, packE l = G := ⟨_, rfl⟩
    have HG := Lib.hid hG
    rw [hG]
    clear hp hG
    go_wp2_with fail
    refine (fr_pack HX2.out HN.out).mono ?_
    rintro e w3 ⟨hc3, ⟨_, rfl⟩ | ⟨he, _⟩⟩
    rotate_left
    · exact absurd he HP.out
    rw [HG.out]
    have HCC := Lib.hid (HC2.out.thenNew hc3)
    clear hc3
    go_wp2_with fail
    refine (f_unpack (Kd.C_new HB.out HCC.out) HM.out hmc).mono ?_
    rintro e w4 ⟨hc4, hor4⟩
    have HC4 := Lib.hid hc4
    have HCD := Lib.hid (HCC.out.thenNew hc4)
    have HB4 := Lib.hid (Kd.C_mono (Kd.C_new HB.out HCD.out) (ok' := fun b => b < w4.heap.size) (fun b hb => Nat.lt_of_lt_of_le hb HCD.out.size))
    clear hc4
    by_cases hu : unpE bs = 0
    · have HU := Lib.hid hu
      rcases hor4 with ⟨he, _⟩ | ⟨_, L4, n4, c4, rfl, hn4, _, hC4⟩
      · exact absurd hu he
      have HL4 := Lib.hid hn4
      have HR4 := Lib.hid hC4
      clear hu hn4 hC4
      go_wp2_with fail
      refine (fr_unpack HB4.out HM.out hmc).mono ?_
      rintro e w5 ⟨hc5, ⟨he, _⟩ | ⟨_, L5, n5, c5, rfl, hn5, _, hC5⟩⟩
      · exact absurd HU.out he
      have HL5 := Lib.hid hn5
      have HR5 := Lib.hid hC5
      have HC5 := Lib.hid hc5
      clear hn5 hC5 hc5
      go_wp2_with fail
      refine (fr_same (Kd.C_new HR4.out HC5.out) HR5.out HL4.out HL5.out).mono ?_
      rintro e w6 ⟨rfl, hc6⟩
      rw [decide_eq_true (rfl : (allR bs).1 = (allR bs).1)]
      have HC6 := Lib.hid ((HCD.out.thenNew HC5.out).thenNew hc6)
      clear hc6
      go_wp2_with fail
      refine (frame_works _).mono ?_
      rintro e w9 ⟨rfl, hc9⟩
      have hfin := HC6.out.thenNew hc9
      clear hc9
      go_wp2
      go_ret
      exact ⟨rfl, hfin⟩
    · have HU := Lib.hid hu
      rcases hor4 with ⟨_, rfl⟩ | ⟨he, _⟩
      rotate_left
      · exact absurd he hu
      clear hu
      go_wp2_with fail
      refine (fr_unpack HB4.out HM.out hmc).mono ?_
      rintro e w5 ⟨hc5, ⟨_, rfl⟩ | ⟨he, _⟩⟩
      rotate_left
      · exact absurd he HU.out
      obtain ⟨E, hE⟩ : ∃ E, unpE bs = E := ⟨_, rfl⟩
      rw [hE]
      have HC5 := Lib.hid hc5
      clear hc5 hE
      go_wp2_with fail
      refine (fr_same (w := w5) (xs := []) (ys := []) (okA := fun _ => False) (okB := fun _ => False) (Kd.C_nil _ _ _ _) (Kd.C_nil _ _ _ _) rfl rfl).mono ?_
      rintro e w6 ⟨rfl, hc6⟩
      rw [decide_eq_true (rfl : ([] : List Fr) = [])]
      have HC6 := Lib.hid ((HCD.out.thenNew HC5.out).thenNew hc6)
      clear hc6
      go_wp2_with fail
      refine (frame_works _).mono ?_
      rintro e w9 ⟨rfl, hc9⟩
      have hfin := HC6.out.thenNew hc9
      clear hc9
      go_wp2
      go_ret
      exact ⟨rfl, hfin⟩
end Go.Proofs.Ytfaiehhmpmbcjaa
