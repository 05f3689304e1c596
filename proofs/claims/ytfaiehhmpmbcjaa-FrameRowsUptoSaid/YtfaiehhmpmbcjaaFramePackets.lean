/- Frames: the walks of FramePacks, FrameBack, FrameOnce. -/
import Derived.Test.YtfaiehhmpmbcjaaFrameSame
namespace Go.Proofs.Ytfaiehhmpmbcjaa
open Go.RowKit
set_option linter.unusedVariables false
set_option linter.unusedSimpArgs false
theorem packE_zero {l : List Fr} (h : packE l = 0) : (∀ f ∈ l, errF f = 0) ∧ 1 ≤ l.length ∧ l.length ≤ 32 ∧ (packB l).length ≤ 1400 := by
  unfold packE at h
  by_cases h1 : firstE l = 0
  · rw [if_neg (by omega)] at h
    by_cases h2 : l.length < 1 ∨ 32 < l.length
    · rw [if_pos h2] at h; cases h
    · rw [if_neg h2] at h
      by_cases h3 : 1400 < (packB l).length
      · rw [if_pos h3] at h; cases h
      · exact ⟨firstE_ok h1, by omega, by omega, by omega⟩
  · rw [if_pos h1] at h; exact absurd h h1
theorem pack_back {l : List Fr} (h : packE l = 0) : unpE (packB l) = 0 ∧ (allR (packB l)).1 = l := by
  obtain ⟨h1, h2, h3, h4⟩ := packE_zero h
  have e := allR_of_pack h1
  have h5 := packB_ge l
  refine ⟨?_, by rw [e]⟩
  rw [unpE, if_neg (by omega), e, if_neg (by simp), if_neg (by show ¬ 32 < l.length; omega)]
theorem unpE_zero {bs : List UInt8} (h : unpE bs = 0) : 1 ≤ bs.length ∧ bs.length ≤ 1400 ∧ (allR bs).2.2 = 0 ∧ (allR bs).1.length ≤ 32 := by
  unfold unpE at h
  by_cases h1 : bs.length < 1 ∨ 1400 < bs.length
  · rw [if_pos h1] at h; cases h
  · rw [if_neg h1] at h
    by_cases h2 : (allR bs).2.2 = 0
    · rw [if_neg (by omega)] at h
      by_cases h3 : 32 < (allR bs).1.length
      · rw [if_pos h3] at h; cases h
      · exact ⟨by omega, by omega, h2, by omega⟩
    · rw [if_pos h2] at h; exact absurd h h2
theorem pack_once {bs : List UInt8} (h : unpE bs = 0) : packE (allR bs).1 = 0 ∧ packB (allR bs).1 = bs := by
  obtain ⟨h1, h2, h3, h4⟩ := unpE_zero h
  have e := packB_of_all h3
  obtain ⟨h5, _, _, _⟩ := allR_back bs.length bs (Nat.le_refl _)
  refine ⟨?_, e⟩
  have h6 : 1 ≤ (allR bs).1.length := by
    cases hl : (allR bs).1 with
    | nil => rw [hl] at e; rw [← e] at h1; simp [packB] at h1
    | cons f r => simp
  rw [packE, firstE_of h5, if_neg (by omega), if_neg (by omega), e, if_neg (by omega)]
set_option maxRecDepth 100000 in
set_option maxHeartbeats 1000000 in
theorem frameOnce_walk {w : World} {A : Option Addr} {m c : Nat} {bs : List UInt8} (hb : Kd.byte.C w (fun b => b < w.heap.size) A bs) (hm : bs.length = m) (hmc : m ≤ c) :
    Calls Try.prog 10 #[.slice A m c] w fun e w' => e = .returned (.bool true) ∧ Chg nob w w' := by
  have HB := Lib.hid hb
  have HM := Lib.hid hm
  clear hb hm
  go_enter Try.func10, Try.ntmps10
  go_wp2_with fail
  refine (f_unpack HB.out HM.out hmc).mono ?_
  rintro e w2 ⟨hc2, ⟨he, rfl⟩ | ⟨he, L, n, cl, rfl, hn, hcl, hC⟩⟩
  · have hE0 : ((unpE bs : Int) == 0) = false := by simp; omega
    have HC2 := Lib.hid hc2
    obtain ⟨E, hE⟩ : ∃ E, unpE bs = E := ⟨_, rfl⟩
    rw [hE] at hE0 ⊢
    clear hc2 he hE
    go_wp2_with fail
    refine (frame_works _).mono ?_
    rintro e w9 ⟨rfl, hc9⟩
    have hfin := HC2.out.thenNew hc9
    clear hc9
    go_wp2
    go_ret
    exact ⟨rfl, hfin⟩
  · obtain ⟨hp, hq⟩ := pack_once he
    have HC2 := Lib.hid hc2
    have HC := Lib.hid hC
    have HN := Lib.hid hn
    have HQ := Lib.hid hq
    have HP := Lib.hid hp
    clear hc2 he hn hC hp hq
    go_wp2_with fail
    refine (f_pack HC.out HN.out).mono ?_
    rintro e w3 ⟨hc3, ⟨he, rfl⟩ | ⟨he, A2, n2, c2, rfl, hn2, hc22, hC3⟩⟩
    · exact absurd HP.out he
    rw [HQ.out] at hn2 hC3
    have hcv := conv_any hC3 hn2 c2
    have hcv2 := conv_any (Kd.C_new HB.out (HC2.out.thenNew hc3)) HM.out c
    have HC3 := Lib.hid (HC2.out.thenNew hc3)
    clear hc3 he hn2 hC3
    go_wp2_with fail
    refine (frame_works _).mono ?_
    rintro e w9 ⟨rfl, hc9⟩
    have hfin := HC3.out.thenNew hc9
    clear hc9
    go_wp2
    go_ret
    exact ⟨rfl, hfin⟩
set_option maxRecDepth 100000 in
set_option maxHeartbeats 1000000 in
theorem frameBack_walk {w : World} {A : Option Addr} {n c : Nat} {l : List Fr} (hx : frK.C w (fun b => b < w.heap.size) A l) (hn : l.length = n) :
    Calls Try.prog 9 #[.slice A n c] w fun e w' => e = .returned (.bool true) ∧ Chg nob w w' := by
  have HX := Lib.hid hx
  have HN := Lib.hid hn
  clear hx hn
  go_enter Try.func9, Try.ntmps9
  go_wp2_with fail
  refine (f_pack HX.out HN.out).mono ?_
  rintro e w2 ⟨hc2, ⟨he, rfl⟩ | ⟨he, A2, n2, c2, rfl, hn2, hc22, hC2⟩⟩
  · have hE0 : ((packE l : Int) == 0) = false := by simp; omega
    have HC2 := Lib.hid hc2
    obtain ⟨E, hE⟩ : ∃ E, packE l = E := ⟨_, rfl⟩
    rw [hE] at hE0 ⊢
    clear hc2 he hE
    go_wp2_with fail
    refine (frame_works _).mono ?_
    rintro e w9 ⟨rfl, hc9⟩
    have hfin := HC2.out.thenNew hc9
    clear hc9
    go_wp2
    go_ret
    exact ⟨rfl, hfin⟩
  · obtain ⟨hp, hq⟩ := pack_back he
    have HC2 := Lib.hid hc2
    have HC := Lib.hid hC2
    have HN2 := Lib.hid hn2
    have HQ := Lib.hid hq
    have HP := Lib.hid hp
    clear hc2 he hn2 hC2 hp hq
    go_wp2_with fail
    refine (f_unpack HC.out HN2.out hc22).mono ?_
    rintro e w3 ⟨hc3, ⟨he, rfl⟩ | ⟨he, L, n3, c3, rfl, hn3, hc33, hC3⟩⟩
    · exact absurd HP.out he
    rw [HQ.out] at hn3 hC3
    have HC3 := Lib.hid (HC2.out.thenNew hc3)
    have HL := Lib.hid hC3
    have HN3 := Lib.hid hn3
    clear hc3 he hn3 hC3
    go_wp2_with fail
    refine (fr_same (Kd.C_new HX.out HC3.out) HL.out HN.out HN3.out).mono ?_
    rintro e w4 ⟨rfl, hc4⟩
    rw [decide_eq_true (rfl : l = l)]
    have HC4 := Lib.hid (HC3.out.thenNew hc4)
    clear hc4
    go_wp2_with fail
    refine (frame_works _).mono ?_
    rintro e w9 ⟨rfl, hc9⟩
    have hfin := HC4.out.thenNew hc9
    clear hc9
    go_wp2
    go_ret
    exact ⟨rfl, hfin⟩
end Go.Proofs.Ytfaiehhmpmbcjaa
