/- Frames: the walks of FramePacks, FrameBack, FrameOnce. -/
import Derived.Test.YtmahjeafoogamaaFrameSame
namespace Go.Proofs.Ytmahjeafoogamaa
open Go.RowKit
set_option linter.unusedVariables false
set_option linter.unusedSimpArgs false
theorem packE_zero {l : List Fr} (h : packE l = 0) : (∀ f ∈ l, errF f = 0) ∧ 1 ≤ l.length ∧ l.length ≤ 32 ∧ (packB l).length ≤ 1400 := by
  unfold packE at h
  by_cases h1 : firstE l = 0
  · rw [if_neg (by omega)] at h
    by_cases h2 : l.length < 1 ∨ 32 < l.length
    · rw [if_pos h2] at h; cases h
    · rw [if_neg h2] at h
      by_cases h3 : 1400 < (packB l).length
      · rw [if_pos h3] at h; cases h
      · exact ⟨firstE_ok h1, by omega, by omega, by omega⟩
  · rw [if_pos h1] at h; exact absurd h h1
theorem pack_back {l : List Fr} (h : packE l = 0) : unpE (packB l) = 0 ∧ (allR (packB l)).1 = l := by
  obtain ⟨h1, h2, h3, h4⟩ := packE_zero h
  have e := allR_of_pack h1
  have h5 := packB_ge l
  refine ⟨?_, by rw [e]⟩
  rw [unpE, if_neg (by omega), e, if_neg (by simp), if_neg (by show ¬ 32 < l.length; omega)]
theorem unpE_zero {bs : List UInt8} (h : unpE bs = 0) : 1 ≤ bs.length ∧ bs.length ≤ 1400 ∧ (allR bs).2.2 = 0 ∧ (allR bs).1.length ≤ 32 := by
  unfold unpE at h
  by_cases h1 : bs.length < 1 ∨ 1400 < bs.length
  · rw [if_pos h1] at h; cases h
  · rw [if_neg h1] at h
    by_cases h2 : (allR bs).2.2 = 0
    · rw [if_neg (by omega)] at h
      by_cases h3 : 32 < (allR bs).1.length
      · rw [if_pos h3] at h; cases h
      · exact ⟨by omega, by omega, h2, by omega⟩
    · rw [if_pos h2] at h; exact absurd h h2
theorem pack_once {bs : List UInt8} (h : unpE bs = 0) : packE (allR bs).1 = 0 ∧ packB (allR bs).1 = bs := by
  obtain ⟨h1, h2, h3, h4⟩ := unpE_zero h
  have e := packB_of_all h3
  obtain ⟨h5, _, _, _⟩ := allR_back bs.length bs (Nat.le_refl _)
  refine ⟨?_, e⟩
  have h6 : 1 ≤ (allR bs).1.length := by
    cases hl : (allR bs).1 with
    | nil => rw [hl] at e; rw [← e] at h1; simp [packB] at h1
    | cons f r => simp
  rw [packE, firstE_of h5, if_neg (by omega), if_neg (by omega), e, if_neg (by omega)]
end Go.Proofs.Ytmahjeafoogamaa
