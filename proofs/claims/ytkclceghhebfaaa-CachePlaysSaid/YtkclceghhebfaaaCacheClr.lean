/- What a call of Clear leaves. -/
import Derived.Test.YtkclceghhebfaaaCacheIdx
namespace Go.Proofs.Ytkclceghhebfaaa
open Go.RowKit
set_option linter.unusedVariables false
set_option linter.unusedSimpArgs false
set_option maxHeartbeats 1000000 in
theorem ca_clear {w : World} {own av : Nat → Prop} {c : Nat} {l : Known} (h : CSt w own av c l) :
    Calls Try.prog 12 #[.pointer (some ⟨c, 0, none⟩)] w fun e w' => e = .returned (.tuple #[]) ∧ CSt w' own av c [] ∧ Chg own w w' := by
  have HI := Lib.hid h
  clear h
  go_enter Try.func12, Try.ntmps12
  go_wp2_with fail
  refine (ca_none HI.out).mono ?_
  rintro e w' ⟨rfl, hww⟩
  subst hww
  obtain ⟨r, O, oc, m, h1, o1, o2, hcr, hM, hE, hR, hown⟩ := HI.out.ex
  obtain ⟨c0, c1, hf⟩ := row2 h1
  have hf1 := hf 1
  obtain ⟨w2, hrun, hM2, hc2, hsz⟩ := run_clearQ hM 0
  have h2 := hc2.heap h1 hcr
  obtain ⟨d0, d1, hg⟩ := row2 h2
  have hg1 := hg 1
  have HEND : Hid (CSt (w2.setCell ⟨c, 1, none⟩ (.slice none 0 0)) own av c [] ∧ Chg own w' (w2.setCell ⟨c, 1, none⟩ (.slice none 0 0))) := by
    refine ⟨⟨r, none, 0, [], ?_, o1, o2, hcr, hM2.keep ((Chg.refl (fun b => b = c) w2).set1 1 _) (fun e => hcr e.symm), trivial, Kd.R_nil _ _ _ _ _, fun k hk => by cases hk⟩, ?_⟩
    · have := blk_set h2 1 (.slice none 0 0)
      simpa using this
    · exact (hc2.mono (fun b hb => .inl (by rw [show b = r from hb]; exact o2))).setCell (p := ⟨c, 1, none⟩) (.inl o1) _
  clear hf hg
  go_wp2
  go_end0
  exact ⟨rfl, HEND.out.1, HEND.out.2⟩
end Go.Proofs.Ytkclceghhebfaaa
