import Derived.Test.YtcibdcahcpcmaaaFold17
/- The seal: what a call of half does, at each of its four places. -/
namespace Go.Proofs.Ytcibdcahcpcmaaa
open Go.RowKit
set_option maxRecDepth 100000
set_option linter.unusedVariables false
set_option linter.unusedSimpArgs false
theorem half01 {w : World} {g : Nat} {v : V4} (h : FourAt w g v) :
    Calls Try.prog 91 #[.pointer (some ⟨g, 0, none⟩), .int .i64 0, .int .i64 1, .int .u64 13] w fun e w' => e = .returned (.tuple #[]) ∧ FourAt w' g (halfA v.1 v.2.1, halfB 13 v.1 v.2.1, v.2.2.1, v.2.2.2) ∧ Chg (fun b => b = g) w w' := by
  obtain ⟨c0, c1, c2, c3⟩ := h.drew.cells
  have f0 := h.drew.loose 0
  have HC : Hid (Chg (fun b => b = g) w w.drew) := (Chg.refl _ _).drew
  have HH := Lib.hid h.drew
  clear h
  go_enter Try.func91, Try.ntmps91
  go_wp2
  go_still_tail 13, (by kernel_rfl)
  change wpList _ _ _ _ _ w.drew
  generalize w.drew = w2 at c0 c1 c2 c3 f0 HC HH ⊢
  go_wp2
  rw [show IntKind.u64.wrap ((v.1 : Int) + (v.2.1 : Int)) = ((halfA v.1 v.2.1 : Nat) : Int) from wrap_add _ _]
  have h3 := (HH.out.set0 (halfA_lt v.1 v.2.1))
  have HC2 : Hid (Chg (fun b => b = g) w (w2.setCell ⟨g, 0, none⟩ (.int .u64 (halfA v.1 v.2.1)))) := Chg.set1 HC.out _ _
  generalize w2.setCell ⟨g, 0, none⟩ (.int .u64 (halfA v.1 v.2.1)) = w3 at HC2 h3 ⊢
  obtain ⟨d0, d1, d2, d3⟩ := h3.drew.cells
  have f1 := h3.drew.loose 1
  have HC3 : Hid (Chg (fun b => b = g) w w3.drew) := HC2.out.drew
  have HH3 := Lib.hid h3.drew
  have HS := Lib.hid h3.s
  clear c0 c1 c2 c3 f0 HH HC h3 HC2
  simp only at d0 d1 d2 d3
  go_still_tail 17, (by kernel_rfl)
  still_call (s_turned _ HS.out.2.1 13 (by decide) (by decide))
  repeat still_step
  refine wpStill_nil ?_
  change wpList _ _ _ _ _ w3.drew
  generalize w3.drew = w4 at d0 d1 d2 d3 f1 HC3 HH3 ⊢
  go_wp2
  rw [show bits .xor .u64 ((rot 13 v.2.1 : Nat) : Int) ((halfA v.1 v.2.1 : Nat) : Int) = ((halfB 13 v.1 v.2.1 : Nat) : Int) from xor_half (by decide) HS.out.2.1]
  go_returns
  exact ⟨rfl, HH3.out.set1 (halfB_lt (by decide) HS.out.2.1), Chg.set1 HC3.out _ _⟩
theorem half23 {w : World} {g : Nat} {v : V4} (h : FourAt w g v) :
    Calls Try.prog 91 #[.pointer (some ⟨g, 0, none⟩), .int .i64 2, .int .i64 3, .int .u64 16] w fun e w' => e = .returned (.tuple #[]) ∧ FourAt w' g (v.1, v.2.1, halfA v.2.2.1 v.2.2.2, halfB 16 v.2.2.1 v.2.2.2) ∧ Chg (fun b => b = g) w w' := by
  obtain ⟨c0, c1, c2, c3⟩ := h.drew.cells
  have f0 := h.drew.loose 2
  have HC : Hid (Chg (fun b => b = g) w w.drew) := (Chg.refl _ _).drew
  have HH := Lib.hid h.drew
  clear h
  go_enter Try.func91, Try.ntmps91
  go_wp2
  go_still_tail 13, (by kernel_rfl)
  change wpList _ _ _ _ _ w.drew
  generalize w.drew = w2 at c0 c1 c2 c3 f0 HC HH ⊢
  go_wp2
  rw [show IntKind.u64.wrap ((v.2.2.1 : Int) + (v.2.2.2 : Int)) = ((halfA v.2.2.1 v.2.2.2 : Nat) : Int) from wrap_add _ _]
  have h3 := (HH.out.set2 (halfA_lt v.2.2.1 v.2.2.2))
  have HC2 : Hid (Chg (fun b => b = g) w (w2.setCell ⟨g, 2, none⟩ (.int .u64 (halfA v.2.2.1 v.2.2.2)))) := Chg.set1 HC.out _ _
  generalize w2.setCell ⟨g, 2, none⟩ (.int .u64 (halfA v.2.2.1 v.2.2.2)) = w3 at HC2 h3 ⊢
  obtain ⟨d0, d1, d2, d3⟩ := h3.drew.cells
  have f1 := h3.drew.loose 3
  have HC3 : Hid (Chg (fun b => b = g) w w3.drew) := HC2.out.drew
  have HH3 := Lib.hid h3.drew
  have HS := Lib.hid h3.s
  clear c0 c1 c2 c3 f0 HH HC h3 HC2
  simp only at d0 d1 d2 d3
  go_still_tail 17, (by kernel_rfl)
  still_call (s_turned _ HS.out.2.2.2 16 (by decide) (by decide))
  repeat still_step
  refine wpStill_nil ?_
  change wpList _ _ _ _ _ w3.drew
  generalize w3.drew = w4 at d0 d1 d2 d3 f1 HC3 HH3 ⊢
  go_wp2
  rw [show bits .xor .u64 ((rot 16 v.2.2.2 : Nat) : Int) ((halfA v.2.2.1 v.2.2.2 : Nat) : Int) = ((halfB 16 v.2.2.1 v.2.2.2 : Nat) : Int) from xor_half (by decide) HS.out.2.2.2]
  go_returns
  exact ⟨rfl, HH3.out.set3 (halfB_lt (by decide) HS.out.2.2.2), Chg.set1 HC3.out _ _⟩
theorem half03 {w : World} {g : Nat} {v : V4} (h : FourAt w g v) :
    Calls Try.prog 91 #[.pointer (some ⟨g, 0, none⟩), .int .i64 0, .int .i64 3, .int .u64 21] w fun e w' => e = .returned (.tuple #[]) ∧ FourAt w' g (halfA v.1 v.2.2.2, v.2.1, v.2.2.1, halfB 21 v.1 v.2.2.2) ∧ Chg (fun b => b = g) w w' := by
  obtain ⟨c0, c1, c2, c3⟩ := h.drew.cells
  have f0 := h.drew.loose 0
  have HC : Hid (Chg (fun b => b = g) w w.drew) := (Chg.refl _ _).drew
  have HH := Lib.hid h.drew
  clear h
  go_enter Try.func91, Try.ntmps91
  go_wp2
  go_still_tail 13, (by kernel_rfl)
  change wpList _ _ _ _ _ w.drew
  generalize w.drew = w2 at c0 c1 c2 c3 f0 HC HH ⊢
  go_wp2
  rw [show IntKind.u64.wrap ((v.1 : Int) + (v.2.2.2 : Int)) = ((halfA v.1 v.2.2.2 : Nat) : Int) from wrap_add _ _]
  have h3 := (HH.out.set0 (halfA_lt v.1 v.2.2.2))
  have HC2 : Hid (Chg (fun b => b = g) w (w2.setCell ⟨g, 0, none⟩ (.int .u64 (halfA v.1 v.2.2.2)))) := Chg.set1 HC.out _ _
  generalize w2.setCell ⟨g, 0, none⟩ (.int .u64 (halfA v.1 v.2.2.2)) = w3 at HC2 h3 ⊢
  obtain ⟨d0, d1, d2, d3⟩ := h3.drew.cells
  have f1 := h3.drew.loose 3
  have HC3 : Hid (Chg (fun b => b = g) w w3.drew) := HC2.out.drew
  have HH3 := Lib.hid h3.drew
  have HS := Lib.hid h3.s
  clear c0 c1 c2 c3 f0 HH HC h3 HC2
  simp only at d0 d1 d2 d3
  go_still_tail 17, (by kernel_rfl)
  still_call (s_turned _ HS.out.2.2.2 21 (by decide) (by decide))
  repeat still_step
  refine wpStill_nil ?_
  change wpList _ _ _ _ _ w3.drew
  generalize w3.drew = w4 at d0 d1 d2 d3 f1 HC3 HH3 ⊢
  go_wp2
  rw [show bits .xor .u64 ((rot 21 v.2.2.2 : Nat) : Int) ((halfA v.1 v.2.2.2 : Nat) : Int) = ((halfB 21 v.1 v.2.2.2 : Nat) : Int) from xor_half (by decide) HS.out.2.2.2]
  go_returns
  exact ⟨rfl, HH3.out.set3 (halfB_lt (by decide) HS.out.2.2.2), Chg.set1 HC3.out _ _⟩
theorem half21 {w : World} {g : Nat} {v : V4} (h : FourAt w g v) :
    Calls Try.prog 91 #[.pointer (some ⟨g, 0, none⟩), .int .i64 2, .int .i64 1, .int .u64 17] w fun e w' => e = .returned (.tuple #[]) ∧ FourAt w' g (v.1, halfB 17 v.2.2.1 v.2.1, halfA v.2.2.1 v.2.1, v.2.2.2) ∧ Chg (fun b => b = g) w w' := by
  obtain ⟨c0, c1, c2, c3⟩ := h.drew.cells
  have f0 := h.drew.loose 2
  have HC : Hid (Chg (fun b => b = g) w w.drew) := (Chg.refl _ _).drew
  have HH := Lib.hid h.drew
  clear h
  go_enter Try.func91, Try.ntmps91
  go_wp2
  go_still_tail 13, (by kernel_rfl)
  change wpList _ _ _ _ _ w.drew
  generalize w.drew = w2 at c0 c1 c2 c3 f0 HC HH ⊢
  go_wp2
  rw [show IntKind.u64.wrap ((v.2.2.1 : Int) + (v.2.1 : Int)) = ((halfA v.2.2.1 v.2.1 : Nat) : Int) from wrap_add _ _]
  have h3 := (HH.out.set2 (halfA_lt v.2.2.1 v.2.1))
  have HC2 : Hid (Chg (fun b => b = g) w (w2.setCell ⟨g, 2, none⟩ (.int .u64 (halfA v.2.2.1 v.2.1)))) := Chg.set1 HC.out _ _
  generalize w2.setCell ⟨g, 2, none⟩ (.int .u64 (halfA v.2.2.1 v.2.1)) = w3 at HC2 h3 ⊢
  obtain ⟨d0, d1, d2, d3⟩ := h3.drew.cells
  have f1 := h3.drew.loose 1
  have HC3 : Hid (Chg (fun b => b = g) w w3.drew) := HC2.out.drew
  have HH3 := Lib.hid h3.drew
  have HS := Lib.hid h3.s
  clear c0 c1 c2 c3 f0 HH HC h3 HC2
  simp only at d0 d1 d2 d3
  go_still_tail 17, (by kernel_rfl)
  still_call (s_turned _ HS.out.2.1 17 (by decide) (by decide))
  repeat still_step
  refine wpStill_nil ?_
  change wpList _ _ _ _ _ w3.drew
  generalize w3.drew = w4 at d0 d1 d2 d3 f1 HC3 HH3 ⊢
  go_wp2
  rw [show bits .xor .u64 ((rot 17 v.2.1 : Nat) : Int) ((halfA v.2.2.1 v.2.1 : Nat) : Int) = ((halfB 17 v.2.2.1 v.2.1 : Nat) : Int) from xor_half (by decide) HS.out.2.1]
  go_returns
  exact ⟨rfl, HH3.out.set1 (halfB_lt (by decide) HS.out.2.1), Chg.set1 HC3.out _ _⟩
end Go.Proofs.Ytcibdcahcpcmaaa
