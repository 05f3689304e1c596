/- The seal's laws: the published sum. -/
import Derived.Test.YtpfibgfajobmaaaSealSum
namespace Go.Proofs.Ytpfibgfajobmaaa
open Go.RowKit
set_option linter.unusedVariables false
theorem seal_works (w : World) : Calls Try.prog 8 #[] w fun e w' => e = .returned (.bool true) ∧ Chg nob w w' := by
  have HV : Hid (sumN 506097522914230528 1084818905618843912 [0, 1, 2, 3, 4, 5, 6, 7, 8, 9, 10, 11, 12, 13, 14] = 11613035633349379557) := by show _ = _; decide +kernel
  have hB : Kd.byte.C (w.alloc (.cells #[.int .u8 0, .int .u8 1, .int .u8 2, .int .u8 3, .int .u8 4, .int .u8 5, .int .u8 6, .int .u8 7, .int .u8 8, .int .u8 9, .int .u8 10, .int .u8 11, .int .u8 12, .int .u8 13, .int .u8 14] 5)) (fun b => b = w.heap.size) (some ⟨w.heap.size, 0, none⟩) [0, 1, 2, 3, 4, 5, 6, 7, 8, 9, 10, 11, 12, 13, 14] :=
    C_block (heap_alloc_new w _) (by simp [encB]) (by decide)
  have hc1 : Chg nob w (w.alloc (.cells #[.int .u8 0, .int .u8 1, .int .u8 2, .int .u8 3, .int .u8 4, .int .u8 5, .int .u8 6, .int .u8 7, .int .u8 8, .int .u8 9, .int .u8 10, .int .u8 11, .int .u8 12, .int .u8 13, .int .u8 14] 5)) := (Chg.refl _ _).alloc _
  have hs1 : w.heap.size < (w.alloc (.cells #[.int .u8 0, .int .u8 1, .int .u8 2, .int .u8 3, .int .u8 4, .int .u8 5, .int .u8 6, .int .u8 7, .int .u8 8, .int .u8 9, .int .u8 10, .int .u8 11, .int .u8 12, .int .u8 13, .int .u8 14] 5)).heap.size := by simp
  go_enter Try.func8, Try.ntmps8
  go_wp2_with fail
  refine (s_sum (k0 := 506097522914230528) (k1 := 1084818905618843912) (by decide) (by decide) hB (fun b hb => by rw [show b = w.heap.size from hb]; exact hs1) rfl (Nat.le_refl _)).mono ?_
  rintro e w2 ⟨rfl, hc2⟩
  have hc3 := hc1.thenNew hc2
  rw [HV.out]
  clear hB hc1 hc2 hs1 HV
  go_wp2
  go_ret
  exact ⟨rfl, hc3⟩
end Go.Proofs.Ytpfibgfajobmaaa
