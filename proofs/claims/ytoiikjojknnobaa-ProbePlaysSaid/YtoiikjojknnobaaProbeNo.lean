/- A ring that is not there, and one that no call made: what its calls leave. -/
import Derived.Test.YtoiikjojknnobaaProbeOth
namespace Go.Proofs.Ytoiikjojknnobaa
open Go.RowKit
set_option linter.unusedVariables false
set_option linter.unusedSimpArgs false
theorem NoRing.new {w w' : World} {q : Option Addr} (h : NoRing w q) (hc : Chg nob w w') : NoRing w' q := by
  rcases h with rfl | ⟨g, rfl, h⟩
  · exact .inl rfl
  · exact .inr ⟨g, rfl, hc.heap h (not_nob _)⟩
theorem no_add {w : World} {q p : Option Addr} (h : NoRing w q) (node : Int) : Calls Try.prog 10 #[.pointer q, .int .i64 node, .pointer p] w fun e w' => e = .returned (.bool false) ∧ w' = w := by
  have HI := Lib.hid h
  clear h
  go_enter Try.func10, Try.ntmps10
  go_wp2_with fail
  refine (no_none HI.out).mono ?_
  rintro e w' ⟨rfl, rfl⟩
  go_wp2
  go_ret
  exact ⟨rfl, rfl⟩
theorem no_remove {w : World} {q : Option Addr} (h : NoRing w q) (node : Int) : Calls Try.prog 18 #[.pointer q, .int .i64 node] w fun e w' => e = .returned (.bool false) ∧ w' = w := by
  have HI := Lib.hid h
  clear h
  go_enter Try.func18, Try.ntmps18
  go_wp2_with fail
  refine (no_none HI.out).mono ?_
  rintro e w' ⟨rfl, rfl⟩
  go_wp2
  go_ret
  exact ⟨rfl, rfl⟩
theorem no_others {w : World} {q p L : Option Addr} {n c : Nat} (h : NoRing w q) (but many : Int) : Calls Try.prog 15 #[.pointer q, .slice L n c, .int .i64 but, .int .i64 many, .pointer p] w fun e w' => e = .returned (.slice none 0 0) ∧ w' = w := by
  have HI := Lib.hid h
  clear h
  go_enter Try.func15, Try.ntmps15
  go_wp2_with fail
  refine (no_none HI.out).mono ?_
  rintro e w' ⟨rfl, rfl⟩
  go_wp2
  go_ret
  exact ⟨rfl, rfl⟩
theorem no_next {w : World} {q p L : Option Addr} {n c : Nat} (h : NoRing w q) : Calls Try.prog 11 #[.pointer q, .slice L n c, .pointer p] w fun e w' => e = .returned (.tuple #[.int .i64 0, .bool false]) ∧ Chg nob w w' := by
  have HI := Lib.hid h
  clear h
  go_enter Try.func11, Try.ntmps11
  go_wp2_with fail
  have hc1 : Chg nob w ((w.alloc (.cells #[.pointer q] 24)).alloc (.cells #[.slice L n c] 28)) := ((Chg.refl _ _).alloc _).alloc _
  obtain ⟨w1, hw1⟩ : ∃ w1, w1 = (w.alloc (.cells #[.pointer q] 24)).alloc (.cells #[.slice L n c] 28) := ⟨_, rfl⟩
  rw [← hw1] at hc1 ⊢
  have hb1 : w1.cell? ⟨w.heap.size, 0, none⟩ = some (.pointer q) := by rw [hw1]; simp [go_sem]
  have HC1 := Lib.hid hc1
  have HI1 := Lib.hid (HI.out.new hc1)
  clear hw1 hc1
  go_step3
  go_wp2_with fail
  refine (no_none HI1.out).mono ?_
  rintro e w1 ⟨rfl, rfl⟩
  go_wp2
  try rw [Exit.noGoto_ret]
  go_ret2
  exact ⟨rfl, HC1.out⟩
end Go.Proofs.Ytoiikjojknnobaa
