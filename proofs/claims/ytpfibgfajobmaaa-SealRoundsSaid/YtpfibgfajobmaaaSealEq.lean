/- Two arrays of four numbers are compared. -/
import Derived.Test.YtpfibgfajobmaaaSealSum
import Derived.Laws.StructEq
namespace Go.Proofs.Ytpfibgfajobmaaa
open Go.RowKit
set_option linter.unusedVariables false
theorem eq4 (a b : V4) (w : World) : (Op.equalIn 10000 23 (.agg #[.int .u64 a.1, .int .u64 a.2.1, .int .u64 a.2.2.1, .int .u64 a.2.2.2]) (.agg #[.int .u64 b.1, .int .u64 b.2.1, .int .u64 b.2.2.1, .int .u64 b.2.2.2])).run Try.prog w = .ok (decide (a = b)) w := by
  have u3 := Try.underlying22
  have a3 := Try.isAgg22
  have z3 := Try.sizeOf22
  obtain ⟨a1, a2, a3, a4⟩ := a
  obtain ⟨b1, b2, b3, b4⟩ := b
  rw [show (10000 : Nat) = 9999 + 1 from rfl, Op.equalIn]
  simp only [Sem.run_bind, run_underlying Try.underlying23, Result.andThen_ok]
  simp only [Std.Legacy.Range.forIn_eq_forIn_range', Std.Legacy.Range.size, Nat.sub_zero, Nat.add_sub_cancel, Nat.div_one, List.range'_succ, List.range'_zero, List.forIn_cons, List.forIn_nil]
  go_simp
  have e : ∀ x y : Nat, ((x : Int) = (y : Int)) = (x = y) := fun x y => propext ⟨fun h => by omega, fun h => by omega⟩
  simp only [e]
  by_cases h1 : a1 = b1
  · by_cases h2 : a2 = b2
    · by_cases h3 : a3 = b3
      · by_cases h4 : a4 = b4 <;> simp [h1, h2, h3, h4]
      · simp [h1, h2, h3]
    · simp [h1, h2]
  · simp [h1]
theorem eq4b (a b : V4) : ∃ p : Bool, (p = true ↔ a = b) ∧ ∀ w : World, (Op.equalIn 10000 23 (.agg #[.int .u64 a.1, .int .u64 a.2.1, .int .u64 a.2.2.1, .int .u64 a.2.2.2]) (.agg #[.int .u64 b.1, .int .u64 b.2.1, .int .u64 b.2.2.1, .int .u64 b.2.2.2])).run Try.prog w = .ok p w :=
  ⟨decide (a = b), by simp, fun w => eq4 a b w⟩
end Go.Proofs.Ytpfibgfajobmaaa
