/- Tokens: the closures' row is indexed. -/
import Derived.Test.YtbgnplgdknbmoaaTokenSteps
namespace Go.Proofs.Ytbgnplgdknbmoaa
open Go.RowKit
theorem idx6_0 (f0 f1 f2 f3 f4 f5 : Fn) (a0 a1 a2 a3 a4 a5 b0 b1 b2 b3 b4 b5 : Array Value) (wx : World) :
    (Instr.index 57 (.agg #[.func f0 a0 b0, .func f1 a1 b1, .func f2 a2 b2, .func f3 a3 b3, .func f4 a4 b4, .func f5 a5 b5]) (.int .i64 0)).run Try.prog wx = .ok (.func f0 a0 b0) wx := by
  have u := Try.underlying57
  have z := Try.sizeOf32
  have g := Try.isAgg32
  simp [Instr.index, run_underlying u, asIntOf, go_sem, part, z, g]
theorem idx6_1 (f0 f1 f2 f3 f4 f5 : Fn) (a0 a1 a2 a3 a4 a5 b0 b1 b2 b3 b4 b5 : Array Value) (wx : World) :
    (Instr.index 57 (.agg #[.func f0 a0 b0, .func f1 a1 b1, .func f2 a2 b2, .func f3 a3 b3, .func f4 a4 b4, .func f5 a5 b5]) (.int .i64 1)).run Try.prog wx = .ok (.func f1 a1 b1) wx := by
  have u := Try.underlying57
  have z := Try.sizeOf32
  have g := Try.isAgg32
  simp [Instr.index, run_underlying u, asIntOf, go_sem, part, z, g]
theorem idx6_2 (f0 f1 f2 f3 f4 f5 : Fn) (a0 a1 a2 a3 a4 a5 b0 b1 b2 b3 b4 b5 : Array Value) (wx : World) :
    (Instr.index 57 (.agg #[.func f0 a0 b0, .func f1 a1 b1, .func f2 a2 b2, .func f3 a3 b3, .func f4 a4 b4, .func f5 a5 b5]) (.int .i64 2)).run Try.prog wx = .ok (.func f2 a2 b2) wx := by
  have u := Try.underlying57
  have z := Try.sizeOf32
  have g := Try.isAgg32
  simp [Instr.index, run_underlying u, asIntOf, go_sem, part, z, g]
theorem idx6_3 (f0 f1 f2 f3 f4 f5 : Fn) (a0 a1 a2 a3 a4 a5 b0 b1 b2 b3 b4 b5 : Array Value) (wx : World) :
    (Instr.index 57 (.agg #[.func f0 a0 b0, .func f1 a1 b1, .func f2 a2 b2, .func f3 a3 b3, .func f4 a4 b4, .func f5 a5 b5]) (.int .i64 3)).run Try.prog wx = .ok (.func f3 a3 b3) wx := by
  have u := Try.underlying57
  have z := Try.sizeOf32
  have g := Try.isAgg32
  simp [Instr.index, run_underlying u, asIntOf, go_sem, part, z, g]
theorem idx6_4 (f0 f1 f2 f3 f4 f5 : Fn) (a0 a1 a2 a3 a4 a5 b0 b1 b2 b3 b4 b5 : Array Value) (wx : World) :
    (Instr.index 57 (.agg #[.func f0 a0 b0, .func f1 a1 b1, .func f2 a2 b2, .func f3 a3 b3, .func f4 a4 b4, .func f5 a5 b5]) (.int .i64 4)).run Try.prog wx = .ok (.func f4 a4 b4) wx := by
  have u := Try.underlying57
  have z := Try.sizeOf32
  have g := Try.isAgg32
  simp [Instr.index, run_underlying u, asIntOf, go_sem, part, z, g]
theorem idx6_5 (f0 f1 f2 f3 f4 f5 : Fn) (a0 a1 a2 a3 a4 a5 b0 b1 b2 b3 b4 b5 : Array Value) (wx : World) :
    (Instr.index 57 (.agg #[.func f0 a0 b0, .func f1 a1 b1, .func f2 a2 b2, .func f3 a3 b3, .func f4 a4 b4, .func f5 a5 b5]) (.int .i64 5)).run Try.prog wx = .ok (.func f5 a5 b5) wx := by
  have u := Try.underlying57
  have z := Try.sizeOf32
  have g := Try.isAgg32
  simp [Instr.index, run_underlying u, asIntOf, go_sem, part, z, g]
end Go.Proofs.Ytbgnplgdknbmoaa
