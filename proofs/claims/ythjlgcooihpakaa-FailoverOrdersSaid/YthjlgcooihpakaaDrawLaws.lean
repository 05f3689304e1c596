/- The draws' own laws. -/
import Derived.Test.YthjlgcooihpakaaDraw
namespace Go.Proofs.Ythjlgcooihpakaa
open Go.RowKit
set_option linter.unusedVariables false

theorem C_lit (k : IntKind) (w : World) (xs : List Int) (cs : Array Value) (e : TypeId) (h : cs.toList = xs.map (Value.int k)) (hl : xs.length ≤ 9223372036854775807) : (Kd.int k).C (w.alloc (.cells cs e)) (fun b => b = w.heap.size) (some ⟨w.heap.size, 0, none⟩) xs :=
  ⟨hl, xs.map (Value.int k), reps_of_scalar xs, fun _ => ⟨_, rfl, rfl, fun j u hu => World.news_of_block (heap_alloc_new w _) j u (h ▸ hu)⟩⟩

theorem drawAdv_01 (xs : List Int) (k : Nat) (m : Int) : drawAdv xs k m = 0 ∨ (drawAdv xs k m = 1 ∧ k < xs.length) := by
  by_cases h : m < 2 ∨ xs.length ≤ k
  · exact .inl (drawAdv_small h)
  · exact .inr ⟨drawAdv_big h, by omega⟩
end Go.Proofs.Ythjlgcooihpakaa
