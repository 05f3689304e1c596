/- Upstreams as arguments, as they are read; the law FailoverResolves of what is read. -/
import Derived.Test.YthjlgcooihpakaaApiRow
import Derived.Test.YthjlgcooihpakaaFoResolves
namespace Go.Proofs.Ythjlgcooihpakaa
open Go.RowKit
set_option linter.unusedVariables false
abbrev upW : Kd (List ByteArray × ByteArray × Int) := Kd.pair tagsW (Kd.pair strW (intW .i64))
theorem up_arg {w : World} {ok : Nat → Prop} {x : List ByteArray × ByteArray × Int} {cs : Array Value} (h : upW.K w ok x cs.toList) : ∃ T c, cs = #[.slice T x.1.length c, .string x.2.1, .int .i64 x.2.2] ∧ strK.C w ok T x.1 ∧ x.1.length ≤ c ∧ (∀ s ∈ x.1, s.size ≤ 9223372036854775807) ∧ x.2.1.size ≤ 9223372036854775807 := by
  obtain ⟨c0, _, e, ⟨⟨T, c, rfl, hl, hC⟩, _⟩, c1, c2, rfl, ⟨h1, hs⟩, ⟨h2, _⟩⟩ := h
  have h1' : c1 = [.string x.2.1] := h1
  have h2' : c2 = [.int .i64 x.2.2] := h2
  subst h1' h2'
  refine ⟨T, c, ?_, str_le.C hC, hl, fun s hm => by have := (Kd.C_all hC).2 s hm; omega, by omega⟩
  cases cs
  simpa using e
theorem foResolves_row {w : World} {x : List ByteArray × ByteArray × Int} {cs : Array Value} (h : upW.K w (fun b => b < w.heap.size) x cs.toList) {B : Option Addr} {lc : Nat} {ls : List Ans} (hL : ansW.C w (fun b => b < w.heap.size) B ls) :
    Calls Try.prog 4 #[.agg cs, .slice B ls.length lc] w fun e w' => e = .returned (.bool true) ∧ Chg nob w w' := by
  obtain ⟨T, c, rfl, hT, hl, hs, ht⟩ := up_arg h
  exact foResolves_walk hT (ans_le.C hL) rfl rfl hl hs ht (fun b hb => hb) (fun b hb => hb)
end Go.Proofs.Ythjlgcooihpakaa
