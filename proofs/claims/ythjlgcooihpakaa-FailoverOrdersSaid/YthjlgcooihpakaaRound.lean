/- Regions of open order within a round. -/
import Derived.Test.YthjlgcooihpakaaRange
import Derived.OrdersIn
import Derived.BigQuiet
namespace Go.Proofs.Ythjlgcooihpakaa
open Go.RowKit
set_option linter.unusedVariables false
theorem opIn_of_op {P : Program} {l : Nat} {ops : Array Oper} {Q : Exit → Act → World → Prop} (hd : noDefer ops.toList = true) {i : Nat} {K : Act → World → Prop} {a : Act} {w : World} (h : wpOp P ops (noOut Q) i K a w) : wpOpIn (Fence.wide.inRound l) 0 P ops Q i K a w := by
  unfold wpOp at h
  unfold wpOpIn
  cases ho : ops[i]? with
  | none => rw [ho] at h; exact h
  | some o =>
    rw [ho] at h
    simp only at h ⊢
    have hmem : o ∈ ops.toList := by
      obtain ⟨hi, he⟩ := Array.getElem?_eq_some_iff.1 ho
      rw [← he]
      exact Array.getElem_mem_toList hi
    split
    · next hw =>
      rw [if_pos hw] at h
      rcases h with h | ⟨_, h⟩
      · exact wpIn_of_wp (noDefer_out hd o hmem) h
      · exact (noOut_no Q h).elim
    · next hw =>
      rw [if_neg hw] at h
      exact ⟨fun _ _ => trivial, h⟩
theorem anyIn_of_any {P : Program} {md : Region.Mode} {l : Nat} {ops : Array Oper} {Q : Exit → Act → World → Prop} (hd : noDefer ops.toList = true) : ∀ (fuel : Nat) {listed : Array Bool} {a : Act} {w : World}, wpAny P md ops (noOut Q) fuel listed a w → wpAnyIn (Fence.wide.inRound l) 0 P md ops Q fuel listed a w
  | 0, _, _, _, h => h
  | fuel + 1, _, _, _, h => ⟨h.1, fun i hi => wpOpIn_mono (fun a' w' h' => anyIn_of_any hd fuel h') (opIn_of_op hd (h.2 i hi))⟩
/-- A region of open order within a round. -/
theorem round_any {P : Program} {l id : Nat} {ops : Array Oper} {Q : Exit → Act → World → Prop} {a : Act} {w : World} (hm : P.follows .mixedOrders = true) (hd : noDefer ops.toList = true)
    (h : wpAny P .any ops (noOut Q) ops.size (Array.replicate ops.size false) a { w with drawn := w.drawn + 1 }) : (Code.region id ops true).wpIn (Fence.wide.inRound l) 0 P Q a w :=
  wpIn_region_any hm (anyIn_of_any hd _ h)
theorem round_quiet_lit {P : Program} {r id : Nat} {Q : Exit → Act → World → Prop} {a : Act} {w : World} {l : List Oper} (hm : P.follows .mixedOrders = true) (hB : Region.lexB .any l.toArray = true) (hd : noDefer l = true)
    (h : wpQuiet P l.toArray (fun w' => ∃ n, w' = w.drewN n) (fun a' => ∀ w', (∃ n, w' = w.drewN n) → Q .normal a' w') l a) : (Code.region id l.toArray true).wpIn (Fence.wide.inRound r) 0 P Q a w := by
  refine round_any hm (by simpa using hd) ?_
  simp only [Region.lexB, Bool.and_eq_true] at hB
  show wpAny P .any l.toArray (noOut Q) l.toArray.size (Array.replicate l.toArray.size false) a (w.drewN 1)
  refine wpAny_of_quiet (Q' := noOut Q) (C := fun w' => ∃ n, w' = w.drewN n) (Q := fun a' => ∀ w', (∃ n, w' = w.drewN n) → Q .normal a' w') (fun _ w' hw' h => h w' hw') _ _ _ _ ⟨1, rfl⟩ ?_
  have := wpAnyQ_lex (C := fun w' => ∃ n, w' = w.drewN n) (md := .any) (P := P) hB.1 l.toArray.toList 0 (Array.replicate l.toArray.size false) a (by simp) (by simpa using hB.2) (by simpa using h)
  simpa using this
end Go.Proofs.Ythjlgcooihpakaa
