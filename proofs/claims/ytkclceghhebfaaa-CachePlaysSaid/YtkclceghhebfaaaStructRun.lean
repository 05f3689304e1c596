/- Structs of many cells: a load and a store of the whole, by ranges (no unrolling). -/
import Derived.Test.YtkclceghhebfaaaKit
import Derived.Deep.MidRow
namespace Go.Proofs.Ytkclceghhebfaaa
open Go.RowKit
set_option linter.unusedVariables false
set_option linter.unusedSimpArgs false
theorem rng_row {w : World} {g t : Nat} {cs : Array Value} {fr : Nat × Nat} (h : w.heap[g]? = some (.cells cs t fr)) : w.rangeAt g 0 cs.toList := fun j v hv => by
  rw [Nat.zero_add, cell_of_row _ _ _ _ _ _ h, ← hv, Array.getElem?_toList]
theorem there_row {w : World} {g t : Nat} {cs : Array Value} (h : w.heap[g]? = some (.cells cs t (0, 0))) : w.there g 0 cs.size := fun j hj => by
  rw [Nat.zero_add]
  exact ⟨by rw [cell_of_row _ _ _ _ _ _ h, Array.getElem?_eq_getElem hj]; rfl, by simp [World.frozen?, h]⟩
theorem rng_chg {w w' : World} {b o : Nat} {cs : List Value} {S : Nat → Prop} (h : w.rangeAt b o cs) (hc : Chg S w w') (hb : ¬ S b) : w'.rangeAt b o cs := fun j v hv => hc.cell (h j v hv) hb
theorem rng_part {w : World} {b o : Nat} {cs : List Value} (h : w.rangeAt b o cs) (n m : Nat) : w.rangeAt b (o + n) ((cs.drop n).take m) := fun j v hv => by
  rw [List.getElem?_take] at hv
  split at hv
  · rw [List.getElem?_drop] at hv
    rw [Nat.add_assoc]
    exact h _ v hv
  · cases hv
theorem chg_setCells {g : Nat} : ∀ (vs : List Value) (o : Nat) (w : World), Chg (fun b => b = g) w (w.setCells g o vs)
  | [], o, w => Chg.refl _ _
  | v :: vs, o, w => ((Chg.refl (fun b => b = g) w).set1 o v).trans (chg_setCells vs (o + 1) _) (fun i hi => .inl hi)
theorem row_setCells {g t : Nat} {fr : Nat × Nat} : ∀ (vs : List Value) (o : Nat) (w : World) (cs : Array Value), w.heap[g]? = some (.cells cs t fr) → o + vs.length = cs.size → (w.setCells g o vs).heap[g]? = some (.cells (cs.toList.take o ++ vs).toArray t fr)
  | [], o, w, cs, h, hl => by
    have : cs.toList.take o = cs.toList := List.take_of_length_le (by simp at hl ⊢; omega)
    rw [List.append_nil, this]
    exact h
  | v :: vs, o, w, cs, h, hl => by
    have h1 : (w.setCell ⟨g, o, none⟩ v).heap[g]? = some (.cells (cs.setIfInBounds o v) t fr) := by simp [World.setCell, Array.getElem?_modify, h]
    have h2 := row_setCells vs (o + 1) (w.setCell ⟨g, o, none⟩ v) (cs.setIfInBounds o v) h1 (by rw [Array.size_setIfInBounds]; simp at hl; omega)
    have hlt : o < cs.toList.length := by simp at hl ⊢; omega
    have e : (cs.setIfInBounds o v).toList.take (o + 1) = cs.toList.take o ++ [v] := by
      rw [Array.toList_setIfInBounds, List.take_succ_eq_append_getElem (by rw [List.length_set]; exact hlt), List.getElem_set_self, List.take_set, List.set_eq_of_length_le (by rw [List.length_take]; omega)]
    rw [e, List.append_assoc, List.singleton_append] at h2
    exact h2
/-- A whole block is written. -/
theorem row_stored {w : World} {g t : Nat} {cs vs : Array Value} (h : w.heap[g]? = some (.cells cs t (0, 0))) (hl : vs.size = cs.size) : (w.setCells g 0 vs.toList).heap[g]? = some (.cells vs t (0, 0)) := by
  have := row_setCells vs.toList 0 w cs h (by rw [Array.length_toList, Nat.zero_add]; exact hl)
  rw [List.take_zero, List.nil_append] at this
  exact this
#print axioms row_stored
end Go.Proofs.Ytkclceghhebfaaa
