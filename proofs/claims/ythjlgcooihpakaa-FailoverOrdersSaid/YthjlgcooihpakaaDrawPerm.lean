/- An order is one of all places. -/
import Derived.Test.YthjlgcooihpakaaDrawLaws
import Derived.Test.YthjlgcooihpakaaDrawOrd
namespace Go.Proofs.Ythjlgcooihpakaa
open Go.RowKit
set_option linter.unusedVariables false
theorem swapAt_perm (l : List Int) (i j : Nat) (hi : i < l.length) (hj : j < l.length) : (swapAt l i j).Perm l := by
  unfold swapAt
  rw [List.getD_eq_getElem?_getD, List.getD_eq_getElem?_getD, List.getElem?_eq_getElem hi, List.getElem?_eq_getElem hj]
  exact List.set_set_perm hi hj
theorem ordLoop_perm (xs : List Int) (hx : ∀ x ∈ xs, 0 ≤ x ∧ x < 4294967296) (i : Nat) : ∀ (l : List Int) (k : Nat), i < l.length ∨ i = 0 → (ordLoop xs i l k).1.Perm l := by
  induction i with
  | zero => intro l k _; exact List.Perm.refl _
  | succ i ih =>
    intro l k hi
    have hb := drawVal_bd hx k ((i : Int) + 2)
    rw [ordLoop]
    refine (ih _ _ ?_).trans (swapAt_perm l _ _ (by omega) (by omega))
    rw [swapAt_length]
    omega
theorem drawOrd_perm (xs : List Int) (hx : ∀ x ∈ xs, 0 ≤ x ∧ x < 4294967296) (k : Nat) (n : Int) : (drawOrd xs k n).1.Perm (places (ordM n)) := by
  unfold drawOrd
  exact ordLoop_perm xs hx _ _ _ (by simp [places]; omega)
theorem places_nodup (m : Nat) : (places m).Nodup := by
  unfold places
  rw [List.Nodup, List.pairwise_map]
  exact List.Pairwise.imp (fun h e => h (by omega)) List.nodup_range
theorem places_mem (m : Nat) (x : Int) (h : x ∈ places m) : ∃ q : Nat, x = q ∧ q < m := by
  unfold places at h
  obtain ⟨q, hq, rfl⟩ := List.mem_map.1 h
  exact ⟨q, rfl, List.mem_range.1 hq⟩
/-- What is known of a row in another order. -/
structure Ordered (M : Nat) (l : List Int) : Prop where
  len : l.length = M
  mem : ∀ x ∈ l, ∃ q : Nat, x = q ∧ q < M
  nodup : l.Nodup
theorem drawOrd_ordered (xs : List Int) (hx : ∀ x ∈ xs, 0 ≤ x ∧ x < 4294967296) (k : Nat) (n : Int) : Ordered (ordM n) (drawOrd xs k n).1 :=
  ⟨drawOrd_length xs k n, fun x h => places_mem _ x ((drawOrd_perm xs hx k n).mem_iff.1 h), (drawOrd_perm xs hx k n).nodup_iff.2 (places_nodup _)⟩
end Go.Proofs.Ythjlgcooihpakaa
