/- The reference's ring: its state. -/
import Derived.Test.YtoiikjojknnobaaProbeSt
namespace Go.Proofs.Ytoiikjojknnobaa
open Go.RowKit
set_option linter.unusedVariables false
set_option linter.unusedSimpArgs false
/-- Block g is a ring of the reference: its row, which rests on ok, and the place. -/
def IsRR (w : World) (ok : Nat → Prop) (g : Nat) (row : List Int) (at_ : Nat) : Prop :=
  ¬ ok g ∧ ∃ A c, w.heap[g]? = some (.cells #[.slice A row.length c, .int .i64 at_] 44 (0, 0)) ∧ intK.C w ok A row
section
variable {w w' : World} {ok ok' : Nat → Prop} {g at_ : Nat} {row : List Int}
theorem IsRR.chg {S : Nat → Prop} (h : IsRR w ok g row at_) (hc : Chg S w w') (hg : ¬ S g) (hs : ∀ b, ok b → ¬ S b) : IsRR w' ok g row at_ := by
  obtain ⟨h0, A, c, h1, h3⟩ := h
  exact ⟨h0, A, c, hc.heap h1 hg, Kd.C_chg h3 hc hs⟩
theorem IsRR.new (h : IsRR w ok g row at_) (hc : Chg nob w w') : IsRR w' ok g row at_ := h.chg hc (not_nob _) (fun _ _ => not_nob _)
theorem IsRR.lt (h : IsRR w ok g row at_) : g < w.heap.size := by
  obtain ⟨_, A, c, h1, _⟩ := h
  exact heap_lt h1
theorem rr_row {t : Nat} {a b : Value} (h : w.heap[g]? = some (.cells #[a, b] t (0, 0))) : w.cell? ⟨g, 0, none⟩ = some a ∧ w.cell? ⟨g, 1, none⟩ = some b ∧ ∀ j, w.frozen? ⟨g, j, none⟩ = false :=
  ⟨by rw [cell_of_row w g 0 _ _ _ h]; rfl, by rw [cell_of_row w g 1 _ _ _ h]; rfl, fun j => by simp [World.frozen?, h]⟩
theorem IsRR.read (h : IsRR w ok g row at_) : ∃ A c, w.cell? ⟨g, 0, none⟩ = some (.slice A row.length c) ∧ w.cell? ⟨g, 1, none⟩ = some (.int .i64 at_) ∧ (∀ j, w.frozen? ⟨g, j, none⟩ = false) ∧ intK.C w ok A row := by
  obtain ⟨h0, A, c, h1, h3⟩ := h
  obtain ⟨q0, q1, q3⟩ := rr_row h1
  exact ⟨A, c, q0, q1, q3, h3⟩
theorem IsRR.setRow {A' : Option Addr} {c' n : Nat} {row' : List Int} (h : IsRR w ok g row at_) (hC : intK.C w ok' A' row') (hn : row'.length = n) (hg : ¬ ok' g) : IsRR (w.setCell ⟨g, 0, none⟩ (.slice A' n c')) ok' g row' at_ := by
  subst hn
  obtain ⟨_, A, c, h1, h3⟩ := h
  refine ⟨hg, A', c', ?_, Kd.C_step hC (fun b hb _ => Below.heap_setCell _ _ _ _ (fun e => hg (by rw [← show b = g from e]; exact hb)))⟩
  simp [World.setCell, Array.getElem?_modify, h1]
theorem IsRR.setAt (h : IsRR w ok g row at_) (j : Nat) : IsRR (w.setCell ⟨g, 1, none⟩ (.int .i64 j)) ok g row j := by
  obtain ⟨h0, A, c, h1, h4⟩ := h
  refine ⟨h0, A, c, ?_, Kd.C_step h4 (fun b hb _ => Below.heap_setCell _ _ _ _ (fun e => h0 (by rw [← show b = g from e]; exact hb)))⟩
  simp [World.setCell, Array.getElem?_modify, h1]
end
/-- What a call leaves of a ring of the reference and its draws. -/
def RfPost (w : World) (okr okd : Nat → Prop) (g gd : Nat) (xs : List Int) (row : List Int) (at_ k : Nat) (w' : World) : Prop :=
  IsRR w' (fun b => (okr b ∨ w.heap.size ≤ b) ∧ b < w'.heap.size) g row at_ ∧ IsRef w' okd gd xs k ∧ Chg (fun b => b = g ∨ b = gd) w w'
end Go.Proofs.Ytoiikjojknnobaa
