/- A row of the call's own: one cell of an element is written; kinds that say more or less. -/
import Derived.Test.YtkclceghhebfaaaKit
namespace Go.Proofs.Ytkclceghhebfaaa
open Go.RowKit
set_option linter.unusedVariables false
theorem Reps.setAt {α : Type} {R : α → List Value → Prop} {sz : Nat} {xs : List α} {cs : List Value} (h : Reps R sz xs cs) {j i : Nat} {x' : α} {u : Value} (hi : i < sz) (hx : R x' (((cs.drop (j * sz)).take sz).set i u)) : Reps R sz (xs.set j x') (cs.set (j * sz + i) u) := by
  refine ⟨by rw [List.length_set, List.length_set]; exact h.1, fun k x hk => ?_⟩
  rw [List.drop_set, List.getElem?_set] at *
  by_cases hjk : j = k
  · subst hjk
    rw [if_pos rfl] at hk
    split at hk
    · cases hk
      rw [if_neg (by omega), Nat.add_sub_cancel_left, List.take_set]
      exact hx
    · cases hk
  · rw [if_neg hjk] at hk
    have h2 := h.2 k x hk
    by_cases hlt : j * sz + i < k * sz
    · rw [if_pos hlt]
      exact h2
    · rw [if_neg hlt, List.take_set, List.set_eq_of_length_le]
      · exact h2
      · rw [List.length_take]
        have : (k + 1) * sz ≤ j * sz := by
          apply Nat.mul_le_mul_right
          apply Nat.lt_of_not_le
          intro hle
          have h3 : j < k := by omega
          have h4 := Nat.mul_le_mul_right sz (show j + 1 ≤ k from h3)
          rw [Nat.succ_mul] at h4
          omega
        rw [Nat.succ_mul] at this
        omega
/-- One cell of element j is written. -/
theorem Kd.R_setField {α : Type} {d : Kd α} {e base n cap g j i : Nat} {w : World} {ok : Nat → Prop} {l : List α} {x x' : α} {u : Value} (h : d.R e w base ok (.slice (some ⟨g, 0, none⟩) n cap) l) (hx : l[j]? = some x) (hi : i < d.sz)
    (hc : ∀ cs, d.K w (fun k => ok k ∧ k ≠ g) x cs → d.K w (fun k => ok k ∧ k ≠ g) x' (cs.set i u)) : d.R e (w.setCell ⟨g, j * d.sz + i, none⟩ u) base ok (.slice (some ⟨g, 0, none⟩) n cap) (l.set j x') := by
  obtain ⟨h0, inner, ho, hr⟩ := h
  have hn : l.length = n := by
    rcases ho.2 with ⟨e1, _⟩ | ⟨g', cap', cur, e1, _⟩
    · cases e1
    · injection e1 with _ e2 _
      exact e2.symm
  subst hn
  refine ⟨h0, inner.set (j * d.sz + i) u, ?_, ?_⟩
  · rw [List.length_set]
    exact (ho.stored _ _).1
  · have hmv : ∀ (y : α) (cs : List Value), d.K w (fun k => ok k ∧ some k ≠ (Value.slice (some ⟨g, 0, none⟩) l.length cap).ownBlock) y cs → d.K (w.setCell ⟨g, j * d.sz + i, none⟩ u) (fun k => ok k ∧ some k ≠ (Value.slice (some ⟨g, 0, none⟩) l.length cap).ownBlock) y cs :=
      fun y cs hy => d.move (fun k hk => Below.heap_setCell _ _ _ _ (fun e => hk.2 (by rw [show k = g from e]; rfl))) hy
    refine Reps.setAt (hr.imp hmv) hi (hmv _ _ ?_)
    have h1 := hc _ (d.mono (fun k hk => ⟨hk.1, fun e => hk.2 (by rw [e]; rfl)⟩) (hr.2 j x hx))
    exact d.mono (fun k hk => ⟨hk.1, fun e => hk.2 (by cases e; rfl)⟩) h1
/-! ### Kinds that say less -/
def Kd.Le {α : Type} (d d' : Kd α) : Prop := d'.sz = d.sz ∧ ∀ {w : World} {ok : Nat → Prop} {x : α} {cs : List Value}, d.K w ok x cs → d'.K w ok x cs
theorem Kd.Le.refl {α : Type} (d : Kd α) : d.Le d := ⟨rfl, fun h => h⟩
theorem Kd.Le.such {α : Type} {d d' : Kd α} {p : α → Prop} (h : d.Le d') : (Kd.such d p).Le d' := ⟨h.1, fun k => h.2 k.1⟩
theorem Kd.Le.suchs {α : Type} {d d' : Kd α} {p : α → Prop} (h : d.Le d') : (Kd.such d p).Le (Kd.such d' p) := ⟨h.1, fun k => ⟨h.2 k.1, k.2⟩⟩
theorem Kd.Le.pair {α β : Type} {d d' : Kd α} {e e' : Kd β} (h : d.Le d') (k : e.Le e') : (Kd.pair d e).Le (Kd.pair d' e') := ⟨by show d'.sz + e'.sz = d.sz + e.sz; rw [h.1, k.1], fun ⟨c0, c1, e, h0, h1⟩ => ⟨c0, c1, e, h.2 h0, k.2 h1⟩⟩
theorem Kd.Le.C {α : Type} {d d' : Kd α} (h : d.Le d') {w : World} {ok : Nat → Prop} {A : Option Addr} {l : List α} (hC : d.C w ok A l) : d'.C w ok A l := by
  obtain ⟨h1, inner, hr, hc⟩ := hC
  exact ⟨h1, inner, by rw [h.1]; exact hr.imp (fun x c hx => h.2 hx), hc⟩
theorem Kd.Le.slice {α : Type} {d d' : Kd α} (h : d.Le d') : (Kd.slice d).Le (Kd.slice d') := ⟨rfl, fun ⟨A, c, e, hl, hC⟩ => ⟨A, c, e, hl, h.C hC⟩⟩
end Go.Proofs.Ytkclceghhebfaaa
