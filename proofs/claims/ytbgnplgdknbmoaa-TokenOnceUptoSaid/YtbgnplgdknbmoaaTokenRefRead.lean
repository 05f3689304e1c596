/- Tokens: the reference's Read: its blocks, its steps. -/
import Derived.Test.YtbgnplgdknbmoaaTokenPlain
import Derived.Test.YtbgnplgdknbmoaaRefReader
namespace Go.Proofs.Ytbgnplgdknbmoaa
open Go.RowKit
set_option linter.unusedVariables false
set_option linter.unusedSimpArgs false
/-- The reader in g, the token in tb, the result's place rb. -/
structure RfSt (w0 : World) (g tb rb : Nat) (T : Tok) (bs : List UInt8) (e : Nat) (w : World) : Prop where
  ref : IsRef w (fun b => b < w0.heap.size) g bs e
  tok : w.heap[tb]? = some (.cells (tokV T) 26 (0, 0))
  res : w.heap[rb]? = some (.cells (tokV zeroT) 26 (0, 0))
  ne : g ≠ tb ∧ g ≠ rb ∧ tb ≠ rb ∧ w0.heap.size ≤ g ∧ w0.heap.size ≤ tb ∧ w0.heap.size ≤ rb
  chg : Chg nob w0 w
section
variable {w0 w w' : World} {g tb rb : Nat} {T T' : Tok} {bs bs' : List UInt8} {e e' : Nat}
theorem RfSt.read (h : RfSt w0 g tb rb T bs e w) (hd : IsRef w' (fun b => b < w0.heap.size) g bs' e') (hc : Chg (At (some ⟨g, 0, none⟩)) w w') : RfSt w0 g tb rb T bs' e' w' := by
  obtain ⟨n1, n2, n3, n4, n5, n6⟩ := h.ne
  have hag : ∀ k, At (some ⟨g, 0, none⟩) k → k = g := fun k hk => by cases hk; rfl
  exact ⟨hd, hc.heap h.tok (fun e => n1 (hag _ e).symm), hc.heap h.res (fun e => n2 (hag _ e).symm), h.ne, h.chg.trans hc (fun i hi => .inr (by rw [hag i hi]; exact n4))⟩
theorem RfSt.put (h : RfSt w0 g tb rb T bs e w) (j : Nat) (v : Value) (hv : (tokV T).setIfInBounds j v = tokV T') : RfSt w0 g tb rb T' bs e (w.setCell ⟨tb, j, none⟩ v) := by
  obtain ⟨n1, n2, n3, n4, n5, n6⟩ := h.ne
  have hc : Chg (fun b => b = tb) w (w.setCell ⟨tb, j, none⟩ v) := Chg.set1 (Chg.refl _ w) _ _
  refine ⟨h.ref.chg hc n1 (fun b hb e => by omega), ?_, hc.heap h.res (fun e => n3 e.symm), h.ne, h.chg.setCell (.inr n5) _⟩
  rw [← hv]
  simp [World.setCell, Array.getElem?_modify, h.tok]
theorem RfSt.new (h : RfSt w0 g tb rb T bs e w) (hc : Chg nob w w') : RfSt w0 g tb rb T bs e w' :=
  ⟨h.ref.new hc, hc.heap h.tok (not_nob _), hc.heap h.res (not_nob _), h.ne, h.chg.thenNew hc⟩
end
theorem tr_read_few {w : World} {A : Option Addr} {m c : Nat} (hm : m < 8) :
    Calls Try.prog 15 #[.slice A m c] w fun e w' => Chg nob w w' ∧ e = .returned (.tuple #[.agg (tokV zeroT), .int .i64 40]) := by
  have b1 : (m : Int) < 8 := by omega
  have hrow := heap_alloc_new w (.cells (tokV zeroT) 26)
  have hchg : Chg nob w (w.alloc (.cells (tokV zeroT) 26)) := (Chg.refl _ _).alloc _
  obtain ⟨⟨q0, q1, q2, q3⟩, _⟩ := row4_cells hrow
  go_enter Try.func15, Try.ntmps15
  go_wp2
  change bodyPost _ _ _ _ _ (w.alloc (.cells (tokV zeroT) 26))
  generalize w.alloc (.cells (tokV zeroT) 26) = w9 at q0 q1 q2 q3 hchg ⊢
  refine bodyPost_ret (by simp [results, Try.results15, go_sem, q0, q1, q2, q3]; rfl) rfl ?_
  exact ⟨hchg, rfl⟩
theorem rf_start {w : World} {A : Option Addr} {p c : Nat} {bs : List UInt8} (hb : Kd.byte.C w (fun b => b < w.heap.size) A bs) (hm : bs.length = p) (hpc : p ≤ c) :
    RfSt w (w.heap.size + 1) (w.heap.size + 2) w.heap.size zeroT bs 0 (((w.alloc (.cells (tokV zeroT) 26)).alloc (.cells #[.slice A p c, .int .i64 0] 60)).alloc (.cells (tokV zeroT) 26)) := by
  have a1 := heap_alloc_new w (.cells (tokV zeroT) 26)
  have a2 := alloc2_row0 w (.cells (tokV zeroT) 26) (.cells #[.slice A p c, .int .i64 0] 60)
  obtain ⟨w1, hw1⟩ : ∃ w1, w1 = w.alloc (.cells (tokV zeroT) 26) := ⟨_, rfl⟩
  obtain ⟨w2, hw2⟩ : ∃ w2, w2 = w1.alloc (.cells #[.slice A p c, .int .i64 0] 60) := ⟨_, rfl⟩
  have c1 : Chg nob w w1 := by rw [hw1]; exact (Chg.refl _ _).alloc _
  have c2 : Chg nob w1 w2 := by rw [hw2]; exact (Chg.refl _ _).alloc _
  have c3 : Chg nob w2 (w2.alloc (.cells (tokV zeroT) 26)) := (Chg.refl _ _).alloc _
  rw [← hw1] at a1 a2 ⊢
  rw [← hw2] at a2 ⊢
  have z2 : w2.heap.size = w.heap.size + 2 := by rw [hw2, hw1]; simp
  have a3 := heap_alloc_new w2 (.cells (tokV zeroT) 26)
  rw [z2] at a3
  subst hm
  exact ⟨⟨by omega, A, c, c3.heap a2 (not_nob _), hpc, Kd.C_new hb ((c1.thenNew c2).thenNew c3)⟩, a3, c3.heap (c2.heap a1 (not_nob _)) (not_nob _), by omega, (c1.thenNew c2).thenNew c3⟩
end Go.Proofs.Ytbgnplgdknbmoaa
