/- A ring: what a call of none, List, At, Add tells. -/
import Derived.Test.YtoiikjojknnobaaProbeBase
import Derived.Deep.RegionLaw
import Derived.BigRegion
import Derived.Outline
import Derived.Deep.CutRange
import Derived.Deep.DeepCutAuto
namespace Go.Proofs.Ytoiikjojknnobaa
open Go.RowKit
set_option linter.unusedVariables false
set_option linter.unusedSimpArgs false
/-- Block g is a ring: its row, which rests on ok, and the place. -/
def IsRing (w : World) (ok : Nat → Prop) (g : Nat) (row : List Int) (at_ : Nat) : Prop :=
  ¬ ok g ∧ ∃ A c, w.heap[g]? = some (.cells #[.bool true, .slice A row.length c, .int .i64 at_] 59 (0, 0)) ∧ row.length ≤ c ∧ intK.C w ok A row ∧ (A = none → c = 0)
/-- A ring that is not there, or that no call made. -/
def NoRing (w : World) (p : Option Addr) : Prop := p = none ∨ ∃ g, p = some ⟨g, 0, none⟩ ∧ w.heap[g]? = some (.cells #[.bool false, .slice none 0 0, .int .i64 0] 59 (0, 0))
section
variable {w w' : World} {ok ok' : Nat → Prop} {g at_ : Nat} {row : List Int}
theorem IsRing.chg {S : Nat → Prop} (h : IsRing w ok g row at_) (hc : Chg S w w') (hg : ¬ S g) (hs : ∀ b, ok b → ¬ S b) : IsRing w' ok g row at_ := by
  obtain ⟨h0, A, c, h1, h2, h3, h4⟩ := h
  exact ⟨h0, A, c, hc.heap h1 hg, h2, Kd.C_chg h3 hc hs, h4⟩
theorem IsRing.new (h : IsRing w ok g row at_) (hc : Chg nob w w') : IsRing w' ok g row at_ := h.chg hc (not_nob _) (fun _ _ => not_nob _)
theorem IsRing.lt (h : IsRing w ok g row at_) : g < w.heap.size := by
  obtain ⟨_, A, c, h1, _⟩ := h
  exact heap_lt h1
theorem IsRing.bound (h : IsRing w ok g row at_) : IsRing w (fun b => ok b ∧ b < w.heap.size) g row at_ := by
  obtain ⟨h0, A, c, h1, h2, h3, h4⟩ := h
  exact ⟨fun k => h0 k.1, A, c, h1, h2, Kd.C_bound h3, h4⟩
theorem ring_row {t : Nat} {a b c : Value} (h : w.heap[g]? = some (.cells #[a, b, c] t (0, 0))) : w.cell? ⟨g, 0, none⟩ = some a ∧ w.cell? ⟨g, 1, none⟩ = some b ∧ w.cell? ⟨g, 2, none⟩ = some c ∧ ∀ j, w.frozen? ⟨g, j, none⟩ = false :=
  ⟨by rw [cell_of_row w g 0 _ _ _ h]; rfl, by rw [cell_of_row w g 1 _ _ _ h]; rfl, by rw [cell_of_row w g 2 _ _ _ h]; rfl, fun j => by simp [World.frozen?, h]⟩
theorem IsRing.read (h : IsRing w ok g row at_) : ∃ A c, w.cell? ⟨g, 0, none⟩ = some (.bool true) ∧ w.cell? ⟨g, 1, none⟩ = some (.slice A row.length c) ∧ w.cell? ⟨g, 2, none⟩ = some (.int .i64 at_) ∧ (∀ j, w.frozen? ⟨g, j, none⟩ = false) ∧ row.length ≤ c ∧ intK.C w ok A row ∧ (A = none → c = 0) := by
  obtain ⟨h0, A, c, h1, h2, h3, h4⟩ := h
  obtain ⟨q0, q1, q2, q3⟩ := ring_row h1
  exact ⟨A, c, q0, q1, q2, q3, h2, h3, h4⟩
theorem IsRing.setRow {A' : Option Addr} {c' n : Nat} {row' : List Int} (h : IsRing w ok g row at_) (hC : intK.C w ok' A' row') (hn : row'.length = n) (hc : n ≤ c') (h0 : A' = none → c' = 0) (hg : ¬ ok' g) : IsRing (w.setCell ⟨g, 1, none⟩ (.slice A' n c')) ok' g row' at_ := by
  subst hn
  obtain ⟨_, A, c, h1, h2, h3, h4⟩ := h
  refine ⟨hg, A', c', ?_, hc, Kd.C_step hC (fun b hb _ => Below.heap_setCell _ _ _ _ (fun e => hg (by rw [← show b = g from e]; exact hb))), h0⟩
  simp [World.setCell, Array.getElem?_modify, h1]
theorem IsRing.setAt (h : IsRing w ok g row at_) (j : Nat) : IsRing (w.setCell ⟨g, 2, none⟩ (.int .i64 j)) ok g row j := by
  obtain ⟨h0, A, c, h1, h2, h3, h4⟩ := h
  refine ⟨h0, A, c, ?_, h2, Kd.C_step h3 (fun b hb _ => Below.heap_setCell _ _ _ _ (fun e => h0 (by rw [← show b = g from e]; exact hb))), h4⟩
  simp [World.setCell, Array.getElem?_modify, h1]
end
theorem rg_none {w : World} {ok : Nat → Prop} {g at_ : Nat} {row : List Int} (h : IsRing w ok g row at_) :
    Calls Try.prog 25 #[.pointer (some ⟨g, 0, none⟩)] w fun e w' => e = .returned (.bool false) ∧ w' = w := by
  obtain ⟨A, c, q0, _⟩ := h.read
  clear h
  go_enter Try.func25, Try.ntmps25
  go_wp2
  go_ret
  exact ⟨rfl, rfl⟩
theorem no_none {w : World} {p : Option Addr} (h : NoRing w p) : Calls Try.prog 25 #[.pointer p] w fun e w' => e = .returned (.bool true) ∧ w' = w := by
  rcases h with rfl | ⟨g, rfl, h⟩
  · go_enter Try.func25, Try.ntmps25
    go_wp2
    go_ret
    exact ⟨rfl, rfl⟩
  · obtain ⟨q0, _⟩ := ring_row h
    clear h
    go_enter Try.func25, Try.ntmps25
    go_wp2
    go_ret
    exact ⟨rfl, rfl⟩
theorem rg_at {w : World} {ok : Nat → Prop} {g at_ : Nat} {row : List Int} (h : IsRing w ok g row at_) :
    Calls Try.prog 23 #[.pointer (some ⟨g, 0, none⟩)] w fun e w' => e = .returned (.int .i64 at_) ∧ w' = w := by
  have HI := Lib.hid h
  clear h
  go_enter Try.func23, Try.ntmps23
  go_wp2_with fail
  refine (rg_none HI.out).mono ?_
  rintro e w' ⟨rfl, rfl⟩
  obtain ⟨A, c, q0, q1, q2, _⟩ := HI.out.read
  go_wp2
  go_ret
  exact ⟨rfl, rfl⟩
theorem no_at {w : World} {p : Option Addr} (h : NoRing w p) : Calls Try.prog 23 #[.pointer p] w fun e w' => e = .returned (.int .i64 0) ∧ w' = w := by
  have HI := Lib.hid h
  clear h
  go_enter Try.func23, Try.ntmps23
  go_wp2_with fail
  refine (no_none HI.out).mono ?_
  rintro e w' ⟨rfl, rfl⟩
  go_wp2
  go_ret
  exact ⟨rfl, rfl⟩
theorem rg_list {w : World} {ok : Nat → Prop} {g at_ : Nat} {row : List Int} (h : IsRing w ok g row at_) (hl : row.length ≤ 1000000) :
    Calls Try.prog 13 #[.pointer (some ⟨g, 0, none⟩)] w (Cloned w row) := by
  have HI := Lib.hid h
  clear h
  go_enter Try.func13, Try.ntmps13
  go_wp2_with fail
  refine (rg_none HI.out).mono ?_
  rintro e w' ⟨rfl, rfl⟩
  obtain ⟨A, c, q0, q1, q2, _, hc, hC, h0⟩ := HI.out.read
  have HC := Lib.hid hC
  obtain ⟨n, hn⟩ : ∃ n, row.length = n := ⟨_, rfl⟩
  have HN := Lib.hid hn
  rw [hn] at q1 hl hc
  have H0 := Lib.hid h0
  clear hC hn h0
  go_wp2_with fail
  refine (l_clone HC.out HN.out (by omega) H0.out).mono ?_
  rintro e w2 hcl
  have HCL := Lib.hid hcl
  obtain ⟨A2, c2, rfl, _⟩ := hcl
  go_wp2
  go_ret
  exact HCL.out
theorem no_list {w : World} {p : Option Addr} (h : NoRing w p) : Calls Try.prog 13 #[.pointer p] w fun e w' => e = .returned (.slice none 0 0) ∧ w' = w := by
  have HI := Lib.hid h
  clear h
  go_enter Try.func13, Try.ntmps13
  go_wp2_with fail
  refine (no_none HI.out).mono ?_
  rintro e w' ⟨rfl, rfl⟩
  go_wp2
  go_ret
  exact ⟨rfl, rfl⟩
theorem rg_new (w : World) : Calls Try.prog 8 #[] w fun e w' => ∃ g, e = .returned (.pointer (some ⟨g, 0, none⟩)) ∧ w.heap.size ≤ g ∧ IsRing w' (fun _ => False) g [] 0 ∧ Chg nob w w' := by
  have HR := Lib.hid (heap_alloc_new w (.cells #[.bool true, .slice none 0 0, .int .i64 0] 59))
  have HC := Lib.hid ((Chg.refl nob w).alloc (.cells #[.bool true, .slice none 0 0, .int .i64 0] 59))
  go_enter Try.func8, Try.ntmps8
  go_wp2
  go_ret
  exact ⟨w.heap.size, rfl, Nat.le_refl _, ⟨fun h => h, none, 0, HR.out, Nat.le_refl _, Kd.C_nil _ _ _ _, fun _ => rfl⟩, HC.out⟩
end Go.Proofs.Ytoiikjojknnobaa
