/- The laws' item of one of each kind, and what its bulk says of its bytes. -/
import Derived.Test.YticbffoclnjciaaFieldLays
import Derived.Test.YticbffoclnjciaaOpen
namespace Go.Proofs.Yticbffoclnjciaa
open Go.RowKit
set_option linter.unusedVariables false
abbrev itemK : Kd (ByteArray × Bool × List ByteArray × List Int) :=
  Kd.pair (Kd.such Kd.string (fun s => s.size ≤ maxLen)) (Kd.pair Kd.bool (Kd.pair (Kd.slice (Kd.such Kd.string (fun s => s.size ≤ maxLen))) (Kd.slice (Kd.such (Kd.int .u64) (fun x => (Lit.int .u64 x).wf = true)))))
def itemBulk (x : ByteArray × Bool × List ByteArray × List Int) : Nat :=
  (x.1.size + 1) + (1 + ((bulkL (fun s : ByteArray => s.size + 1) x.2.2.1 + 1) + (bulkL (fun _ : Int => 1) x.2.2.2 + 1))) + 1
theorem item_cells {w : World} {ok : Nat → Prop} {x : ByteArray × Bool × List ByteArray × List Int} {cs : List Value} (h : itemK.K w ok x cs) :
    ∃ B1 e1 B2 e2, cs = [.string x.1, .bool x.2.1, .slice B1 x.2.2.1.length e1, .slice B2 x.2.2.2.length e2] ∧ Kd.string.C w ok B1 x.2.2.1 ∧ (Kd.int .u64).C w ok B2 x.2.2.2 ∧ (∀ y ∈ x.2.2.2, 0 ≤ y ∧ y < 18446744073709551616) ∧ x.2.2.1.length ≤ e1 ∧ x.2.2.2.length ≤ e2 := by
  obtain ⟨c0, _, rfl, ⟨h0, _⟩, c1, _, rfl, h1, c2, c3, rfl, ⟨B1, e1, rfl, hl1, h2⟩, ⟨B2, e2, rfl, hl2, h3⟩⟩ := h
  have h0' : c0 = [.string x.1] := h0
  have h1' : c1 = [.bool x.2.1] := h1
  subst h0' h1'
  refine ⟨B1, e1, B2, e2, rfl, (Kd.C_all h2).1, (Kd.C_all h3).1, fun y hy => ?_, hl1, hl2⟩
  have := wf_u64 ((Kd.C_all h3).2 y hy)
  omega
theorem listB_bulk {α : Type} (f : α → List UInt8) (g : α → Nat) (h : ∀ x, (f x).length ≤ 9 * g x) (l : List α) (hl : l.length < 18446744073709551616) : (listB f l).length ≤ 9 + 9 * bulkL g l := by
  have : ∀ l : List α, (l.map f).flatten.length ≤ 9 * bulkL g l := by
    intro l
    induction l with
    | nil => simp [bulkL]
    | cons x l ih =>
      simp only [List.map_cons, List.flatten_cons, List.length_append, bulkL]
      have := h x
      omega
  have h1 := this l
  have h2 := numB_len hl
  unfold listB
  rw [List.length_append]
  omega
theorem numB_le (n : Nat) (h : n < 18446744073709551616) : (numB n).length ≤ 9 := numB_len h
theorem txtB_le {x : ByteArray} (h : x.size < 18446744073709551616) : (txtB x).length ≤ 9 * (x.size + 1) := by
  have := numB_le x.size h
  rw [txtB, List.length_append, strB_len]
  omega
theorem bulkL_sub {α : Type} (p : α → Prop) [DecidablePred p] (g : α → Nat) (l : List α) (h : ∀ x ∈ l, p x) : l = l.filter p := by
  rw [List.filter_eq_self.2 (fun x hx => by simpa using h x hx)]
theorem listB_bulk' {α : Type} (f : α → List UInt8) (g : α → Nat) (l : List α) (h : ∀ x ∈ l, (f x).length ≤ 9 * g x) (hl : l.length < 18446744073709551616) : (listB f l).length ≤ 9 + 9 * bulkL g l := by
  have h1 : (l.map f).flatten.length ≤ 9 * bulkL g l := by
    clear hl
    induction l with
    | nil => simp [bulkL]
    | cons x l ih =>
      simp only [List.map_cons, List.flatten_cons, List.length_append, bulkL]
      have := h x List.mem_cons_self
      have := ih (fun y hy => h y (List.mem_cons_of_mem _ hy))
      omega
  have h2 := numB_len hl
  unfold listB
  rw [List.length_append]
  omega
theorem item_bytes {x : ByteArray × Bool × List ByteArray × List Int} (hb : itemBulk x ≤ 1048576) (hx : ∀ y ∈ x.2.2.2, 0 ≤ y ∧ y < 18446744073709551616) :
    x.1.size ≤ 1048576 ∧ (listB txtB x.2.2.1).length ≤ 20000000 ∧ (listB numX x.2.2.2).length ≤ 20000000 := by
  unfold itemBulk at hb
  have l1 := bulkL_len (fun s : ByteArray => s.size + 1) (fun _ => Nat.le_add_left _ _) x.2.2.1
  have l2 := bulkL_len (fun _ : Int => 1) (fun _ => Nat.le_refl _) x.2.2.2
  have h1 := listB_bulk' txtB (fun s : ByteArray => s.size + 1) x.2.2.1 (fun y hy => txtB_le (by have := bulkL_mem (fun s : ByteArray => s.size + 1) hy; omega)) (by omega)
  have h2 := listB_bulk' numX (fun _ : Int => 1) x.2.2.2 (fun y hy => by
    have := hx y hy
    have := numB_le y.toNat (by omega)
    show (numB y.toNat).length ≤ 9 * 1
    omega) (by omega)
  omega
theorem bytes_bulk (l : List UInt8) : l.length ≤ bulkL (fun _ => 1) l := bulkL_len _ (fun _ => Nat.le_refl _) l
theorem fieldLays_row {w : World} {A : Option Addr} {c : Nat} {bs : List UInt8} (hb : Kd.byte.C w (fun b => b < w.heap.size) A bs) (hB : bulkL (fun _ => 1) bs + 1 ≤ 1048576) (n : Int) (hn : (Lit.int .u64 n).wf = true)
    {x : ByteArray × Bool × List ByteArray × List Int} {cs : Array Value} (h : itemK.K w (fun b => b < w.heap.size) x cs.toList) (hx : itemBulk x ≤ 1048576) :
    Calls Try.prog 3 #[.slice A bs.length c, .int .u64 n, .agg cs] w fun e w' => e = .returned (.bool true) ∧ Chg nob w w' := by
  obtain ⟨B1, e1, B2, e2, hcs, h1, h2, h3, _, _⟩ := item_cells h
  have e : cs = #[.string x.1, .bool x.2.1, .slice B1 x.2.2.1.length e1, .slice B2 x.2.2.2.length e2] := by cases cs; simpa using hcs
  subst e
  obtain ⟨i1, i2, i3⟩ := item_bytes hx h3
  have i4 := bytes_bulk bs
  have := wf_u64 hn
  exact fieldLays_walk hb rfl n (by omega) (by omega) x.1 x.2.1 h1 h2 rfl rfl h3 (by omega)
end Go.Proofs.Yticbffoclnjciaa
