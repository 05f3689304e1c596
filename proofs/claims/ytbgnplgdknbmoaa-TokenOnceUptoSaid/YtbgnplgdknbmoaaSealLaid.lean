/- A sum's eight bytes: what a call of laid does. -/
import Derived.Test.YtbgnplgdknbmoaaSealRef
namespace Go.Proofs.Ytbgnplgdknbmoaa
open Go.RowKit
set_option linter.unusedVariables false
set_option linter.unusedSimpArgs false
/-- The array's bytes behind j rounds. -/
def laidB (n j : Nat) : List UInt8 := List.replicate (8 - j) 0 ++ (beB n).drop (8 - j)
theorem laidB_len {n j : Nat} (hj : j ≤ 8) : (laidB n j).length = 8 := by simp [laidB, beB_len]
theorem laidB_end (n : Nat) : laidB n 8 = beB n := rfl
theorem laidB_set {n j : Nat} (hj : j < 8) : (laidB n j).set (7 - j) (UInt8.ofNat (n / 2 ^ (8 * j) % 256)) = laidB n (j + 1) := by
  have : j = 0 ∨ j = 1 ∨ j = 2 ∨ j = 3 ∨ j = 4 ∨ j = 5 ∨ j = 6 ∨ j = 7 := by omega
  rcases this with rfl | rfl | rfl | rfl | rfl | rfl | rfl | rfl <;> simp [laidB, beB]
def row8 (l : List UInt8) (t : Nat) : Obj := .cells (l.map encB).toArray t (0, 0)
theorem row8_at {w : World} {g t : Nat} {l : List UInt8} (h : w.heap[g]? = some (row8 l t)) (hl : l.length = 8) :
    ∃ a0 a1 a2 a3 a4 a5 a6 a7, l = [a0, a1, a2, a3, a4, a5, a6, a7] ∧ (w.cell? ⟨g, 0, none⟩ = some (Value.int .u8 (a0.toNat : Int)) ∧ w.cell? ⟨g, 1, none⟩ = some (Value.int .u8 (a1.toNat : Int)) ∧ w.cell? ⟨g, 2, none⟩ = some (Value.int .u8 (a2.toNat : Int)) ∧ w.cell? ⟨g, 3, none⟩ = some (Value.int .u8 (a3.toNat : Int)) ∧ w.cell? ⟨g, 4, none⟩ = some (Value.int .u8 (a4.toNat : Int)) ∧ w.cell? ⟨g, 5, none⟩ = some (Value.int .u8 (a5.toNat : Int)) ∧ w.cell? ⟨g, 6, none⟩ = some (Value.int .u8 (a6.toNat : Int)) ∧ w.cell? ⟨g, 7, none⟩ = some (Value.int .u8 (a7.toNat : Int))) ∧ ∀ j, w.frozen? ⟨g, j, none⟩ = false := by
  match l, hl with
  | [a0, a1, a2, a3, a4, a5, a6, a7], _ =>
    refine ⟨a0, a1, a2, a3, a4, a5, a6, a7, rfl, ⟨?_, ?_, ?_, ?_, ?_, ?_, ?_, ?_⟩, fun j => by simp [World.frozen?, h, row8]⟩ <;> rw [cell_of_row w g _ _ _ _ h] <;> rfl
structure LaidSt (w0 : World) (r g n j : Nat) (w : World) : Prop where
  c : w.heap[g]? = some (row8 (laidB n j) 62)
  row : w.heap[r]? = some (row8 (laidB 0 0) 62)
  ne : r ≠ g
  new : w0.heap.size ≤ g
  newr : w0.heap.size ≤ r
  chg : Chg nob w0 w
theorem LaidSt.start (w : World) (n : Nat) : LaidSt w w.heap.size (w.heap.size + 1) n 0 ((w.alloc (.cells #[.int .u8 0, .int .u8 0, .int .u8 0, .int .u8 0, .int .u8 0, .int .u8 0, .int .u8 0, .int .u8 0] 62)).alloc (.cells #[.int .u8 0, .int .u8 0, .int .u8 0, .int .u8 0, .int .u8 0, .int .u8 0, .int .u8 0, .int .u8 0] 62)) := by
  have h5 := heap_alloc_new w (.cells #[.int .u8 0, .int .u8 0, .int .u8 0, .int .u8 0, .int .u8 0, .int .u8 0, .int .u8 0, .int .u8 0] 62)
  exact ⟨alloc2_row0 w _ _, ((Chg.refl nob _).alloc _).heap h5 (not_nob _), by omega, by omega, by omega, alloc2_chg0 w _ _⟩
theorem LaidSt.step {w0 w : World} {r g n j : Nat} (h : LaidSt w0 r g n j w) (hj : j < 8) : LaidSt w0 r g n (j + 1) (w.setCell ⟨g, 7 - j, none⟩ (encB (UInt8.ofNat (n / 2 ^ (8 * j) % 256)))) := by
  refine ⟨?_, (Chg.set1 (g := g) (Chg.refl _ w) _ _).heap h.row h.ne, h.ne, h.new, h.newr, h.chg.setCell (.inr h.new) _⟩
  have := block_set (i := 7 - j) (b := UInt8.ofNat (n / 2 ^ (8 * j) % 256)) h.c
  rw [laidB_set hj] at this
  exact this
def set8 (w : World) (r : Nat) (a0 a1 a2 a3 a4 a5 a6 a7 : Value) : World := (((((((w.setCell ⟨r, 0, none⟩ a0).setCell ⟨r, 1, none⟩ a1).setCell ⟨r, 2, none⟩ a2).setCell ⟨r, 3, none⟩ a3).setCell ⟨r, 4, none⟩ a4).setCell ⟨r, 5, none⟩ a5).setCell ⟨r, 6, none⟩ a6).setCell ⟨r, 7, none⟩ a7
theorem set8_row {w : World} {r t : Nat} {b0 b1 b2 b3 b4 b5 b6 b7 : Value} (h : w.heap[r]? = some (.cells #[b0, b1, b2, b3, b4, b5, b6, b7] t (0, 0))) (a0 a1 a2 a3 a4 a5 a6 a7 : Value) : (set8 w r a0 a1 a2 a3 a4 a5 a6 a7).heap[r]? = some (.cells #[a0, a1, a2, a3, a4, a5, a6, a7] t (0, 0)) := by
  simp [set8, World.setCell, Array.getElem?_modify, h]
theorem set8_chg {w0 w : World} {S : Nat → Prop} {r : Nat} (h : Chg S w0 w) (hr : S r ∨ w0.heap.size ≤ r) (a0 a1 a2 a3 a4 a5 a6 a7 : Value) : Chg S w0 (set8 w r a0 a1 a2 a3 a4 a5 a6 a7) :=
  (((((((h.setCell (p := ⟨r, 0, none⟩) hr a0).setCell (p := ⟨r, 1, none⟩) hr a1).setCell (p := ⟨r, 2, none⟩) hr a2).setCell (p := ⟨r, 3, none⟩) hr a3).setCell (p := ⟨r, 4, none⟩) hr a4).setCell (p := ⟨r, 5, none⟩) hr a5).setCell (p := ⟨r, 6, none⟩) hr a6).setCell (p := ⟨r, 7, none⟩) hr a7
theorem byte_div (n j : Nat) : Value.int .u8 ((n : Int) / 2 ^ (8 * j) % 256) = encB (UInt8.ofNat (n / 2 ^ (8 * j) % 256)) := by
  rw [← byte_mod]
  congr 2
theorem s_laid {w : World} (n : Nat) (hn : n < 18446744073709551616) :
    Calls Try.prog 39 #[.int .u64 n] w fun e w' => e = .returned (.agg ((beB n).map encB).toArray) ∧ Chg nob w w' := by
  have hst := LaidSt.start w n
  go_enter Try.func39, Try.ntmps39
  go_wp2
  generalize w.heap.size + 1 = g at hst ⊢
  generalize hr : w.heap.size = r at hst ⊢
  generalize (World.alloc _ _ : World) = w1 at hst ⊢
  go_loopw [5] (fun i wr => ∃ j : Nat, j ≤ 8 ∧ i = .int .i64 j ∧ LaidSt w r g n j wr) (fun i _ => 8 - (intOf i).toNat)
  case atStart => exact ⟨0, by decide, rfl, hst⟩
  case round =>
    obtain ⟨j, hj, rfl, hs⟩ := hrel
    clear hst
    by_cases hlt : j < 8
    · have b1 : (j : Int) < 8 := by omega
      obtain ⟨⟨v0, hv0⟩, f0⟩ := block_at (i := 7 - j) hs.c (by rw [laidB_len hj]; omega)
      have b2 : (0 : Int) ≤ 7 - (j : Int) := by omega
      have b3 : 7 - (j : Int) < 8 := by omega
      have HS := Lib.hid hs
      clear hs
      go_wp2
      refine ⟨⟨j + 1, by omega, by go_num, ?_⟩, by simp [intOf]; omega⟩
      rw [byte_div]
      exact HS.out.step hlt
    · have b1 : ¬ (j : Int) < 8 := by omega
      have h8 : j = 8 := by omega
      subst h8
      obtain ⟨a0, a1, a2, a3, a4, a5, a6, a7, hl, ⟨c0, c1, c2, c3, c4, c5, c6, c7⟩, _⟩ := row8_at hs.c (laidB_len (Nat.le_refl _))
      obtain ⟨_, _, _, _, _, _, _, _, _, ⟨d0, d1, d2, d3, d4, d5, d6, d7⟩, df⟩ := row8_at hs.row (laidB_len (by decide))
      have f0 := df 0
      have f1 := df 1
      have f2 := df 2
      have f3 := df 3
      have f4 := df 4
      have f5 := df 5
      have f6 := df 6
      have f7 := df 7
      have hrow := set8_row (show wr.heap[r]? = some (.cells #[encB 0, encB 0, encB 0, encB 0, encB 0, encB 0, encB 0, encB 0] 62 (0, 0)) from hs.row) (Value.int .u8 (a0.toNat : Int)) (Value.int .u8 (a1.toNat : Int)) (Value.int .u8 (a2.toNat : Int)) (Value.int .u8 (a3.toNat : Int)) (Value.int .u8 (a4.toNat : Int)) (Value.int .u8 (a5.toNat : Int)) (Value.int .u8 (a6.toNat : Int)) (Value.int .u8 (a7.toNat : Int))
      have hchg := set8_chg hs.chg (r := r) (.inr hs.newr) (Value.int .u8 (a0.toNat : Int)) (Value.int .u8 (a1.toNat : Int)) (Value.int .u8 (a2.toNat : Int)) (Value.int .u8 (a3.toNat : Int)) (Value.int .u8 (a4.toNat : Int)) (Value.int .u8 (a5.toNat : Int)) (Value.int .u8 (a6.toNat : Int)) (Value.int .u8 (a7.toNat : Int))
      have HL : Hid (((beB n).map encB).toArray = #[Value.int .u8 (a0.toNat : Int), Value.int .u8 (a1.toNat : Int), Value.int .u8 (a2.toNat : Int), Value.int .u8 (a3.toNat : Int), Value.int .u8 (a4.toNat : Int), Value.int .u8 (a5.toNat : Int), Value.int .u8 (a6.toNat : Int), Value.int .u8 (a7.toNat : Int)]) := by show _ = _; rw [← laidB_end, hl]; rfl
      have HROW := Lib.hid hrow
      have HCHG := Lib.hid hchg
      clear df hs hl hrow hchg
      go_wp2
      have hrow := HROW.out
      have hchg := HCHG.out
      unfold set8 at hrow hchg
      generalize (World.setCell _ (⟨r, 7, none⟩ : Addr) _) = w9 at hrow hchg ⊢
      obtain ⟨_, _, _, _, _, _, _, _, hl2, ⟨q0, q1, q2, q3, q4, q5, q6, q7⟩, _⟩ := row8_at (l := [a0, a1, a2, a3, a4, a5, a6, a7]) hrow rfl
      simp only [List.cons.injEq, and_true] at hl2
      obtain ⟨rfl, rfl, rfl, rfl, rfl, rfl, rfl, rfl⟩ := hl2
      try simp only [Exit.inBlock, Exit.then]
      refine bodyPost_ret (by simp [results, Try.results39, go_sem, q0, q1, q2, q3, q4, q5, q6, q7]; rfl) rfl ?_
      exact ⟨by rw [HL.out], hchg⟩
end Go.Proofs.Ytbgnplgdknbmoaa
