import Derived.Test.YtcibdcahcpcmaaaFold22
import Derived.Test.YtcibdcahcpcmaaaFold01
import Derived.Deep.RegionHeld3
import Derived.Deep.DrawnRows
import Derived.Test.YtcibdcahcpcmaaaFold20
import Derived.Test.YtcibdcahcpcmaaaFold12
/- A sum's eight bytes: what a call of laid does. -/
namespace Go.Proofs.Ytcibdcahcpcmaaa
open Go.RowKit
set_option maxRecDepth 100000
set_option linter.unusedVariables false
set_option linter.unusedSimpArgs false
/-- The array's bytes behind j rounds. -/
def laidB (n j : Nat) : List UInt8 := List.replicate (8 - j) 0 ++ (beB n).drop (8 - j)
theorem laidB_len {n j : Nat} (hj : j ≤ 8) : (laidB n j).length = 8 := by simp [laidB, beB_len]
theorem laidB_end (n : Nat) : laidB n 8 = beB n := rfl
theorem laidB_set {n j : Nat} (hj : j < 8) : (laidB n j).set (7 - j) (UInt8.ofNat (n / 2 ^ (8 * j) % 256)) = laidB n (j + 1) := by
  have : j = 0 ∨ j = 1 ∨ j = 2 ∨ j = 3 ∨ j = 4 ∨ j = 5 ∨ j = 6 ∨ j = 7 := by omega
  rcases this with rfl | rfl | rfl | rfl | rfl | rfl | rfl | rfl <;> simp [laidB, beB]
def row8 (l : List UInt8) (t : Nat) : Obj := .cells (l.map encB).toArray t (0, 0)
theorem row8_at {w : World} {g t : Nat} {l : List UInt8} (h : w.heap[g]? = some (row8 l t)) (hl : l.length = 8) :
    ∃ a0 a1 a2 a3 a4 a5 a6 a7, l = [a0, a1, a2, a3, a4, a5, a6, a7] ∧ (w.cell? ⟨g, 0, none⟩ = some (Value.int .u8 (a0.toNat : Int)) ∧ w.cell? ⟨g, 1, none⟩ = some (Value.int .u8 (a1.toNat : Int)) ∧ w.cell? ⟨g, 2, none⟩ = some (Value.int .u8 (a2.toNat : Int)) ∧ w.cell? ⟨g, 3, none⟩ = some (Value.int .u8 (a3.toNat : Int)) ∧ w.cell? ⟨g, 4, none⟩ = some (Value.int .u8 (a4.toNat : Int)) ∧ w.cell? ⟨g, 5, none⟩ = some (Value.int .u8 (a5.toNat : Int)) ∧ w.cell? ⟨g, 6, none⟩ = some (Value.int .u8 (a6.toNat : Int)) ∧ w.cell? ⟨g, 7, none⟩ = some (Value.int .u8 (a7.toNat : Int))) ∧ ∀ j, w.frozen? ⟨g, j, none⟩ = false := by
  match l, hl with
  | [a0, a1, a2, a3, a4, a5, a6, a7], _ =>
    refine ⟨a0, a1, a2, a3, a4, a5, a6, a7, rfl, ⟨?_, ?_, ?_, ?_, ?_, ?_, ?_, ?_⟩, fun j => by simp [World.frozen?, h, row8]⟩ <;> rw [cell_of_row w g _ _ _ _ h] <;> rfl
structure LaidSt (w0 : World) (r g n j : Nat) (w : World) : Prop where
  c : w.heap[g]? = some (row8 (laidB n j) 113)
  row : w.heap[r]? = some (row8 (laidB 0 0) 113)
  ne : r ≠ g
  new : w0.heap.size ≤ g
  newr : w0.heap.size ≤ r
  chg : Chg nob w0 w
theorem LaidSt.start (w : World) (n : Nat) : LaidSt w w.heap.size (w.heap.size + 1) n 0 ((w.alloc (.cells #[.int .u8 0, .int .u8 0, .int .u8 0, .int .u8 0, .int .u8 0, .int .u8 0, .int .u8 0, .int .u8 0] 113)).alloc (.cells #[.int .u8 0, .int .u8 0, .int .u8 0, .int .u8 0, .int .u8 0, .int .u8 0, .int .u8 0, .int .u8 0] 113)) := by
  have h5 := heap_alloc_new w (.cells #[.int .u8 0, .int .u8 0, .int .u8 0, .int .u8 0, .int .u8 0, .int .u8 0, .int .u8 0, .int .u8 0] 113)
  exact ⟨alloc2_row0 w _ _, ((Chg.refl nob _).alloc _).heap h5 (not_nob _), by omega, by omega, by omega, alloc2_chg0 w _ _⟩
theorem LaidSt.step {w0 w : World} {r g n j : Nat} (h : LaidSt w0 r g n j w) (hj : j < 8) : LaidSt w0 r g n (j + 1) (w.setCell ⟨g, 7 - j, none⟩ (encB (UInt8.ofNat (n / 2 ^ (8 * j) % 256)))) := by
  refine ⟨?_, (Chg.set1 (g := g) (Chg.refl _ w) _ _).heap h.row h.ne, h.ne, h.new, h.newr, h.chg.setCell (.inr h.new) _⟩
  have := block_set (i := 7 - j) (b := UInt8.ofNat (n / 2 ^ (8 * j) % 256)) h.c
  rw [laidB_set hj] at this
  exact this
def set8 (w : World) (r : Nat) (a0 a1 a2 a3 a4 a5 a6 a7 : Value) : World := (((((((w.setCell ⟨r, 0, none⟩ a0).setCell ⟨r, 1, none⟩ a1).setCell ⟨r, 2, none⟩ a2).setCell ⟨r, 3, none⟩ a3).setCell ⟨r, 4, none⟩ a4).setCell ⟨r, 5, none⟩ a5).setCell ⟨r, 6, none⟩ a6).setCell ⟨r, 7, none⟩ a7
theorem set8_row {w : World} {r t : Nat} {b0 b1 b2 b3 b4 b5 b6 b7 : Value} (h : w.heap[r]? = some (.cells #[b0, b1, b2, b3, b4, b5, b6, b7] t (0, 0))) (a0 a1 a2 a3 a4 a5 a6 a7 : Value) : (set8 w r a0 a1 a2 a3 a4 a5 a6 a7).heap[r]? = some (.cells #[a0, a1, a2, a3, a4, a5, a6, a7] t (0, 0)) := by
  simp [set8, World.setCell, Array.getElem?_modify, h]
theorem set8_chg {w0 w : World} {S : Nat → Prop} {r : Nat} (h : Chg S w0 w) (hr : S r ∨ w0.heap.size ≤ r) (a0 a1 a2 a3 a4 a5 a6 a7 : Value) : Chg S w0 (set8 w r a0 a1 a2 a3 a4 a5 a6 a7) :=
  (((((((h.setCell (p := ⟨r, 0, none⟩) hr a0).setCell (p := ⟨r, 1, none⟩) hr a1).setCell (p := ⟨r, 2, none⟩) hr a2).setCell (p := ⟨r, 3, none⟩) hr a3).setCell (p := ⟨r, 4, none⟩) hr a4).setCell (p := ⟨r, 5, none⟩) hr a5).setCell (p := ⟨r, 6, none⟩) hr a6).setCell (p := ⟨r, 7, none⟩) hr a7
theorem byte_div (n j : Nat) : Value.int .u8 ((n : Int) / 2 ^ (8 * j) % 256) = encB (UInt8.ofNat (n / 2 ^ (8 * j) % 256)) := by
  rw [← byte_mod]
  congr 2
theorem s_laid {w : World} (n : Nat) (hn : n < 18446744073709551616) :
    Calls Try.prog 61 #[.int .u64 n] w fun e w' => e = .returned (.agg ((beB n).map encB).toArray) ∧ Chg nob w w' := by
  have hst := LaidSt.start w n
  go_enter Try.func61, Try.ntmps61
  go_wp2
  generalize w.heap.size + 1 = g at hst ⊢
  generalize hr : w.heap.size = r at hst ⊢
  generalize (World.alloc _ _ : World) = w1 at hst ⊢
  go_loopw [5] (fun i wr => ∃ j : Nat, j ≤ 8 ∧ i = .int .i64 j ∧ LaidSt w r g n j wr) (fun i _ => 8 - (intOf i).toNat)
  case atStart => exact ⟨0, by decide, rfl, hst⟩
  case round =>
    obtain ⟨j, hj, rfl, hs⟩ := hrel
    clear hst
    by_cases hlt : j < 8
    · have b1 : (j : Int) < 8 := by omega
      obtain ⟨⟨v0, hv0⟩, f0⟩ := block_at (i := 7 - j) hs.c (by rw [laidB_len hj]; omega)
      have b2 : (0 : Int) ≤ 7 - (j : Int) := by omega
      have b3 : 7 - (j : Int) < 8 := by omega
      have HS := Lib.hid hs
      clear hs
      go_wp2
      refine ⟨⟨j + 1, by omega, by go_num, ?_⟩, by simp [intOf]; omega⟩
      rw [byte_div]
      exact HS.out.step hlt
    · have b1 : ¬ (j : Int) < 8 := by omega
      have h8 : j = 8 := by omega
      subst h8
      obtain ⟨a0, a1, a2, a3, a4, a5, a6, a7, hl, ⟨c0, c1, c2, c3, c4, c5, c6, c7⟩, _⟩ := row8_at hs.c (laidB_len (Nat.le_refl _))
      obtain ⟨_, _, _, _, _, _, _, _, _, ⟨d0, d1, d2, d3, d4, d5, d6, d7⟩, df⟩ := row8_at hs.row (laidB_len (by decide))
      have f0 := df 0
      have f1 := df 1
      have f2 := df 2
      have f3 := df 3
      have f4 := df 4
      have f5 := df 5
      have f6 := df 6
      have f7 := df 7
      have hrow := set8_row (show wr.heap[r]? = some (.cells #[encB 0, encB 0, encB 0, encB 0, encB 0, encB 0, encB 0, encB 0] 113 (0, 0)) from hs.row) (Value.int .u8 (a0.toNat : Int)) (Value.int .u8 (a1.toNat : Int)) (Value.int .u8 (a2.toNat : Int)) (Value.int .u8 (a3.toNat : Int)) (Value.int .u8 (a4.toNat : Int)) (Value.int .u8 (a5.toNat : Int)) (Value.int .u8 (a6.toNat : Int)) (Value.int .u8 (a7.toNat : Int))
      have hchg := set8_chg hs.chg (r := r) (.inr hs.newr) (Value.int .u8 (a0.toNat : Int)) (Value.int .u8 (a1.toNat : Int)) (Value.int .u8 (a2.toNat : Int)) (Value.int .u8 (a3.toNat : Int)) (Value.int .u8 (a4.toNat : Int)) (Value.int .u8 (a5.toNat : Int)) (Value.int .u8 (a6.toNat : Int)) (Value.int .u8 (a7.toNat : Int))
      have HL : Hid (((beB n).map encB).toArray = #[Value.int .u8 (a0.toNat : Int), Value.int .u8 (a1.toNat : Int), Value.int .u8 (a2.toNat : Int), Value.int .u8 (a3.toNat : Int), Value.int .u8 (a4.toNat : Int), Value.int .u8 (a5.toNat : Int), Value.int .u8 (a6.toNat : Int), Value.int .u8 (a7.toNat : Int)]) := by show _ = _; rw [← laidB_end, hl]; rfl
      have HROW := Lib.hid hrow
      have HCHG := Lib.hid hchg
      clear df hs hl hrow hchg
      go_wp2
      have hrow := HROW.out
      have hchg := HCHG.out
      unfold set8 at hrow hchg
      generalize (World.setCell _ (⟨r, 7, none⟩ : Addr) _) = w9 at hrow hchg ⊢
      obtain ⟨_, _, _, _, _, _, _, _, hl2, ⟨q0, q1, q2, q3, q4, q5, q6, q7⟩, _⟩ := row8_at (l := [a0, a1, a2, a3, a4, a5, a6, a7]) hrow rfl
      simp only [List.cons.injEq, and_true] at hl2
      obtain ⟨rfl, rfl, rfl, rfl, rfl, rfl, rfl, rfl⟩ := hl2
      try simp only [Exit.inBlock, Exit.then]
      refine bodyPost_ret (by simp [results, Try.results61, go_sem, q0, q1, q2, q3, q4, q5, q6, q7]; rfl) rfl ?_
      exact ⟨by rw [HL.out], hchg⟩
end Go.Proofs.Ytcibdcahcpcmaaa

/- append of flat elements in a region of open order. -/
namespace Go.Proofs.Ytcibdcahcpcmaaa
open Go.RowKit
set_option linter.unusedVariables false
section
variable {P : Program} {ops : Array Oper} {o : Oper} {a : Act} {w : World} {K : Act → World → Prop} {Q : Exit → Act → World → Prop} {E : Prop} {α : Type} {d : Kd α}
theorem step_appendF (hf : d.Flat) (hgd : o.guard = none) (s x : Operand) (t : TypeId)
    (ho : o.op = .call { callee := .builtin .append, args := #[s, x], argTypes := #[t, t] })
    (e : TypeId) (z : Value) (bytes : Nat) (ht : P.underlying t = some (.slice e)) (hinfo : (P.info? e).map (fun i => (i.zero, i.size, i.bytes)) = some (some z, d.sz, bytes)) (hz : z.cells.size = d.sz)
    (base : Nat) (ok ok2 : Nat → Prop) (v : Value) (xs ys : List α) (A : Option Addr) (m c : Nat) (hs : a.eval s = v) (hx : a.eval x = .slice A m c) (hm : ys.length = m)
    (hr : d.R e w base ok v xs) (hy : d.C w ok2 A ys) (h63 : xs.length + ys.length ≤ maxLen) (hbytes : (xs.length + ys.length) * bytes ≤ 140737488355328) (hbase : base ≤ w.heap.size)
    (len : Nat) (hlen : xs.length + m = len) (h : ∀ A' c' w', d.R e w' base (fun k => some k = (Value.slice A' len c').ownBlock) (.slice A' len c') (xs ++ ys) → Chg (fun k => some k = v.ownBlock) w w' → ((Value.slice A' len c').ownBlock = v.ownBlock ∨ (Value.slice A' len c').ownBlock = some w.heap.size) → K (a.put o.dst (.slice A' len c')) w') :
    if Region.wanted o (yielded ops a.tmps) = true then Oper.wp P o a w K Q else E := by
  subst hm
  obtain ⟨i, hi, hzz⟩ := Option.map_eq_some_iff.1 hinfo
  simp only [Prod.mk.injEq] at hzz
  obtain ⟨hz0, hz1, hz2⟩ := hzz
  have chg : ∀ w', w.grownBy w' v.ownBlock → Chg (fun k => some k = v.ownBlock) w w' := fun w' hg => ⟨hg.os, hg.tape, hg.output, hg.size, fun k hk hne => hg.block k hk hne⟩
  obtain ⟨h0, zs, hown, hrp⟩ := hr
  obtain ⟨k1, us, ku, kc⟩ := hy
  have main : ∃ v' w', (Builtin.append_ #[t, t] o.type #[v, .slice A ys.length c]).run P w = .ok v' w' ∧ w'.ownsRow base e d.sz v' (xs.length + ys.length) (zs ++ us) ∧ w.grownBy w' v.ownBlock ∧ (v'.ownBlock = v.ownBlock ∨ v'.ownBlock = some w.heap.size) := by
    rcases Nat.eq_zero_or_pos ys.length with hy0 | hy0
    · have hu : us = [] := List.eq_nil_of_length_eq_zero (by rw [ku.1, hy0, Nat.zero_mul])
      subst hu
      refine ⟨v, w, ?_, by simpa [hy0] using hown, World.grownBy.refl w _, .inl rfl⟩
      rw [hy0]
      rcases hown.2 with ⟨rfl, h0⟩ | ⟨g, cap, cur, rfl, _, _, hnc, _⟩
      · cases A <;> simp [Builtin.append_, run_underlying ht, sizeOf, typeInfo, hi, Builtin.lenOf, Builtin.firstCells, loadCells, loadCellsFrom]
      · cases A <;> simp [Builtin.append_, run_underlying ht, sizeOf, typeInfo, hi, Builtin.lenOf, Builtin.firstCells, hnc, storeCells, loadCells, loadCellsFrom]
    · obtain ⟨ad, rfl, _, hcell⟩ := kc hy0
      obtain ⟨v', w', hrun, h2, h3, _, h5⟩ := run_append_own_at (P := P) w base t o.type e i z d.sz bytes ht hi hz0 hz1 hz2 hz d.pos v xs.length zs hown ad ys.length c us ku.1 hcell (Reps.one_ (fun x c hx => d.one hx) d.pos ku) h63 hbytes hbase
      exact ⟨v', w', hrun, h2, h3, h5⟩
  obtain ⟨v', w', hrun, h2, h3, h5⟩ := main
  rw [if_pos (show Region.wanted o (yielded ops a.tmps) = true from by simp [Region.wanted, hgd])]
  unfold Oper.wp execOp
  simp only [ho, resolve, invoke, builtin, Sem.run_bind, Sem.run_pure, Result.andThen_ok, List.map_toArray, List.map_cons, List.map_nil, hs, hx, hrun]
  have hR : d.R e w' base (fun k => some k = v'.ownBlock) v' (xs ++ ys) := ⟨fun k hk => hk.symm, zs ++ us, by rw [List.length_append]; exact h2, Reps.append (hrp.imp (fun _ _ hx => hf hx)) (ku.imp (fun _ _ hx => hf hx))⟩
  obtain ⟨A', c', hv, _⟩ := Kd.R_slice' hR (m := len) (by rw [List.length_append]; exact hlen)
  subst hv
  exact h A' c' w' hR (chg w' h3) h5
end
end Go.Proofs.Ytcibdcahcpcmaaa

/- append in a region of open order; and what a region's first part leaves may say more (S is turned on the way). -/
namespace Go.Proofs.Ytcibdcahcpcmaaa
open Go.RowKit
set_option maxRecDepth 100000
set_option linter.unusedVariables false
section
variable {ops : Array Oper} {o : Oper} {a : Act} {w : World} {K : Act → World → Prop} {Q : Exit → Act → World → Prop} {E : Prop}
theorem step_appB (hgd : o.guard = none) (s x : Operand) (ho : o.op = .call { callee := .builtin .append, args := #[s, x], argTypes := #[26, 26] })
    (base : Nat) (ok ok2 : Nat → Prop) (v : Value) (xs ys : List UInt8) (A : Option Addr) (m c : Nat) (hs : a.eval s = v) (hx : a.eval x = .slice A m c) (hm : ys.length = m)
    (hr : Kd.byte.R 5 w base ok v xs) (hy : Kd.byte.C w ok2 A ys) (hbase : base ≤ w.heap.size) (len : Nat) (hlen : xs.length + m = len) (hl : len ≤ 140737488355328)
    (h : ∀ A' c' w', Kd.byte.R 5 w' base (fun k => some k = (Value.slice A' len c').ownBlock) (.slice A' len c') (xs ++ ys) → Chg (fun k => some k = v.ownBlock) w w' → ((Value.slice A' len c').ownBlock = v.ownBlock ∨ (Value.slice A' len c').ownBlock = some w.heap.size) → K (a.put o.dst (.slice A' len c')) w') :
    if Region.wanted o (yielded ops a.tmps) = true then Oper.wp Try.prog o a w K Q else E :=
  step_appendF (d := Kd.byte) Kd.scalar_flat hgd s x 26 ho 5 (.int .u8 0) 1 Try.underlying26 u8_info rfl base ok ok2 v xs ys A m c hs hx hm hr hy (by unfold maxLen; omega) (by omega) hbase len hlen h
end
end Go.Proofs.Ytcibdcahcpcmaaa
