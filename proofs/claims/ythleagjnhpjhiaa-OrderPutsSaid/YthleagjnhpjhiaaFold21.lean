import Derived.Test.YthleagjnhpjhiaaFold01
import Derived.Deep.RegionHeld3
import Derived.Deep.DrawnRows
import Derived.Test.YthleagjnhpjhiaaFold11
import Derived.Test.YthleagjnhpjhiaaFold06
/- append of flat elements in a region of open order. -/
namespace Go.Proofs.Ythleagjnhpjhiaa
open Go.RowKit
set_option linter.unusedVariables false
section
variable {P : Program} {ops : Array Oper} {o : Oper} {a : Act} {w : World} {K : Act → World → Prop} {Q : Exit → Act → World → Prop} {E : Prop} {α : Type} {d : Kd α}
theorem step_appendF (hf : d.Flat) (hgd : o.guard = none) (s x : Operand) (t : TypeId)
    (ho : o.op = .call { callee := .builtin .append, args := #[s, x], argTypes := #[t, t] })
    (e : TypeId) (z : Value) (bytes : Nat) (ht : P.underlying t = some (.slice e)) (hinfo : (P.info? e).map (fun i => (i.zero, i.size, i.bytes)) = some (some z, d.sz, bytes)) (hz : z.cells.size = d.sz)
    (base : Nat) (ok ok2 : Nat → Prop) (v : Value) (xs ys : List α) (A : Option Addr) (m c : Nat) (hs : a.eval s = v) (hx : a.eval x = .slice A m c) (hm : ys.length = m)
    (hr : d.R e w base ok v xs) (hy : d.C w ok2 A ys) (h63 : xs.length + ys.length ≤ maxLen) (hbytes : (xs.length + ys.length) * bytes ≤ 140737488355328) (hbase : base ≤ w.heap.size)
    (len : Nat) (hlen : xs.length + m = len) (h : ∀ A' c' w', d.R e w' base (fun k => some k = (Value.slice A' len c').ownBlock) (.slice A' len c') (xs ++ ys) → Chg (fun k => some k = v.ownBlock) w w' → ((Value.slice A' len c').ownBlock = v.ownBlock ∨ (Value.slice A' len c').ownBlock = some w.heap.size) → K (a.put o.dst (.slice A' len c')) w') :
    if Region.wanted o (yielded ops a.tmps) = true then Oper.wp P o a w K Q else E := by
  subst hm
  obtain ⟨i, hi, hzz⟩ := Option.map_eq_some_iff.1 hinfo
  simp only [Prod.mk.injEq] at hzz
  obtain ⟨hz0, hz1, hz2⟩ := hzz
  have chg : ∀ w', w.grownBy w' v.ownBlock → Chg (fun k => some k = v.ownBlock) w w' := fun w' hg => ⟨hg.os, hg.tape, hg.output, hg.size, fun k hk hne => hg.block k hk hne⟩
  obtain ⟨h0, zs, hown, hrp⟩ := hr
  obtain ⟨k1, us, ku, kc⟩ := hy
  have main : ∃ v' w', (Builtin.append_ #[t, t] o.type #[v, .slice A ys.length c]).run P w = .ok v' w' ∧ w'.ownsRow base e d.sz v' (xs.length + ys.length) (zs ++ us) ∧ w.grownBy w' v.ownBlock ∧ (v'.ownBlock = v.ownBlock ∨ v'.ownBlock = some w.heap.size) := by
    rcases Nat.eq_zero_or_pos ys.length with hy0 | hy0
    · have hu : us = [] := List.eq_nil_of_length_eq_zero (by rw [ku.1, hy0, Nat.zero_mul])
      subst hu
      refine ⟨v, w, ?_, by simpa [hy0] using hown, World.grownBy.refl w _, .inl rfl⟩
      rw [hy0]
      rcases hown.2 with ⟨rfl, h0⟩ | ⟨g, cap, cur, rfl, _, _, hnc, _⟩
      · cases A <;> simp [Builtin.append_, run_underlying ht, sizeOf, typeInfo, hi, Builtin.lenOf, Builtin.firstCells, loadCells, loadCellsFrom]
      · cases A <;> simp [Builtin.append_, run_underlying ht, sizeOf, typeInfo, hi, Builtin.lenOf, Builtin.firstCells, hnc, storeCells, loadCells, loadCellsFrom]
    · obtain ⟨ad, rfl, _, hcell⟩ := kc hy0
      obtain ⟨v', w', hrun, h2, h3, _, h5⟩ := run_append_own_at (P := P) w base t o.type e i z d.sz bytes ht hi hz0 hz1 hz2 hz d.pos v xs.length zs hown ad ys.length c us ku.1 hcell (Reps.one_ (fun x c hx => d.one hx) d.pos ku) h63 hbytes hbase
      exact ⟨v', w', hrun, h2, h3, h5⟩
  obtain ⟨v', w', hrun, h2, h3, h5⟩ := main
  rw [if_pos (show Region.wanted o (yielded ops a.tmps) = true from by simp [Region.wanted, hgd])]
  unfold Oper.wp execOp
  simp only [ho, resolve, invoke, builtin, Sem.run_bind, Sem.run_pure, Result.andThen_ok, List.map_toArray, List.map_cons, List.map_nil, hs, hx, hrun]
  have hR : d.R e w' base (fun k => some k = v'.ownBlock) v' (xs ++ ys) := ⟨fun k hk => hk.symm, zs ++ us, by rw [List.length_append]; exact h2, Reps.append (hrp.imp (fun _ _ hx => hf hx)) (ku.imp (fun _ _ hx => hf hx))⟩
  obtain ⟨A', c', hv, _⟩ := Kd.R_slice' hR (m := len) (by rw [List.length_append]; exact hlen)
  subst hv
  exact h A' c' w' hR (chg w' h3) h5
end
end Go.Proofs.Ythleagjnhpjhiaa

/- append in a region of open order; and what a region's first part leaves may say more (S is turned on the way). -/
namespace Go.Proofs.Ythleagjnhpjhiaa
open Go.RowKit
set_option maxRecDepth 100000
set_option linter.unusedVariables false
section
variable {ops : Array Oper} {o : Oper} {a : Act} {w : World} {K : Act → World → Prop} {Q : Exit → Act → World → Prop} {E : Prop}
theorem step_appB (hgd : o.guard = none) (s x : Operand) (ho : o.op = .call { callee := .builtin .append, args := #[s, x], argTypes := #[32, 32] })
    (base : Nat) (ok ok2 : Nat → Prop) (v : Value) (xs ys : List UInt8) (A : Option Addr) (m c : Nat) (hs : a.eval s = v) (hx : a.eval x = .slice A m c) (hm : ys.length = m)
    (hr : Kd.byte.R 5 w base ok v xs) (hy : Kd.byte.C w ok2 A ys) (hbase : base ≤ w.heap.size) (len : Nat) (hlen : xs.length + m = len) (hl : len ≤ 140737488355328)
    (h : ∀ A' c' w', Kd.byte.R 5 w' base (fun k => some k = (Value.slice A' len c').ownBlock) (.slice A' len c') (xs ++ ys) → Chg (fun k => some k = v.ownBlock) w w' → ((Value.slice A' len c').ownBlock = v.ownBlock ∨ (Value.slice A' len c').ownBlock = some w.heap.size) → K (a.put o.dst (.slice A' len c')) w') :
    if Region.wanted o (yielded ops a.tmps) = true then Oper.wp Try.prog o a w K Q else E :=
  step_appendF (d := Kd.byte) Kd.scalar_flat hgd s x 32 ho 5 (.int .u8 0) 1 Try.underlying32 u8_info rfl base ok ok2 v xs ys A m c hs hx hm hr hy (by unfold maxLen; omega) (by omega) hbase len hlen h
end
end Go.Proofs.Ythleagjnhpjhiaa
