/- append of elements that rest on memory: what its run gives; in a region of open order. -/
import Derived.Test.YthjlgcooihpakaaKit
import Derived.Deep.RegionHeld3
import Derived.Deep.DrawnRows
namespace Go.Proofs.Ythjlgcooihpakaa
open Go.RowKit
set_option linter.unusedVariables false
section
variable {P : Program} {α : Type} {d : Kd α} {w : World}
theorem run_append_R (t ty e : TypeId) (z : Value) (bytes : Nat) (ht : P.underlying t = some (.slice e)) (hinfo : (P.info? e).map (fun i => (i.zero, i.size, i.bytes)) = some (some z, d.sz, bytes)) (hz : z.cells.size = d.sz)
    (base : Nat) (ok ok2 : Nat → Prop) (v : Value) (xs ys : List α) (A : Option Addr) (m c : Nat) (hm : ys.length = m)
    (hr : d.R e w base ok v xs) (hy : d.C w ok2 A ys) (hne : ∀ k, ok2 k → some k ≠ v.ownBlock) (h63 : xs.length + ys.length ≤ maxLen) (hbytes : (xs.length + ys.length) * bytes ≤ 140737488355328) (hbase : base ≤ w.heap.size)
    (len : Nat) (hlen : xs.length + m = len) :
    ∃ A' c' w', (Builtin.append_ #[t, t] ty #[v, .slice A m c]).run P w = .ok (.slice A' len c') w' ∧ d.R e w' base (fun k => ok k ∨ ok2 k ∨ w.heap.size ≤ k) (.slice A' len c') (xs ++ ys) ∧ Chg (fun k => some k = v.ownBlock) w w' ∧ ((Value.slice A' len c').ownBlock = v.ownBlock ∨ (Value.slice A' len c').ownBlock = some w.heap.size) := by
  subst hm
  obtain ⟨i, hi, hzz⟩ := Option.map_eq_some_iff.1 hinfo
  simp only [Prod.mk.injEq] at hzz
  obtain ⟨hz0, hz1, hz2⟩ := hzz
  have chg : ∀ w', w.grownBy w' v.ownBlock → Chg (fun k => some k = v.ownBlock) w w' := fun w' hg => ⟨hg.os, hg.tape, hg.output, hg.size, fun k hk hne => hg.block k hk hne⟩
  have own2 : ∀ zs, w.ownsRow base e d.sz v xs.length zs → ∀ us : List Value, us.length = ys.length * d.sz → (0 < ys.length → ∀ ad, A = some ad → ∀ j u, us[j]? = some u → w.cell? (ad.add j) = some u) → (∀ u ∈ us, u.oneCell' = true) →
      ∃ v' w', (Builtin.append_ #[t, t] ty #[v, .slice A ys.length c]).run P w = .ok v' w' ∧ w'.ownsRow base e d.sz v' (xs.length + ys.length) (zs ++ us) ∧ w.grownBy w' v.ownBlock ∧ (v'.ownBlock = v.ownBlock ∨ v'.ownBlock = some w.heap.size) := by
    intro zs hown us hl hus h1
    rcases Nat.eq_zero_or_pos ys.length with hy0 | hy0
    · have hu : us = [] := List.eq_nil_of_length_eq_zero (by rw [hl, hy0, Nat.zero_mul])
      subst hu
      refine ⟨v, w, ?_, by simpa [hy0] using hown, World.grownBy.refl w _, .inl rfl⟩
      rw [hy0]
      rcases hown.2 with ⟨rfl, h0⟩ | ⟨g, cap, cur, rfl, _, _, hnc, _⟩
      · cases A <;> simp [Builtin.append_, run_underlying ht, sizeOf, typeInfo, hi, Builtin.lenOf, Builtin.firstCells, loadCells, loadCellsFrom]
      · cases A <;> simp [Builtin.append_, run_underlying ht, sizeOf, typeInfo, hi, Builtin.lenOf, Builtin.firstCells, hnc, storeCells, loadCells, loadCellsFrom]
    · obtain ⟨k1, inner, kr, kc⟩ := hy
      obtain ⟨ad, rfl, _, _⟩ := kc hy0
      obtain ⟨v', w', hrun, h2, h3, _, h5⟩ := run_append_own_at (P := P) w base t ty e i z d.sz bytes ht hi hz0 hz1 hz2 hz d.pos v xs.length zs hown ad ys.length c us hl (hus hy0 ad rfl) h1 h63 hbytes hbase
      exact ⟨v', w', hrun, h2, h3, h5⟩
  obtain ⟨h0, zs, hown, hrp⟩ := hr
  obtain ⟨k1, us, ku, kc⟩ := hy
  obtain ⟨v', w', hrun, h2, h3, h5⟩ := own2 zs hown us ku.1 (fun hp ad e j u hu => by
    obtain ⟨ad', e', _, hx⟩ := kc hp
    rw [e] at e'
    cases e'
    exact hx j u hu) (Reps.one_ (fun x c hx => d.one hx) d.pos ku)
  have hR : d.R e w' base (fun k => ok k ∨ ok2 k ∨ w.heap.size ≤ k) v' (xs ++ ys) := by
    refine Kd.R_appended (w := w) (v := v) (A := A) ⟨h0, zs, hown, hrp⟩ ⟨k1, us, ku, kc⟩ hne h3 h5 ?_
    intro zs' us' hown' hl' hus' h1'
    obtain ⟨v2, w2, hrun2, h22, _⟩ := own2 zs' hown' us' hl' hus' h1'
    rw [hrun] at hrun2
    cases hrun2
    exact h22
  obtain ⟨A', c', hv, _⟩ := Kd.R_slice' hR (m := len) (by rw [List.length_append]; exact hlen)
  subst hv
  exact ⟨A', c', w', hrun, hR, chg w' h3, h5⟩
end
section
variable {P : Program} {ops : Array Oper} {o : Oper} {a : Act} {w : World} {K : Act → World → Prop} {Q : Exit → Act → World → Prop} {E : Prop} {α : Type} {d : Kd α}
/-- append(v, ys...) -/
theorem step_append (hgd : o.guard = none) (s x : Operand) (t : TypeId)
    (ho : o.op = .call { callee := .builtin .append, args := #[s, x], argTypes := #[t, t] })
    (e : TypeId) (z : Value) (bytes : Nat) (ht : P.underlying t = some (.slice e)) (hinfo : (P.info? e).map (fun i => (i.zero, i.size, i.bytes)) = some (some z, d.sz, bytes)) (hz : z.cells.size = d.sz)
    (base : Nat) (ok ok2 : Nat → Prop) (v : Value) (xs ys : List α) (A : Option Addr) (m c : Nat) (hs : a.eval s = v) (hx : a.eval x = .slice A m c) (hm : ys.length = m)
    (hr : d.R e w base ok v xs) (hy : d.C w ok2 A ys) (hne : ∀ k, ok2 k → some k ≠ v.ownBlock) (h63 : xs.length + ys.length ≤ maxLen) (hbytes : (xs.length + ys.length) * bytes ≤ 140737488355328) (hbase : base ≤ w.heap.size)
    (len : Nat) (hlen : xs.length + m = len) (h : ∀ A' c' w', d.R e w' base (fun k => ok k ∨ ok2 k ∨ w.heap.size ≤ k) (.slice A' len c') (xs ++ ys) → Chg (fun k => some k = v.ownBlock) w w' → ((Value.slice A' len c').ownBlock = v.ownBlock ∨ (Value.slice A' len c').ownBlock = some w.heap.size) → K (a.put o.dst (.slice A' len c')) w') :
    if Region.wanted o (yielded ops a.tmps) = true then Oper.wp P o a w K Q else E := by
  obtain ⟨A', c', w', hrun, hR, hC, hO⟩ := run_append_R (P := P) t o.type e z bytes ht hinfo hz base ok ok2 v xs ys A m c hm hr hy hne h63 hbytes hbase len hlen
  rw [if_pos (show Region.wanted o (yielded ops a.tmps) = true from by simp [Region.wanted, hgd])]
  unfold Oper.wp execOp
  simp only [ho, resolve, invoke, builtin, Sem.run_bind, Sem.run_pure, Result.andThen_ok, List.map_toArray, List.map_cons, List.map_nil, hs, hx, hrun]
  exact h A' c' w' hR hC hO
/-- append(v, y), y in a box at g, the newest block. -/
theorem step_append1 (hgd : o.guard = none) (s x : Operand) (t : TypeId)
    (ho : o.op = .call { callee := .builtin .append, args := #[s, x], argTypes := #[t, t] })
    (e : TypeId) (z : Value) (bytes : Nat) (ht : P.underlying t = some (.slice e)) (hinfo : (P.info? e).map (fun i => (i.zero, i.size, i.bytes)) = some (some z, d.sz, bytes)) (hz : z.cells.size = d.sz)
    (base : Nat) (ok ok2 : Nat → Prop) (v : Value) (xs : List α) (y : α) (cs : Array Value) (g : Nat) (hg : w.heap.size = g) (hs : a.eval s = v) (hx : a.eval x = .slice (some ⟨g, 0, none⟩) 1 1)
    (hr : d.R e w base ok v xs) (hy : d.K w ok2 y cs.toList) (hne : ∀ k, ok2 k → some k ≠ v.ownBlock) (h63 : xs.length + 1 ≤ maxLen) (hbytes : (xs.length + 1) * bytes ≤ 140737488355328) (hbase : base ≤ w.heap.size)
    (len : Nat) (hlen : xs.length + 1 = len) (h : ∀ A' c' w', d.R e w' base (fun k => (ok k ∨ ok2 k ∨ w.heap.size ≤ k) ∧ k < w'.heap.size) (.slice A' len c') (xs ++ [y]) → Chg (fun k => some k = v.ownBlock) w w' → ((Value.slice A' len c').ownBlock = v.ownBlock ∨ ∃ k, (Value.slice A' len c').ownBlock = some k ∧ w.heap.size ≤ k) → K (a.put o.dst (.slice A' len c')) w') :
    if Region.wanted o (yielded ops a.tmps) = true then Oper.wp P o a (w.alloc (.cells cs e)) K Q else E := by
  subst hg
  have c0 : Chg nob w (w.alloc (.cells cs e)) := (Chg.refl _ _).alloc _
  refine step_append (d := d) hgd s x t ho e z bytes ht hinfo hz base ok (fun k => ok2 k ∨ k = w.heap.size) v xs [y] (some ⟨w.heap.size, 0, none⟩) 1 1 hs hx rfl (Kd.R_new hr c0) (boxed e hy) ?_ (by simpa using h63) (by simpa using hbytes) (by simp; omega) len hlen ?_
  · rintro k (hk | rfl)
    · exact hne k hk
    · intro e
      have := (Kd.R_own hr _ e.symm).2
      omega
  · intro A' c' w' hR hC hat
    refine h A' c' w' (Kd.R_mono (Kd.R_bound hR) ?_) ?_ ?_
    · rintro k ⟨hk | (hk | rfl) | hk, hl⟩
      · exact ⟨.inl hk, hl⟩
      · exact ⟨.inr (.inl hk), hl⟩
      · exact ⟨.inr (.inr (Nat.le_refl _)), hl⟩
      · exact ⟨.inr (.inr (by simp at hk; omega)), hl⟩
    · exact (c0.ofNew (S := fun k => some k = v.ownBlock)).trans hC (fun i hi => .inl hi)
    · rcases hat with hat | hat
      · exact .inl hat
      · exact .inr ⟨_, hat, by simp⟩
end
end Go.Proofs.Ythjlgcooihpakaa
