import Derived.Test.YtcibdcahcpcmaaaFold47
import Derived.Test.YtcibdcahcpcmaaaFold01
import Derived.Deep.MidRow
/- A cache and the reference's cache, side by side. -/
namespace Go.Proofs.Ytcibdcahcpcmaaa
open Go.RowKit
set_option linter.unusedVariables false
set_option linter.unusedSimpArgs false
set_option maxRecDepth 100000
theorem putA_len (l : Known) (q : Qry) (x : Ans) : (putA l q x).length ≤ l.length + 1 := by
  induction l with
  | nil => simp [putA]
  | cons a l ih =>
    obtain ⟨p, b⟩ := a
    unfold putA
    by_cases hq : qEq q p = true
    · rw [if_pos hq]; simp
    · rw [if_neg hq]; simp only [List.length_cons]; omega
theorem putL_len (l : Known) (q : Qry) (x : Ans) : (putL l q x).length ≤ l.length + 1 := by
  unfold putL
  split
  · exact putA_len l q x
  · omega
theorem Ents.keys {w : World} {ok : Nat → Prop} : ∀ {m : QMap} {l : Known}, Ents w ok m l → m.map Prod.fst = l.map Prod.fst
  | [], [], _ => rfl
  | (p, c) :: m, (q, a) :: l, ⟨h1, h2, h3⟩ => by
    have h1' : p = q := h1
    rw [List.map_cons, List.map_cons, h1', Ents.keys h3]
  | [], _ :: _, k => k.elim
  | _ :: _, [], k => k.elim
/-- Both caches, at some round; X: blocks that are neither's. -/
structure PlD (w wx : World) (own rown okl X : Nat → Prop) (c g j : Nat) (l : Known) (m : QMap) : Prop where
  cst : CSt wx own rown c l
  rst : RSt wx rown okl g m l
  own : ∀ b, own b → w.heap.size ≤ b ∧ b < wx.heap.size ∧ ¬ rown b ∧ ¬ X b
  rown : ∀ b, rown b → w.heap.size ≤ b ∧ b < wx.heap.size ∧ ¬ X b
  len : l.length ≤ j
  chg : Chg nob w wx
theorem PlD.new {w wx wy : World} {own rown okl X : Nat → Prop} {c g j : Nat} {l : Known} {m : QMap} (h : PlD w wx own rown okl X c g j l m) (hc : Chg nob wx wy) : PlD w wy own rown okl X c g j l m :=
  ⟨h.cst.new hc, h.rst.new hc, fun b hb => ⟨(h.own b hb).1, Nat.lt_of_lt_of_le (h.own b hb).2.1 hc.size, (h.own b hb).2.2⟩, fun b hb => ⟨(h.rown b hb).1, Nat.lt_of_lt_of_le (h.rown b hb).2.1 hc.size, (h.rown b hb).2.2⟩, h.len, h.chg.thenNew hc⟩
theorem PlD.more {w wx : World} {own rown okl X : Nat → Prop} {c g j : Nat} {l : Known} {m : QMap} (h : PlD w wx own rown okl X c g j l m) : PlD w wx own rown okl (fun b => wx.heap.size ≤ b) c g j l m :=
  ⟨h.cst, h.rst, fun b hb => ⟨(h.own b hb).1, (h.own b hb).2.1, (h.own b hb).2.2.1, by have := (h.own b hb).2.1; omega⟩, fun b hb => ⟨(h.rown b hb).1, (h.rown b hb).2.1, by have := (h.rown b hb).2.1; omega⟩, h.len, h.chg⟩
theorem PlD.imp {w wx : World} {own rown okl X Y : Nat → Prop} {c g j : Nat} {l : Known} {m : QMap} (h : PlD w wx own rown okl X c g j l m) (hY : ∀ b, Y b → X b) : PlD w wx own rown okl Y c g j l m :=
  ⟨h.cst, h.rst, fun b hb => ⟨(h.own b hb).1, (h.own b hb).2.1, (h.own b hb).2.2.1, fun k => (h.own b hb).2.2.2 (hY b k)⟩, fun b hb => ⟨(h.rown b hb).1, (h.rown b hb).2.1, fun k => (h.rown b hb).2.2 (hY b k)⟩, h.len, h.chg⟩
theorem PlD.succ {w wx : World} {own rown okl X : Nat → Prop} {c g j : Nat} {l : Known} {m : QMap} (h : PlD w wx own rown okl X c g j l m) : PlD w wx own rown okl X c g (j + 1) l m := ⟨h.cst, h.rst, h.own, h.rown, Nat.le_succ_of_le h.len, h.chg⟩
theorem PlD.mlen {w wx : World} {own rown okl X : Nat → Prop} {c g j : Nat} {l : Known} {m : QMap} (h : PlD w wx own rown okl X c g j l m) : m.length = l.length := h.rst.ents.len
structure PlSt (w wx : World) (okl X : Nat → Prop) (c g j : Nat) : Prop where
  ex : ∃ own rown l m, PlD w wx own rown okl X c g j l m
/-- A new reference's cache, behind a cleared one. -/
theorem RSt.fresh {w1 w2 : World} {okl : Nat → Prop} {g : Nat} (hb : w2.heap[g]? = some (.cells #[.slice none 0 0, .slice none 0 0] 68 (0, 0))) : RSt w2 (fun b => b = g) okl g [] [] :=
  ⟨⟨⟨none, 0, none, 0, hb, Kd.R_nil _ _ _ _ _, Kd.R_nil _ _ _ _ _, ⟨fun k hk => (by simp [Value.ownBlock] at hk), fun k hk => (by simp [Value.ownBlock] at hk)⟩⟩, rfl⟩, trivial⟩
theorem PlD.cleared {w w1 w2 : World} {own av okl X : Nat → Prop} {c g : Nat} (h1 : CSt w1 own av c []) (ho : ∀ b, own b → w.heap.size ≤ b ∧ b < w1.heap.size ∧ ¬ X b) (hX : ∀ b, X b → b < w1.heap.size) (hc1 : Chg nob w w1) (hg : w1.heap.size = g) (hc : Chg nob w1 w2) (hb : w2.heap[g]? = some (.cells #[.slice none 0 0, .slice none 0 0] 68 (0, 0))) :
    PlD w w2 own (fun b => b = g) okl X c g 0 [] [] :=
  ⟨(h1.reav (fun b hb => .inr (by have h : b = g := hb; omega))).new hc, RSt.fresh (w1 := w1) hb, fun b hb => ⟨(ho b hb).1, Nat.lt_of_lt_of_le (ho b hb).2.1 hc.size, fun e => by have h : b = g := e; have := (ho b hb).2.1; omega, (ho b hb).2.2⟩, fun b hb' => by have h : b = g := hb'; subst h; exact ⟨by have := hc1.size; omega, heap_lt hb, fun k => by have := hX _ k; omega⟩, Nat.le_refl _, hc1.thenNew hc⟩
/-- Both have taken an answer, or refused it. -/
theorem PlD.put {w w1 w2 w3 : World} {own rown okl X : Nat → Prop} {c g j : Nat} {l : Known} {m : QMap} {l' : Known} (hX : ∀ b, X b → b < w1.heap.size) (hokl : ∀ b, okl b → b < w.heap.size) (h : PlD w w1 own rown okl X c g j l m) (hl : l'.length ≤ l.length + 1) (hp : PutPost w1 w2 own rown c l') (hr : RPost w2 w3 rown okl g (m.length + 1) l') : PlSt w w3 okl X c g (j + 1) := by
  obtain ⟨own', hst, hc, hlt, hsub, hsup⟩ := hp.ex
  obtain ⟨rown', m', hst2, hml, hc2, hlt2, hsub2, hsup2⟩ := hr.ex
  have ho : ∀ b, own' b → w.heap.size ≤ b ∧ ¬ rown b ∧ ¬ X b := fun b hb => by
    rcases hsup b hb with k | k
    · exact ⟨(h.own b k).1, (h.own b k).2.2⟩
    · exact ⟨Nat.le_trans h.chg.size k, fun e => by have := (h.rown b e).2.1; omega, fun e => by have := hX b e; omega⟩
  refine ⟨own', rown', l', m', ?_, hst2, ?_, ?_, ?_, ?_⟩
  · exact (hst.reav hsup2).chgA hc2 (fun b hb => ⟨fun k => (ho b k).2.1 hb, .inl (hsub2 b hb)⟩)
  · intro b hb
    refine ⟨(ho b hb).1, Nat.lt_of_lt_of_le (hlt b hb) hc2.size, fun e => ?_, (ho b hb).2.2⟩
    rcases hsup2 b e with k | k
    · exact (ho b hb).2.1 k
    · have := hlt b hb; omega
  · intro b hb
    rcases hsup2 b hb with k | k
    · exact ⟨(h.rown b k).1, hlt2 b hb, (h.rown b k).2.2⟩
    · exact ⟨Nat.le_trans (Nat.le_trans h.chg.size hc.size) k, hlt2 b hb, fun e => by have := hX b e; have := hc.size; omega⟩
  · have := h.len; omega
  · exact (h.chg.trans hc (fun i hi => .inr (h.own i hi).1)).trans hc2 (fun i hi => .inr (h.rown i hi).1)
theorem PlD.add {w wx : World} {own rown okl X : Nat → Prop} {c g j : Nat} {l : Known} {m : QMap} (h : PlD w wx own rown okl X c g j l m) : PlD w wx own rown okl (fun b => X b ∨ wx.heap.size ≤ b) c g j l m :=
  ⟨h.cst, h.rst, fun b hb => ⟨(h.own b hb).1, (h.own b hb).2.1, (h.own b hb).2.2.1, fun k => k.elim (h.own b hb).2.2.2 (fun k => by have := (h.own b hb).2.1; omega)⟩, fun b hb => ⟨(h.rown b hb).1, (h.rown b hb).2.1, fun k => k.elim (h.rown b hb).2.2 (fun k => by have := (h.rown b hb).2.1; omega)⟩, h.len, h.chg⟩
theorem PutPost.new {w w' w'' : World} {own av : Nat → Prop} {c : Nat} {l : Known} (h : PutPost w w' own av c l) (hc : Chg nob w' w'') : PutPost w w'' own av c l := by
  obtain ⟨own', h1, h2, h3, h4, h5⟩ := h.ex
  exact ⟨own', h1.new hc, h2.thenNew hc, fun b hb => Nat.lt_of_lt_of_le (h3 b hb) hc.size, h4, h5⟩
end Go.Proofs.Ytcibdcahcpcmaaa

/- Structs of many cells: a load and a store of the whole, by ranges (no unrolling). -/
namespace Go.Proofs.Ytcibdcahcpcmaaa
open Go.RowKit
set_option linter.unusedVariables false
set_option linter.unusedSimpArgs false
theorem rng_row {w : World} {g t : Nat} {cs : Array Value} {fr : Nat × Nat} (h : w.heap[g]? = some (.cells cs t fr)) : w.rangeAt g 0 cs.toList := fun j v hv => by
  rw [Nat.zero_add, cell_of_row _ _ _ _ _ _ h, ← hv, Array.getElem?_toList]
theorem there_row {w : World} {g t : Nat} {cs : Array Value} (h : w.heap[g]? = some (.cells cs t (0, 0))) : w.there g 0 cs.size := fun j hj => by
  rw [Nat.zero_add]
  exact ⟨by rw [cell_of_row _ _ _ _ _ _ h, Array.getElem?_eq_getElem hj]; rfl, by simp [World.frozen?, h]⟩
theorem rng_chg {w w' : World} {b o : Nat} {cs : List Value} {S : Nat → Prop} (h : w.rangeAt b o cs) (hc : Chg S w w') (hb : ¬ S b) : w'.rangeAt b o cs := fun j v hv => hc.cell (h j v hv) hb
theorem rng_part {w : World} {b o : Nat} {cs : List Value} (h : w.rangeAt b o cs) (n m : Nat) : w.rangeAt b (o + n) ((cs.drop n).take m) := fun j v hv => by
  rw [List.getElem?_take] at hv
  split at hv
  · rw [List.getElem?_drop] at hv
    rw [Nat.add_assoc]
    exact h _ v hv
  · cases hv
theorem chg_setCells {g : Nat} : ∀ (vs : List Value) (o : Nat) (w : World), Chg (fun b => b = g) w (w.setCells g o vs)
  | [], o, w => Chg.refl _ _
  | v :: vs, o, w => ((Chg.refl (fun b => b = g) w).set1 o v).trans (chg_setCells vs (o + 1) _) (fun i hi => .inl hi)
theorem row_setCells {g t : Nat} {fr : Nat × Nat} : ∀ (vs : List Value) (o : Nat) (w : World) (cs : Array Value), w.heap[g]? = some (.cells cs t fr) → o + vs.length = cs.size → (w.setCells g o vs).heap[g]? = some (.cells (cs.toList.take o ++ vs).toArray t fr)
  | [], o, w, cs, h, hl => by
    have : cs.toList.take o = cs.toList := List.take_of_length_le (by simp at hl ⊢; omega)
    rw [List.append_nil, this]
    exact h
  | v :: vs, o, w, cs, h, hl => by
    have h1 : (w.setCell ⟨g, o, none⟩ v).heap[g]? = some (.cells (cs.setIfInBounds o v) t fr) := by simp [World.setCell, Array.getElem?_modify, h]
    have h2 := row_setCells vs (o + 1) (w.setCell ⟨g, o, none⟩ v) (cs.setIfInBounds o v) h1 (by rw [Array.size_setIfInBounds]; simp at hl; omega)
    have hlt : o < cs.toList.length := by simp at hl ⊢; omega
    have e : (cs.setIfInBounds o v).toList.take (o + 1) = cs.toList.take o ++ [v] := by
      rw [Array.toList_setIfInBounds, List.take_succ_eq_append_getElem (by rw [List.length_set]; exact hlt), List.getElem_set_self, List.take_set, List.set_eq_of_length_le (by rw [List.length_take]; omega)]
    rw [e, List.append_assoc, List.singleton_append] at h2
    exact h2
/-- A whole block is written. -/
theorem row_stored {w : World} {g t : Nat} {cs vs : Array Value} (h : w.heap[g]? = some (.cells cs t (0, 0))) (hl : vs.size = cs.size) : (w.setCells g 0 vs.toList).heap[g]? = some (.cells vs t (0, 0)) := by
  have := row_setCells vs.toList 0 w cs h (by rw [Array.length_toList, Nat.zero_add]; exact hl)
  rw [List.take_zero, List.nil_append] at this
  exact this
#print axioms row_stored
end Go.Proofs.Ytcibdcahcpcmaaa
