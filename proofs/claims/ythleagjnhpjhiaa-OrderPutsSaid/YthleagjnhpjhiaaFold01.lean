import Derived.WalkKit
import Derived.WalkSpells
import Derived.WalkLawsBesides
import Derived.BigQuiet
import Derived.Deep.QuietTactic
import Derived.Deep.AppendLies
import Derived.Deep.Draws
import Derived.Lib.Hide
/- Words for memory, used by all texts of this seat: what may have turned (Chg), what a row of cells says (Kd), a slice that reads as a list (C), a slice of the call's own (R). Plain definitions and lemmas; nothing here speaks of the program. -/
namespace Go.Proofs.Ythleagjnhpjhiaa
open Go.RowKit
set_option linter.unusedVariables false

/-! ### 1. What may have turned -/
/-- The blocks in S may have turned; every other block that was there is as it was. -/
structure Chg (S : Nat → Prop) (w w' : World) : Prop where
  os : w'.os = w.os
  tape : w'.tape = w.tape
  output : w'.output = w.output
  size : w.heap.size ≤ w'.heap.size
  block : ∀ k, k < w.heap.size → ¬ S k → w'.heap[k]? = w.heap[k]?
/-- Nothing that was there has turned. -/
def nob : Nat → Prop := fun _ => False
theorem not_nob (k : Nat) : ¬ nob k := fun h => h
section
variable {S T : Nat → Prop} {a b c w w' : World}
theorem Chg.refl (S : Nat → Prop) (w : World) : Chg S w w := ⟨rfl, rfl, rfl, Nat.le_refl _, fun _ _ _ => rfl⟩
theorem Chg.trans (h : Chg S a b) (k : Chg T b c) (hT : ∀ i, T i → S i ∨ a.heap.size ≤ i) : Chg S a c :=
  ⟨k.os.trans h.os, k.tape.trans h.tape, k.output.trans h.output, Nat.le_trans h.size k.size, fun i hi hs =>
    (k.block i (Nat.lt_of_lt_of_le hi h.size) (fun ht => by rcases hT i ht with h1 | h1; exact hs h1; omega)).trans (h.block i hi hs)⟩
theorem Chg.mono (h : Chg S a b) (hS : ∀ i, S i → T i ∨ a.heap.size ≤ i) : Chg T a b := ⟨h.os, h.tape, h.output, h.size, fun i hi ht => h.block i hi (fun hs => by rcases hS i hs with h1 | h1; exact ht h1; omega)⟩
/-- Behind something that leaves all old blocks alone. -/
theorem Chg.thenNew (h : Chg S a b) (k : Chg nob b c) : Chg S a c := h.trans k (fun _ hi => hi.elim)
theorem Chg.ofNew (h : Chg nob a b) : Chg S a b := h.mono (fun _ hi => hi.elim)
theorem Chg.drew (h : Chg S a b) : Chg S a b.drew := ⟨h.os, h.tape, h.output, h.size, h.block⟩
theorem Chg.drewN (h : Chg S a b) (n : Nat) : Chg S a (b.drewN n) := ⟨h.os, h.tape, h.output, h.size, h.block⟩
theorem Chg.alloc (h : Chg S a b) (o : Obj) : Chg S a (b.alloc o) :=
  h.trans (T := nob) ⟨rfl, rfl, rfl, by simp, fun k hk _ => Below.heap_alloc _ _ _ hk⟩ (fun _ hi => hi.elim)
theorem Chg.setCell (h : Chg S a b) {p : Addr} (hp : S p.block ∨ a.heap.size ≤ p.block) (u : Value) : Chg S a (b.setCell p u) :=
  h.trans (T := fun k => k = p.block) ⟨rfl, rfl, rfl, by simp [World.setCell], fun k _ hk => Below.heap_setCell _ _ _ _ hk⟩ (fun i hi => hi ▸ hp)
theorem Chg.set1 {g : Nat} (h : Chg (fun b => b = g) a b) (j : Nat) (u : Value) : Chg (fun b => b = g) a (b.setCell ⟨g, j, none⟩ u) := h.setCell (p := ⟨g, j, none⟩) (.inl rfl) u
theorem Chg.grown {row : Option Nat} (h : Chg S a b) (hg : b.grownBy c row) (hr : ∀ k, row = some k → S k ∨ a.heap.size ≤ k) : Chg S a c :=
  h.trans (T := fun k => row = some k) ⟨hg.os, hg.tape, hg.output, hg.size, fun k hk hne => hg.block k hk (fun e => hne e.symm)⟩ (fun i hi => hr i hi)
theorem Chg.below (h : Chg nob w w') : Below w.heap.size w w' := ⟨h.os, h.tape, h.output, h.size, fun k hk => h.block k hk (not_nob k)⟩
theorem Chg.belowAt {B : Nat} (h : Chg S w w') (hB : B ≤ w.heap.size) (hS : ∀ k, S k → B ≤ k) : Below B w w' := ⟨h.os, h.tape, h.output, h.size, fun k hk => h.block k (by omega) (fun hs => by have := hS k hs; omega)⟩
theorem Chg.ofBelow (h : Below w.heap.size w w') : Chg S w w' := ⟨h.os, h.tape, h.output, h.size, fun k hk _ => h.block k hk⟩
theorem Chg.cell (h : Chg S w w') {p : Addr} {v : Value} (hc : w.cell? p = some v) (hp : ¬ S p.block) : w'.cell? p = some v :=
  (World.cell?_of_block (w := w) (h.block p.block (World.block_lt_of_cell? w p hc) hp)).trans hc
theorem Chg.heap (h : Chg S w w') {g : Nat} {o : Obj} (hc : w.heap[g]? = some o) (hp : ¬ S g) : w'.heap[g]? = some o :=
  (h.block g (Array.getElem?_eq_some_iff.1 hc).1 hp).trans hc
end
theorem heap_lt {w : World} {g : Nat} {o : Obj} (h : w.heap[g]? = some o) : g < w.heap.size := (Array.getElem?_eq_some_iff.1 h).1
theorem block_add (a : Addr) (n : Nat) : (a.add n).block = a.block := by unfold Addr.add; split <;> rfl
theorem add_add (a : Addr) (i j : Nat) : (a.add i).add j = a.add (i + j) := by
  unfold Addr.add
  by_cases hi : i = 0 <;> by_cases hj : j = 0 <;> simp [hi, hj, Nat.add_assoc]
theorem add_at (g o j : Nat) : (⟨g, o, none⟩ : Addr).add j = ⟨g, o + j, none⟩ := by unfold Addr.add; split <;> simp_all

/-! ### 2. What the cells of an element say -/
structure Kd (α : Type) where
  sz : Nat
  pos : 0 < sz
  K : World → (Nat → Prop) → α → List Value → Prop
  len : ∀ {w ok x cs}, K w ok x cs → cs.length = sz
  one : ∀ {w ok x cs}, K w ok x cs → ∀ u ∈ cs, u.oneCell' = true
  mono : ∀ {w ok ok' x cs}, (∀ k, ok k → ok' k) → K w ok x cs → K w ok' x cs
  bound : ∀ {w : World} {ok x cs}, K w ok x cs → K w (fun k => ok k ∧ k < w.heap.size) x cs
  move : ∀ {w w' : World} {ok x cs}, (∀ k, ok k → w'.heap[k]? = w.heap[k]?) → K w ok x cs → K w' ok x cs
def Reps {α : Type} (R : α → List Value → Prop) (sz : Nat) (xs : List α) (cs : List Value) : Prop :=
  cs.length = xs.length * sz ∧ ∀ j x, xs[j]? = some x → R x ((cs.drop (j * sz)).take sz)
section
variable {α : Type} {R R' : α → List Value → Prop} {sz : Nat} {xs ys : List α} {cs ds : List Value}
theorem Reps.nil : Reps R sz [] [] := ⟨by simp, fun j x h => by simp at h⟩
theorem Reps.imp (h : Reps R sz xs cs) (k : ∀ x c, R x c → R' x c) : Reps R' sz xs cs := ⟨h.1, fun j x hx => k _ _ (h.2 j x hx)⟩
theorem Reps.append (h : Reps R sz xs cs) (k : Reps R sz ys ds) : Reps R sz (xs ++ ys) (cs ++ ds) := by
  refine ⟨by rw [List.length_append, List.length_append, h.1, k.1, Nat.add_mul], fun j x hx => ?_⟩
  rcases Nat.lt_or_ge j xs.length with hj | hj
  · rw [List.getElem?_append_left hj] at hx
    have h1 : j * sz + sz ≤ cs.length := by rw [h.1, ← Nat.succ_mul]; exact Nat.mul_le_mul_right _ hj
    rw [List.drop_append_of_le_length (by omega), List.take_append_of_le_length (by rw [List.length_drop]; omega)]
    exact h.2 j x hx
  · rw [List.getElem?_append_right hj] at hx
    have e : j * sz = cs.length + (j - xs.length) * sz := by rw [h.1, ← Nat.add_mul]; congr 1; omega
    rw [e, List.drop_length_add_append]
    exact k.2 _ x hx
theorem Reps.single {x : α} (h : R x cs) (hl : cs.length = sz) : Reps R sz [x] cs := by
  refine ⟨by simp [hl], fun j y hy => ?_⟩
  match j, hy with
  | 0, hy =>
    simp at hy
    subst hy
    simp only [Nat.zero_mul, List.drop_zero]
    rw [← hl, List.take_length]
    exact h
theorem Reps.drop (h : Reps R sz xs cs) (n : Nat) (hn : n ≤ xs.length) : Reps R sz (xs.drop n) (cs.drop (n * sz)) := by
  refine ⟨by rw [List.length_drop, List.length_drop, h.1, Nat.sub_mul], fun j x hx => ?_⟩
  rw [List.getElem?_drop] at hx
  rw [List.drop_drop, ← Nat.add_mul]
  exact h.2 _ x hx
theorem Reps.take (h : Reps R sz xs cs) (n : Nat) (hn : n ≤ xs.length) : Reps R sz (xs.take n) (cs.take (n * sz)) := by
  refine ⟨by rw [List.length_take, List.length_take, h.1, Nat.min_eq_left hn, Nat.min_eq_left (Nat.mul_le_mul_right _ hn)], fun j x hx => ?_⟩
  rw [List.getElem?_take] at hx
  split at hx
  · rename_i hj
    have h1 := h.2 j x hx
    have e : ((cs.take (n * sz)).drop (j * sz)).take sz = (cs.drop (j * sz)).take sz := by
      rw [List.drop_take, List.take_take]
      congr 1
      have : j * sz + sz ≤ n * sz := by rw [← Nat.succ_mul]; exact Nat.mul_le_mul_right _ hj
      omega
    rw [e]
    exact h1
  · cases hx
theorem Reps.set_ (h : Reps R sz xs cs) (j : Nat) (x : α) (c : List Value) (hc : R x c) (hl : c.length = sz) (hj : j < xs.length) : Reps R sz (xs.set j x) (cs.take (j * sz) ++ c ++ cs.drop (j * sz + sz)) := by
  have h1 : j * sz + sz ≤ cs.length := by rw [h.1, ← Nat.succ_mul]; exact Nat.mul_le_mul_right _ hj
  have e : xs.set j x = xs.take j ++ [x] ++ xs.drop (j + 1) := by rw [List.set_eq_take_append_cons_drop, if_pos hj]; simp
  have e2 : j * sz + sz = (j + 1) * sz := by rw [Nat.add_mul, Nat.one_mul]
  rw [e, e2]
  exact ((h.take j (by omega)).append (Reps.single hc hl)).append (h.drop (j + 1) (by omega))
theorem Reps.one_ (hR : ∀ x c, R x c → ∀ u ∈ c, u.oneCell' = true) (hs : 0 < sz) (h : Reps R sz xs cs) : ∀ u ∈ cs, u.oneCell' = true := by
  intro u hu
  obtain ⟨i, hi, rfl⟩ := List.mem_iff_getElem.1 hu
  have hj : i / sz < xs.length := by
    rw [Nat.div_lt_iff_lt_mul hs, ← h.1]
    exact hi
  have hm : i % sz < sz := Nat.mod_lt _ hs
  have hd := Nat.div_add_mod i sz
  refine hR _ _ (h.2 (i / sz) _ (List.getElem?_eq_getElem hj)) _ ?_
  rw [List.mem_iff_getElem?]
  refine ⟨i % sz, ?_⟩
  rw [List.getElem?_take, if_pos hm, List.getElem?_drop, show i / sz * sz + i % sz = i from by rw [Nat.mul_comm]; exact hd]
  exact List.getElem?_eq_getElem hi
end
namespace Kd
variable {α : Type} {d : Kd α} {w w' : World} {ok ok' : Nat → Prop} {x : α} {cs : List Value}
/-- What the reading rests on, and was there, is as it was. -/
theorem step (h : d.K w ok x cs) (hm : ∀ k, ok k → k < w.heap.size → w'.heap[k]? = w.heap[k]?) : d.K w' ok x cs :=
  d.mono (fun _ hk => hk.1) (d.move (fun k hk => hm k hk.1 hk.2) (d.bound h))
theorem chg {S : Nat → Prop} (h : d.K w ok x cs) (hc : Chg S w w') (hs : ∀ k, ok k → ¬ S k) : d.K w' ok x cs := step h (fun k ho hk => hc.block k hk (hs k ho))

/-! ### 3. A slice that reads as a list -/
/-- The slice value '.slice A xs.length c' reads as xs; what it rests on is ok. -/
def C (d : Kd α) (w : World) (ok : Nat → Prop) (A : Option Addr) (xs : List α) : Prop :=
  xs.length ≤ 9223372036854775807 ∧ ∃ inner, Reps (d.K w ok) d.sz xs inner ∧ (0 < xs.length → ∃ ad, A = some ad ∧ ok ad.block ∧ ∀ j u, inner[j]? = some u → w.cell? (ad.add j) = some u)
/-- A slice of the call's own: it may be appended to and written. What its elements rest on is not the row itself. -/
def R (d : Kd α) (e : Nat) (w : World) (base : Nat) (ok : Nat → Prop) (v : Value) (xs : List α) : Prop :=
  (∀ k, v.ownBlock = some k → ok k) ∧ ∃ inner, w.ownsRow base e d.sz v xs.length inner ∧ Reps (d.K w (fun k => ok k ∧ some k ≠ v.ownBlock)) d.sz xs inner
variable {A : Option Addr} {xs ys : List α} {e base : Nat} {v : Value}
theorem C.small (h : d.C w ok A xs) : xs.length ≤ 9223372036854775807 := h.1
theorem C_nil (d : Kd α) (w : World) (ok : Nat → Prop) (A : Option Addr) : d.C w ok A [] := ⟨by simp, [], Reps.nil, fun h => absurd h (by simp)⟩
theorem C_mono (h : d.C w ok A xs) (hk : ∀ k, ok k → ok' k) : d.C w ok' A xs := by
  obtain ⟨h1, inner, hr, hc⟩ := h
  exact ⟨h1, inner, hr.imp (fun _ _ => d.mono hk), fun hn => by obtain ⟨ad, e, ho, hx⟩ := hc hn; exact ⟨ad, e, hk _ ho, hx⟩⟩
theorem C_bound (h : d.C w ok A xs) : d.C w (fun k => ok k ∧ k < w.heap.size) A xs := by
  obtain ⟨h1, inner, hr, hc⟩ := h
  refine ⟨h1, inner, hr.imp (fun _ _ => d.bound), fun hn => ?_⟩
  obtain ⟨ad, e, ho, hx⟩ := hc hn
  have hl : 0 < inner.length := by rw [hr.1]; exact Nat.mul_pos hn d.pos
  have := World.block_lt_of_cell? w _ (hx 0 _ (List.getElem?_eq_getElem hl))
  rw [block_add] at this
  exact ⟨ad, e, ⟨ho, this⟩, hx⟩
theorem C_move (h : d.C w ok A xs) (hm : ∀ k, ok k → w'.heap[k]? = w.heap[k]?) : d.C w' ok A xs := by
  obtain ⟨h1, inner, hr, hc⟩ := h
  refine ⟨h1, inner, hr.imp (fun _ _ => d.move hm), fun hn => ?_⟩
  obtain ⟨ad, e, ho, hx⟩ := hc hn
  exact ⟨ad, e, ho, fun j u hu => (World.cell?_of_block (w := w) (hm _ (by rw [block_add]; exact ho))).trans (hx j u hu)⟩
theorem C_step (h : d.C w ok A xs) (hm : ∀ k, ok k → k < w.heap.size → w'.heap[k]? = w.heap[k]?) : d.C w' ok A xs :=
  C_mono (C_move (C_bound h) (fun k hk => hm k hk.1 hk.2)) (fun _ hk => hk.1)
theorem C_chg {S : Nat → Prop} (h : d.C w ok A xs) (hc : Chg S w w') (hs : ∀ k, ok k → ¬ S k) : d.C w' ok A xs := C_step h (fun k ho hk => hc.block k hk (hs k ho))
theorem C_new (h : d.C w ok A xs) (hc : Chg nob w w') : d.C w' ok A xs := C_chg h hc (fun k _ => not_nob k)
/-- An element. -/
theorem C_at (h : d.C w ok A xs) {j : Nat} {x : α} (hx : xs[j]? = some x) :
    ∃ ad c, A = some ad ∧ ok ad.block ∧ d.K w ok x c ∧ ∀ i u, c[i]? = some u → w.cell? (ad.add (j * d.sz + i)) = some u := by
  obtain ⟨h1, inner, hr, hc⟩ := h
  have hj : j < xs.length := (List.getElem?_eq_some_iff.1 hx).1
  obtain ⟨ad, e, ho, hcell⟩ := hc (by omega)
  refine ⟨ad, _, e, ho, hr.2 j x hx, fun i u hu => hcell _ u ?_⟩
  rw [List.getElem?_take] at hu
  split at hu
  · rwa [List.getElem?_drop] at hu
  · cases hu
/-- An element, the place in numbers. -/
theorem C_at' (h : d.C w ok A xs) {j : Nat} {x : α} (hx : xs[j]? = some x) :
    ∃ b o c, A = some ⟨b, o, none⟩ ∧ ok b ∧ d.K w ok x c ∧ ∀ i u, c[i]? = some u → w.cell? ⟨b, o + j * d.sz + i, none⟩ = some u := by
  obtain ⟨ad, c, e, ho, hk, hc⟩ := C_at h hx
  obtain ⟨b, o, s⟩ := ad
  obtain ⟨x0, h0⟩ : ∃ x0, xs[0]? = some x0 := ⟨_, List.getElem?_eq_getElem (by have := (List.getElem?_eq_some_iff.1 hx).1; omega)⟩
  obtain ⟨ad0, c0, e0, _, hk0, hc0⟩ := C_at h h0
  rw [e] at e0
  cases e0
  have hl0 : 0 < c0.length := by rw [d.len hk0]; exact d.pos
  have hs := hc0 0 _ (List.getElem?_eq_getElem hl0)
  rw [Nat.zero_mul, Nat.zero_add] at hs
  have hsp : s = none := by simpa [Addr.add] using World.cell?_spot hs
  subst hsp
  refine ⟨b, o, c, e, ho, hk, fun i u hu => ?_⟩
  have := hc i u hu
  rw [show (⟨b, o, none⟩ : Addr).add (j * d.sz + i) = ⟨b, o + j * d.sz + i, none⟩ from by unfold Addr.add; split <;> simp_all [Nat.add_assoc]] at this
  exact this
theorem C_take (h : d.C w ok A xs) (n : Nat) (hn : n ≤ xs.length) : d.C w ok A (xs.take n) := by
  obtain ⟨h1, inner, hr, hc⟩ := h
  refine ⟨by rw [List.length_take]; omega, inner.take (n * d.sz), hr.take n hn, fun hp => ?_⟩
  rw [List.length_take] at hp
  obtain ⟨ad, e, ho, hx⟩ := hc (by omega)
  refine ⟨ad, e, ho, fun j u hu => hx j u ?_⟩
  rw [List.getElem?_take] at hu
  split at hu
  · exact hu
  · cases hu
/-- As 's[n:]' lies: at the capacity the old address stays. -/
theorem C_drop (h : d.C w ok A xs) (n c : Nat) (hn : n ≤ xs.length) (hc : xs.length ≤ c) : d.C w ok (if c = n then A else A.map (·.add (n * d.sz))) (xs.drop n) := by
  obtain ⟨h1, inner, hr, hcc⟩ := h
  refine ⟨by rw [List.length_drop]; omega, inner.drop (n * d.sz), hr.drop n hn, fun hp => ?_⟩
  rw [List.length_drop] at hp
  obtain ⟨ad, rfl, ho, hx⟩ := hcc (by omega)
  rw [if_neg (by omega)]
  refine ⟨ad.add (n * d.sz), rfl, by rw [block_add]; exact ho, fun j u hu => ?_⟩
  rw [add_add]
  exact hx _ u (by rw [← hu, List.getElem?_drop])

theorem R_nil (d : Kd α) (e : Nat) (w : World) (base : Nat) (ok : Nat → Prop) : d.R e w base ok (.slice none 0 0) [] :=
  ⟨fun k hk => by simp [Value.ownBlock] at hk, [], World.ownsRow_nil w base e d.sz, Reps.nil⟩
theorem R_slice (h : d.R e w base ok v xs) : ∃ A c, v = .slice A xs.length c ∧ xs.length ≤ c := by
  obtain ⟨_, inner, ho, _⟩ := h
  rcases ho.2 with ⟨rfl, h0⟩ | ⟨g, cap, cur, rfl, _, _, h1, _⟩
  · exact ⟨none, 0, by rw [h0], by omega⟩
  · exact ⟨_, cap, rfl, h1⟩
theorem R_C (h : d.R e w base ok v xs) : ∃ A c, v = .slice A xs.length c ∧ xs.length ≤ c ∧ d.C w ok A xs := by
  obtain ⟨A, c, hv, hl⟩ := R_slice h
  obtain ⟨h0, inner, ho, hr⟩ := h
  subst hv
  refine ⟨A, c, rfl, hl, ?_, inner, hr.imp (fun _ _ => d.mono (fun _ hk => hk.1)), fun hn => ?_⟩
  · rcases ho.2 with ⟨_, h0⟩ | ⟨g, cap, cur, _, _, _, h1, h2, _⟩
    · omega
    · simp only [maxLen] at h2; omega
  · obtain ⟨g, cap, hv, hb, hlt⟩ := ho.form hn
    have hA : A = some ⟨g, 0, none⟩ := by injection hv
    subst hA
    exact ⟨_, rfl, h0 g (by simp [Value.ownBlock]), ho.cells (g := g) (by simp [Value.ownBlock])⟩
/-- A row of the call's own, read. -/
theorem R_read {m c : Nat} (h : d.R e w base ok (.slice A m c) xs) : d.C w ok A xs ∧ xs.length = m ∧ m ≤ c := by
  obtain ⟨A', c', hv, hl, hC⟩ := R_C h
  injection hv with h1 h2 h3
  subst h1 h3
  exact ⟨hC, h2.symm, h2 ▸ hl⟩
theorem R_mono (h : d.R e w base ok v xs) (hk : ∀ k, ok k → ok' k) : d.R e w base ok' v xs := by
  obtain ⟨h0, inner, ho, hr⟩ := h
  exact ⟨fun k hv => hk k (h0 k hv), inner, ho, hr.imp (fun _ _ => d.mono (fun k h => ⟨hk k h.1, h.2⟩))⟩
theorem own_move {n : Nat} {zs : List Value} {sz : Nat} (h : w.ownsRow base e sz v n zs) (hm : ∀ k, v.ownBlock = some k → w'.heap[k]? = w.heap[k]?) : w'.ownsRow base e sz v n zs := by
  obtain ⟨h1, h2⟩ := h
  refine ⟨h1, ?_⟩
  rcases h2 with h2 | ⟨g, cap, cur, rfl, hg, hh, r⟩
  · exact .inl h2
  · exact .inr ⟨g, cap, cur, rfl, hg, (hm g (by simp [Value.ownBlock])).trans hh, r⟩
theorem R_step (h : d.R e w base ok v xs) (hm : ∀ k, ok k → k < w.heap.size → w'.heap[k]? = w.heap[k]?) : d.R e w' base ok v xs := by
  obtain ⟨h0, inner, ho, hr⟩ := h
  exact ⟨h0, inner, own_move ho (fun k hk => hm k (h0 k hk) (ho.lt k hk).2), hr.imp (fun _ _ hx => step hx (fun k hk hl => hm k hk.1 hl))⟩
theorem R_chg {S : Nat → Prop} (h : d.R e w base ok v xs) (hc : Chg S w w') (hs : ∀ k, ok k → ¬ S k) : d.R e w' base ok v xs := R_step h (fun k ho hk => hc.block k hk (hs k ho))
theorem R_new (h : d.R e w base ok v xs) (hc : Chg nob w w') : d.R e w' base ok v xs := R_chg h hc (fun k _ => not_nob k)
theorem R_bound (h : d.R e w base ok v xs) : d.R e w base (fun k => ok k ∧ k < w.heap.size) v xs := by
  obtain ⟨h0, inner, ho, hr⟩ := h
  exact ⟨fun k hk => ⟨h0 k hk, (ho.lt k hk).2⟩, inner, ho, hr.imp (fun _ _ hx => d.mono (fun k hk => ⟨⟨hk.1.1, hk.2⟩, hk.1.2⟩) (d.bound hx))⟩
theorem R_own (h : d.R e w base ok v xs) (k : Nat) (hk : v.ownBlock = some k) : base ≤ k ∧ k < w.heap.size := by
  obtain ⟨_, inner, ho, _⟩ := h
  exact ho.lt k hk
theorem R_lower {base' : Nat} (h : d.R e w base ok v xs) (hb : base' ≤ base) : d.R e w base' ok v xs := by
  obtain ⟨h0, inner, ho, hr⟩ := h
  refine ⟨h0, inner, ⟨ho.1, ?_⟩, hr⟩
  rcases ho.2 with h2 | ⟨g, cap, cur, hv, hg, r⟩
  · exact .inl h2
  · exact .inr ⟨g, cap, cur, hv, Nat.le_trans hb hg, r⟩

/-! ### 4. Kinds -/
def scalar (enc : α → Value) (h1 : ∀ x, (enc x).oneCell' = true) : Kd α where
  sz := 1
  pos := by decide
  K := fun _ _ x cs => cs = [enc x]
  len := fun h => by rw [h]; rfl
  one := fun h u hu => by
    rw [h] at hu
    rw [List.mem_singleton.1 hu]
    exact h1 _
  mono := fun _ h => h
  bound := fun h => h
  move := fun _ h => h
def slice (d : Kd α) : Kd (List α) where
  sz := 1
  pos := by decide
  K := fun w ok xs cs => ∃ A c, cs = [.slice A xs.length c] ∧ xs.length ≤ c ∧ d.C w ok A xs
  len := by
    rintro w ok x cs ⟨A, c, rfl, _⟩
    rfl
  one := by
    rintro w ok x cs ⟨A, c, rfl, _⟩ u hu
    rw [List.mem_singleton.1 hu]
    rfl
  mono := by
    rintro w ok ok' x cs hk ⟨A, c, rfl, hl, h⟩
    exact ⟨A, c, rfl, hl, C_mono h hk⟩
  bound := by
    rintro w ok x cs ⟨A, c, rfl, hl, h⟩
    exact ⟨A, c, rfl, hl, C_bound h⟩
  move := by
    rintro w w' ok x cs hm ⟨A, c, rfl, hl, h⟩
    exact ⟨A, c, rfl, hl, C_move h hm⟩
def pair {β : Type} (a : Kd α) (b : Kd β) : Kd (α × β) where
  sz := a.sz + b.sz
  pos := Nat.lt_of_lt_of_le a.pos (Nat.le_add_right _ _)
  K := fun w ok x cs => ∃ c0 c1, cs = c0 ++ c1 ∧ a.K w ok x.1 c0 ∧ b.K w ok x.2 c1
  len := by
    rintro w ok x cs ⟨c0, c1, rfl, h0, h1⟩
    rw [List.length_append, a.len h0, b.len h1]
  one := by
    rintro w ok x cs ⟨c0, c1, rfl, h0, h1⟩ u hu
    rcases List.mem_append.1 hu with hu | hu
    · exact a.one h0 u hu
    · exact b.one h1 u hu
  mono := by
    rintro w ok ok' x cs hk ⟨c0, c1, rfl, h0, h1⟩
    exact ⟨c0, c1, rfl, a.mono hk h0, b.mono hk h1⟩
  bound := by
    rintro w ok x cs ⟨c0, c1, rfl, h0, h1⟩
    exact ⟨c0, c1, rfl, a.bound h0, b.bound h1⟩
  move := by
    rintro w w' ok x cs hm ⟨c0, c1, rfl, h0, h1⟩
    exact ⟨c0, c1, rfl, a.move hm h0, b.move hm h1⟩
def iso {β : Type} (d : Kd α) (f : β → α) : Kd β where
  sz := d.sz
  pos := d.pos
  K := fun w ok x cs => d.K w ok (f x) cs
  len := d.len
  one := d.one
  mono := d.mono
  bound := d.bound
  move := d.move
/-- Whole numbers of a kind (a Lean Int in its range). -/
def int (k : IntKind) : Kd Int := scalar (Value.int k) (fun _ => rfl)
def bool : Kd Bool := scalar Value.bool (fun _ => rfl)
def string : Kd ByteArray := scalar Value.string (fun _ => rfl)
def byte : Kd UInt8 := scalar (fun b => Value.int .u8 (b.toNat : Int)) (fun _ => rfl)
/-- A kind, and what is known of its values. -/
def such (d : Kd α) (p : α → Prop) : Kd α where
  sz := d.sz
  pos := d.pos
  K := fun w ok x cs => d.K w ok x cs ∧ p x
  len := fun h => d.len h.1
  one := fun h => d.one h.1
  mono := fun hk h => ⟨d.mono hk h.1, h.2⟩
  bound := fun h => ⟨d.bound h.1, h.2⟩
  move := fun hm h => ⟨d.move hm h.1, h.2⟩
end Kd

/-! ### 5. Small forms for the walk -/
section
variable {w : World} {ok : Nat → Prop} {A : Option Addr}
theorem at_scalar {α : Type} {enc : α → Value} {h1} {xs : List α} (h : (Kd.scalar enc h1).C w ok A xs) {j : Nat} {x : α} (hx : xs[j]? = some x) : ∃ ad, A = some ad ∧ ok ad.block ∧ w.cell? (ad.add j) = some (enc x) := by
  obtain ⟨ad, c, e, ho, hk, hc⟩ := Kd.C_at h hx
  have hk' : c = [enc x] := hk
  subst hk'
  have := hc 0 (enc x) rfl
  refine ⟨ad, e, ho, ?_⟩
  simpa [Kd.scalar] using this
theorem reps_scalar {α : Type} {enc : α → Value} {h1} {xs : List α} {cs : List Value} (h : Reps ((Kd.scalar enc h1).K w ok) 1 xs cs) : cs = xs.map enc := by
  apply List.ext_getElem?
  intro j
  rcases Nat.lt_or_ge j xs.length with hj | hj
  · have h2 : (cs.drop (j * 1)).take 1 = [enc xs[j]] := h.2 j _ (List.getElem?_eq_getElem hj)
    have hl : j < cs.length := by rw [h.1]; omega
    rw [Nat.mul_one, List.take_one, List.head?_drop] at h2
    rw [List.getElem?_map, List.getElem?_eq_getElem hj, List.getElem?_eq_getElem hl]
    rw [List.getElem?_eq_getElem hl] at h2
    simpa using h2
  · rw [List.getElem?_eq_none (by rw [h.1]; omega), List.getElem?_eq_none (by simpa using hj)]
theorem reps_of_scalar {α : Type} {enc : α → Value} {h1} (xs : List α) : Reps ((Kd.scalar enc h1).K w ok) 1 xs (xs.map enc) := by
  refine ⟨by simp, fun j x hx => ?_⟩
  show _ = _
  rw [Nat.mul_one, List.take_one, List.head?_drop, List.getElem?_map, hx]
  rfl
end
/-- A scalar row of the call's own that is known by its kit form. -/
theorem Kd.R_of_own {α : Type} {enc : α → Value} {h1} {w : World} {e base n : Nat} {v : Value} {xs : List α} (ho : w.ownsRow base e 1 v n (xs.map enc)) : (Kd.scalar enc h1).R e w base (fun k => some k = v.ownBlock) v xs := by
  have hn : n = xs.length := by have := ho.1; simp at this; omega
  subst hn
  exact ⟨fun k hk => hk.symm, _, ho, reps_of_scalar xs⟩
theorem Kd.own_of_R {α : Type} {enc : α → Value} {h1} {w : World} {e base : Nat} {ok : Nat → Prop} {v : Value} {xs : List α} (h : (Kd.scalar enc h1).R e w base ok v xs) : w.ownsRow base e 1 v xs.length (xs.map enc) := by
  obtain ⟨_, inner, ho, hr⟩ := h
  rw [← reps_scalar hr]
  exact ho

/-! ### 6. append, onto a row of the call's own -/
namespace Kd
variable {α : Type} {d : Kd α} {w : World} {ok ok2 : Nat → Prop} {A : Option Addr} {xs ys : List α} {e base : Nat} {v : Value}
/-- The new row, after the kit's law. -/
theorem R_appended {w' : World} {v' : Value} (h : d.R e w base ok v xs) (k : d.C w ok2 A ys) (hne : ∀ k, ok2 k → some k ≠ v.ownBlock)
    (hg : w.grownBy w' v.ownBlock) (hat : v'.ownBlock = v.ownBlock ∨ v'.ownBlock = some w.heap.size)
    (ho : ∀ zs us, w.ownsRow base e d.sz v xs.length zs → us.length = ys.length * d.sz → (0 < ys.length → ∀ ad, A = some ad → ∀ j u, us[j]? = some u → w.cell? (ad.add j) = some u) → (∀ u ∈ us, u.oneCell' = true) → w'.ownsRow base e d.sz v' (xs.length + ys.length) (zs ++ us)) :
    d.R e w' base (fun k => ok k ∨ ok2 k ∨ w.heap.size ≤ k) v' (xs ++ ys) := by
  obtain ⟨h0, zs, hown, hr⟩ := R_bound h
  obtain ⟨k1, us, ku, kc⟩ := C_bound k
  have hw := ho zs us hown ku.1 (fun hp ad e j u hu => by
    obtain ⟨ad', e', _, hx⟩ := kc hp
    rw [e] at e'
    cases e'
    exact hx j u hu) (Reps.one_ (fun x c hx => d.one hx) d.pos ku)
  refine ⟨fun k hk => ?_, zs ++ us, by rw [List.length_append]; exact hw, Reps.append (hr.imp ?_) (ku.imp ?_)⟩
  · rcases hat with hat | hat
    · exact .inl (h0 k (hat ▸ hk)).1
    · rw [hat] at hk
      cases hk
      exact .inr (.inr (Nat.le_refl _))
  · intro x c hx
    refine d.mono (fun k hk => ⟨.inl hk.1.1.1, ?_⟩) (step hx (fun k hk hl => hg.block k hl hk.2) |> d.bound |> (fun hy => d.mono (ok' := fun k => ((ok k ∧ k < w.heap.size) ∧ some k ≠ v.ownBlock) ∧ True) (fun k hk => ⟨hk.1, trivial⟩) hy))
    rcases hat with hat | hat
    · rw [hat]; exact hk.1.2
    · rw [hat]; intro e; cases e; exact absurd hk.1.1.2 (Nat.lt_irrefl _)
  · intro x c hx
    refine d.mono (fun k hk => ⟨.inr (.inl hk.1), ?_⟩) (step hx (fun k hk hl => hg.block k hl (hne k hk.1)))
    rcases hat with hat | hat
    · rw [hat]; exact hne k hk.1
    · rw [hat]; intro e; cases e; exact absurd hk.2 (Nat.lt_irrefl _)
end Kd
section
variable {P : Program} {ops : Array Oper} {rest : List Oper} {o : Oper} {a : Act} {Q : Exit → Act → World → Prop} {α : Type} {d : Kd α} {w : World}
theorem Kd.R_slice' {e base : Nat} {w : World} {ok : Nat → Prop} {v : Value} {xs : List α} {m : Nat} (h : d.R e w base ok v xs) (hm : xs.length = m) : ∃ A c, v = .slice A m c ∧ m ≤ c := by
  subst hm
  exact Kd.R_slice h
/-- append(v, ys...) at a plain region's list: behind 'at_builtin'. -/
theorem wp_append (hgd : o.guard = none) (s x : Operand) (t : TypeId)
    (ho : o.op = .call { callee := .builtin .append, args := #[s, x], argTypes := #[t, t] })
    (e : TypeId) (z : Value) (bytes : Nat) (ht : P.underlying t = some (.slice e)) (hinfo : (P.info? e).map (fun i => (i.zero, i.size, i.bytes)) = some (some z, d.sz, bytes)) (hz : z.cells.size = d.sz)
    (base : Nat) (ok ok2 : Nat → Prop) (v : Value) (xs ys : List α) (A : Option Addr) (m c : Nat) (hs : a.eval s = v) (hx : a.eval x = .slice A m c) (hm : ys.length = m)
    (hr : d.R e w base ok v xs) (hy : d.C w ok2 A ys) (hne : ∀ k, ok2 k → some k ≠ v.ownBlock) (h63 : xs.length + ys.length ≤ maxLen) (hbytes : (xs.length + ys.length) * bytes ≤ 140737488355328) (hbase : base ≤ w.heap.size)
    (len : Nat) (hlen : xs.length + m = len) (h : ∀ A' c' w', d.R e w' base (fun k => ok k ∨ ok2 k ∨ w.heap.size ≤ k) (.slice A' len c') (xs ++ ys) → Chg (fun k => some k = v.ownBlock) w w' → ((Value.slice A' len c').ownBlock = v.ownBlock ∨ (Value.slice A' len c').ownBlock = some w.heap.size) → wpList P ops Q rest (a.put o.dst (.slice A' len c')) w') :
    wpList P ops Q (o :: rest) a w := by
  subst hm
  obtain ⟨i, hi, hzz⟩ := Option.map_eq_some_iff.1 hinfo
  simp only [Prod.mk.injEq] at hzz
  obtain ⟨hz0, hz1, hz2⟩ := hzz
  have chg : ∀ w', w.grownBy w' v.ownBlock → Chg (fun k => some k = v.ownBlock) w w' := fun w' hg => ⟨hg.os, hg.tape, hg.output, hg.size, fun k hk hne => hg.block k hk hne⟩
  have own2 : ∀ zs, w.ownsRow base e d.sz v xs.length zs → ∀ us : List Value, us.length = ys.length * d.sz → (0 < ys.length → ∀ ad, A = some ad → ∀ j u, us[j]? = some u → w.cell? (ad.add j) = some u) → (∀ u ∈ us, u.oneCell' = true) →
      ∃ v' w', (Builtin.append_ #[t, t] o.type #[v, .slice A ys.length c]).run P w = .ok v' w' ∧ w'.ownsRow base e d.sz v' (xs.length + ys.length) (zs ++ us) ∧ w.grownBy w' v.ownBlock ∧ (v'.ownBlock = v.ownBlock ∨ v'.ownBlock = some w.heap.size) := by
    intro zs hown us hl hus h1
    rcases Nat.eq_zero_or_pos ys.length with hy0 | hy0
    · have hu : us = [] := List.eq_nil_of_length_eq_zero (by rw [hl, hy0, Nat.zero_mul])
      subst hu
      refine ⟨v, w, ?_, by simpa [hy0] using hown, World.grownBy.refl w _, .inl rfl⟩
      rw [hy0]
      rcases hown.2 with ⟨rfl, h0⟩ | ⟨g, cap, cur, rfl, _, _, hnc, _⟩
      · cases A <;> simp [Builtin.append_, run_underlying ht, sizeOf, typeInfo, hi, Builtin.lenOf, Builtin.firstCells, loadCells, loadCellsFrom]
      · cases A <;> simp [Builtin.append_, run_underlying ht, sizeOf, typeInfo, hi, Builtin.lenOf, Builtin.firstCells, hnc, storeCells, loadCells, loadCellsFrom]
    · obtain ⟨k1, inner, kr, kc⟩ := hy
      obtain ⟨ad, rfl, _, _⟩ := kc hy0
      obtain ⟨v', w', hrun, h2, h3, _, h5⟩ := run_append_own_at (P := P) w base t o.type e i z d.sz bytes ht hi hz0 hz1 hz2 hz d.pos v xs.length zs hown ad ys.length c us hl (hus hy0 ad rfl) h1 h63 hbytes hbase
      exact ⟨v', w', hrun, h2, h3, h5⟩
  obtain ⟨h0, zs, hown, hrp⟩ := hr
  obtain ⟨k1, us, ku, kc⟩ := hy
  obtain ⟨v', w', hrun, h2, h3, h5⟩ := own2 zs hown us ku.1 (fun hp ad e j u hu => by
    obtain ⟨ad', e', _, hx⟩ := kc hp
    rw [e] at e'
    cases e'
    exact hx j u hu) (Reps.one_ (fun x c hx => d.one hx) d.pos ku)
  have hR : d.R e w' base (fun k => ok k ∨ ok2 k ∨ w.heap.size ≤ k) v' (xs ++ ys) := by
    refine Kd.R_appended (w := w) (v := v) (A := A) ⟨h0, zs, hown, hrp⟩ ⟨k1, us, ku, kc⟩ hne h3 h5 ?_
    intro zs' us' hown' hl' hus' h1'
    obtain ⟨v2, w2, hrun2, h22, _⟩ := own2 zs' hown' us' hl' hus' h1'
    rw [hrun] at hrun2
    cases hrun2
    exact h22
  refine wpList_plain hgd fun K hK => ?_
  unfold Oper.wp execOp
  simp only [ho, resolve, invoke, builtin, Sem.run_bind, Sem.run_pure, Result.andThen_ok, List.map_toArray, List.map_cons, List.map_nil, hs, hx, hrun]
  obtain ⟨A', c', hv, _⟩ := Kd.R_slice' hR (m := len) (by rw [List.length_append]; exact hlen)
  subst hv
  exact hK _ _ (h A' c' w' hR (chg w' h3) h5)
/-- Elements that rest on nothing: numbers, texts, and structs of them. -/
def Kd.Flat (d : Kd α) : Prop := ∀ {w w' : World} {ok ok' : Nat → Prop} {x : α} {cs : List Value}, d.K w ok x cs → d.K w' ok' x cs
theorem Kd.scalar_flat {enc : α → Value} {h1} : (Kd.scalar enc h1).Flat := fun h => h
theorem Kd.C_flat {w : World} {ok : Nat → Prop} {A : Option Addr} {xs : List α} (hf : d.Flat) (h : d.C w ok A xs) (ok' : Nat → Prop) (hk : ∀ ad, A = some ad → ok ad.block → ok' ad.block) : d.C w ok' A xs := by
  obtain ⟨h1, inner, hr, hc⟩ := h
  exact ⟨h1, inner, hr.imp (fun _ _ hx => hf hx), fun hn => by obtain ⟨ad, e, ho, hx⟩ := hc hn; exact ⟨ad, e, hk _ e ho, hx⟩⟩
theorem Kd.R_flat {e base : Nat} {w : World} {ok : Nat → Prop} {v : Value} {xs : List α} (hf : d.Flat) (h : d.R e w base ok v xs) : d.R e w base (fun k => some k = v.ownBlock) v xs := by
  obtain ⟨_, inner, ho, hr⟩ := h
  exact ⟨fun k hk => hk.symm, inner, ho, hr.imp (fun _ _ hx => hf hx)⟩
theorem Kd.R_ge {e base : Nat} {w : World} {ok : Nat → Prop} {v : Value} {xs : List α} (hf : d.Flat) (h : d.R e w base ok v xs) : d.R e w base (fun b => base ≤ b) v xs :=
  Kd.R_mono (Kd.R_flat hf h) (fun b hb => (Kd.R_own h b hb.symm).1)
/-- append(v, ys...) of such elements: the new row rests on itself alone. -/
theorem wp_appendF (hf : d.Flat) (hgd : o.guard = none) (s x : Operand) (t : TypeId)
    (ho : o.op = .call { callee := .builtin .append, args := #[s, x], argTypes := #[t, t] })
    (e : TypeId) (z : Value) (bytes : Nat) (ht : P.underlying t = some (.slice e)) (hinfo : (P.info? e).map (fun i => (i.zero, i.size, i.bytes)) = some (some z, d.sz, bytes)) (hz : z.cells.size = d.sz)
    (base : Nat) (ok ok2 : Nat → Prop) (v : Value) (xs ys : List α) (A : Option Addr) (m c : Nat) (hs : a.eval s = v) (hx : a.eval x = .slice A m c) (hm : ys.length = m)
    (hr : d.R e w base ok v xs) (hy : d.C w ok2 A ys) (h63 : xs.length + ys.length ≤ maxLen) (hbytes : (xs.length + ys.length) * bytes ≤ 140737488355328) (hbase : base ≤ w.heap.size)
    (len : Nat) (hlen : xs.length + m = len) (h : ∀ A' c' w', d.R e w' base (fun k => some k = (Value.slice A' len c').ownBlock) (.slice A' len c') (xs ++ ys) → Chg (fun k => some k = v.ownBlock) w w' → ((Value.slice A' len c').ownBlock = v.ownBlock ∨ (Value.slice A' len c').ownBlock = some w.heap.size) → wpList P ops Q rest (a.put o.dst (.slice A' len c')) w') :
    wpList P ops Q (o :: rest) a w := by
  subst hm
  obtain ⟨i, hi, hzz⟩ := Option.map_eq_some_iff.1 hinfo
  simp only [Prod.mk.injEq] at hzz
  obtain ⟨hz0, hz1, hz2⟩ := hzz
  have chg : ∀ w', w.grownBy w' v.ownBlock → Chg (fun k => some k = v.ownBlock) w w' := fun w' hg => ⟨hg.os, hg.tape, hg.output, hg.size, fun k hk hne => hg.block k hk hne⟩
  obtain ⟨h0, zs, hown, hrp⟩ := hr
  obtain ⟨k1, us, ku, kc⟩ := hy
  have main : ∃ v' w', (Builtin.append_ #[t, t] o.type #[v, .slice A ys.length c]).run P w = .ok v' w' ∧ w'.ownsRow base e d.sz v' (xs.length + ys.length) (zs ++ us) ∧ w.grownBy w' v.ownBlock ∧ (v'.ownBlock = v.ownBlock ∨ v'.ownBlock = some w.heap.size) := by
    rcases Nat.eq_zero_or_pos ys.length with hy0 | hy0
    · have hu : us = [] := List.eq_nil_of_length_eq_zero (by rw [ku.1, hy0, Nat.zero_mul])
      subst hu
      refine ⟨v, w, ?_, by simpa [hy0] using hown, World.grownBy.refl w _, .inl rfl⟩
      rw [hy0]
      rcases hown.2 with ⟨rfl, h0⟩ | ⟨g, cap, cur, rfl, _, _, hnc, _⟩
      · cases A <;> simp [Builtin.append_, run_underlying ht, sizeOf, typeInfo, hi, Builtin.lenOf, Builtin.firstCells, loadCells, loadCellsFrom]
      · cases A <;> simp [Builtin.append_, run_underlying ht, sizeOf, typeInfo, hi, Builtin.lenOf, Builtin.firstCells, hnc, storeCells, loadCells, loadCellsFrom]
    · obtain ⟨ad, rfl, _, hcell⟩ := kc hy0
      obtain ⟨v', w', hrun, h2, h3, _, h5⟩ := run_append_own_at (P := P) w base t o.type e i z d.sz bytes ht hi hz0 hz1 hz2 hz d.pos v xs.length zs hown ad ys.length c us ku.1 hcell (Reps.one_ (fun x c hx => d.one hx) d.pos ku) h63 hbytes hbase
      exact ⟨v', w', hrun, h2, h3, h5⟩
  obtain ⟨v', w', hrun, h2, h3, h5⟩ := main
  refine wpList_plain hgd fun K hK => ?_
  unfold Oper.wp execOp
  simp only [ho, resolve, invoke, builtin, Sem.run_bind, Sem.run_pure, Result.andThen_ok, List.map_toArray, List.map_cons, List.map_nil, hs, hx, hrun]
  have hR : d.R e w' base (fun k => some k = v'.ownBlock) v' (xs ++ ys) := ⟨fun k hk => hk.symm, zs ++ us, by rw [List.length_append]; exact h2, Reps.append (hrp.imp (fun _ _ hx => hf hx)) (ku.imp (fun _ _ hx => hf hx))⟩
  obtain ⟨A', c', hv, _⟩ := Kd.R_slice' hR (m := len) (by rw [List.length_append]; exact hlen)
  subst hv
  exact hK _ _ (h A' c' w' hR (chg w' h3) h5)
/-- What was laid in a new block of its own, ahead of an append of one element. -/
theorem boxed {ok : Nat → Prop} {y : α} {cs : Array Value} (e : TypeId) (h : d.K w ok y cs.toList) : d.C (w.alloc (.cells cs e)) (fun k => ok k ∨ k = w.heap.size) (some ⟨w.heap.size, 0, none⟩) [y] := by
  have hl := d.len h
  refine ⟨by simp, cs.toList, Reps.single ?_ hl, fun _ => ⟨_, rfl, .inr rfl, World.news_of_block (heap_alloc_new w _)⟩⟩
  exact d.mono (fun k hk => .inl hk) (Kd.step h (fun k _ hl => Below.heap_alloc w _ k hl))
/-- append(v, y): behind 'at_builtin'; the goal's world is 'w.alloc' of the element's box. -/
theorem wp_append1 (hgd : o.guard = none) (s x : Operand) (t : TypeId)
    (ho : o.op = .call { callee := .builtin .append, args := #[s, x], argTypes := #[t, t] })
    (e : TypeId) (z : Value) (bytes : Nat) (ht : P.underlying t = some (.slice e)) (hinfo : (P.info? e).map (fun i => (i.zero, i.size, i.bytes)) = some (some z, d.sz, bytes)) (hz : z.cells.size = d.sz)
    (base : Nat) (ok ok2 : Nat → Prop) (v : Value) (xs : List α) (y : α) (cs : Array Value) (hs : a.eval s = v) (hx : a.eval x = .slice (some ⟨w.heap.size, 0, none⟩) 1 1)
    (hr : d.R e w base ok v xs) (hy : d.K w ok2 y cs.toList) (hne : ∀ k, ok2 k → some k ≠ v.ownBlock) (h63 : xs.length + 1 ≤ maxLen) (hbytes : (xs.length + 1) * bytes ≤ 140737488355328) (hbase : base ≤ w.heap.size)
    (len : Nat) (hlen : xs.length + 1 = len) (h : ∀ A' c' w', d.R e w' base (fun k => ok k ∨ ok2 k ∨ w.heap.size ≤ k) (.slice A' len c') (xs ++ [y]) → Chg (fun k => some k = v.ownBlock) w w' → ((Value.slice A' len c').ownBlock = v.ownBlock ∨ ∃ k, (Value.slice A' len c').ownBlock = some k ∧ w.heap.size ≤ k) → wpList P ops Q rest (a.put o.dst (.slice A' len c')) w') :
    wpList P ops Q (o :: rest) a (w.alloc (.cells cs e)) := by
  have c0 : Chg nob w (w.alloc (.cells cs e)) := (Chg.refl _ _).alloc _
  refine wp_append (d := d) hgd s x t ho e z bytes ht hinfo hz base ok (fun k => ok2 k ∨ k = w.heap.size) v xs [y] (some ⟨w.heap.size, 0, none⟩) 1 1 hs hx rfl (Kd.R_new hr c0) (boxed e hy) ?_ (by simpa using h63) (by simpa using hbytes) (by simp; omega) len hlen ?_
  · rintro k (hk | rfl)
    · exact hne k hk
    · intro e
      have := (Kd.R_own hr _ e.symm).2
      omega
  · intro A' c' w' hR hC hat
    refine h A' c' w' (Kd.R_mono hR ?_) ?_ ?_
    · rintro k (hk | (hk | rfl) | hk)
      · exact .inl hk
      · exact .inr (.inl hk)
      · exact .inr (.inr (Nat.le_refl _))
      · exact .inr (.inr (by simp at hk; omega))
    · exact (c0.ofNew (S := fun k => some k = v.ownBlock)).trans hC (fun i hi => .inl hi)
    · rcases hat with hat | hat
      · exact .inl hat
      · exact .inr ⟨_, hat, by simp⟩
/-- append(v, y) of such an element. -/
theorem wp_append1F (hf : d.Flat) (hgd : o.guard = none) (s x : Operand) (t : TypeId)
    (ho : o.op = .call { callee := .builtin .append, args := #[s, x], argTypes := #[t, t] })
    (e : TypeId) (z : Value) (bytes : Nat) (ht : P.underlying t = some (.slice e)) (hinfo : (P.info? e).map (fun i => (i.zero, i.size, i.bytes)) = some (some z, d.sz, bytes)) (hz : z.cells.size = d.sz)
    (base : Nat) (ok ok2 : Nat → Prop) (v : Value) (xs : List α) (y : α) (cs : Array Value) (hs : a.eval s = v) (hx : a.eval x = .slice (some ⟨w.heap.size, 0, none⟩) 1 1)
    (hr : d.R e w base ok v xs) (hy : d.K w ok2 y cs.toList) (h63 : xs.length + 1 ≤ maxLen) (hbytes : (xs.length + 1) * bytes ≤ 140737488355328) (hbase : base ≤ w.heap.size)
    (len : Nat) (hlen : xs.length + 1 = len) (h : ∀ A' c' w', d.R e w' base (fun k => some k = (Value.slice A' len c').ownBlock) (.slice A' len c') (xs ++ [y]) → Chg (fun k => some k = v.ownBlock) w w' → ((Value.slice A' len c').ownBlock = v.ownBlock ∨ ∃ k, (Value.slice A' len c').ownBlock = some k ∧ w.heap.size ≤ k) → wpList P ops Q rest (a.put o.dst (.slice A' len c')) w') :
    wpList P ops Q (o :: rest) a (w.alloc (.cells cs e)) := by
  have c0 : Chg nob w (w.alloc (.cells cs e)) := (Chg.refl _ _).alloc _
  refine wp_appendF (d := d) hf hgd s x t ho e z bytes ht hinfo hz base ok (fun k => ok2 k ∨ k = w.heap.size) v xs [y] (some ⟨w.heap.size, 0, none⟩) 1 1 hs hx rfl (Kd.R_new hr c0) (boxed e hy) (by simpa using h63) (by simpa using hbytes) (by simp; omega) len hlen ?_
  · intro A' c' w' hR hC hat
    refine h A' c' w' hR ((c0.ofNew (S := fun k => some k = v.ownBlock)).trans hC (fun i hi => .inl hi)) ?_
    rcases hat with hat | hat
    · exact .inl hat
    · exact .inr ⟨_, hat, by simp⟩
end
end Go.Proofs.Ythleagjnhpjhiaa
