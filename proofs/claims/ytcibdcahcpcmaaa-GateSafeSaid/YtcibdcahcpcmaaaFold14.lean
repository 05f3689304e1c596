import Derived.Test.YtcibdcahcpcmaaaFold12
import Derived.Test.YtcibdcahcpcmaaaFold13
/- What a cache is in memory, and its small functions. -/
namespace Go.Proofs.Ytcibdcahcpcmaaa
open Go.RowKit
set_option linter.unusedVariables false
set_option linter.unusedSimpArgs false
/-- What is known, in the order in which it came to be known. -/
abbrev Known := List (Qry × Ans)
def seekA : Known → Qry → Option Ans
  | [], _ => none
  | (p, a) :: l, q => if qEq q p then some a else seekA l q
def putA : Known → Qry → Ans → Known
  | [], q, a => [(q, a)]
  | (p, b) :: l, q, a => if qEq q p then (p, a) :: l else (p, b) :: putA l q a
/-- The map's entries, and what they say. -/
def Ents (w : World) (ok : Nat → Prop) : QMap → Known → Prop
  | [], [] => True
  | (p, c) :: m, (q, a) :: l => p = q ∧ ansK.K w ok a c.toList ∧ Ents w ok m l
  | _, _ => False
theorem Ents.imp {w w' : World} {ok ok' : Nat → Prop} (h : ∀ (a : Ans) (c : List Value), ansK.K w ok a c → ansK.K w' ok' a c) : ∀ {m : QMap} {l : Known}, Ents w ok m l → Ents w' ok' m l
  | [], [], _ => trivial
  | (p, c) :: m, (q, a) :: l, ⟨h1, h2, h3⟩ => ⟨h1, h _ _ h2, Ents.imp h h3⟩
  | [], _ :: _, k => k.elim
  | _ :: _, [], k => k.elim
theorem Ents.len {w : World} {ok : Nat → Prop} : ∀ {m : QMap} {l : Known}, Ents w ok m l → m.length = l.length
  | [], [], _ => rfl
  | (p, c) :: m, (q, a) :: l, ⟨h1, h2, h3⟩ => by rw [List.length_cons, List.length_cons, Ents.len h3]
  | [], _ :: _, k => k.elim
  | _ :: _, [], k => k.elim
theorem Ents.seek {w : World} {ok : Nat → Prop} {q : Qry} : ∀ {m : QMap} {l : Known}, Ents w ok m l → (seekQ m q = none ∧ seekA l q = none) ∨ ∃ c a, seekQ m q = some c ∧ seekA l q = some a ∧ ansK.K w ok a c.toList
  | [], [], _ => .inl ⟨rfl, rfl⟩
  | (p, c) :: m, (p', a) :: l, ⟨h1, h2, h3⟩ => by
    subst h1
    unfold seekQ seekA
    by_cases hq : qEq q p = true
    · rw [if_pos hq, if_pos hq]
      exact .inr ⟨c, a, rfl, rfl, h2⟩
    · rw [if_neg hq, if_neg hq]
      exact Ents.seek h3
  | [], _ :: _, k => k.elim
  | _ :: _, [], k => k.elim
theorem Ents.put {w : World} {ok : Nat → Prop} {q : Qry} {c : Array Value} {a : Ans} (hk : ansK.K w ok a c.toList) : ∀ {m : QMap} {l : Known}, Ents w ok m l → Ents w ok (putQ m q c) (putA l q a)
  | [], [], _ => ⟨rfl, hk, trivial⟩
  | (p, d) :: m, (p', b) :: l, ⟨h1, h2, h3⟩ => by
    subst h1
    unfold putQ putA
    by_cases hq : qEq q p = true
    · rw [if_pos hq, if_pos hq]
      exact ⟨rfl, hk, h3⟩
    · rw [if_neg hq, if_neg hq]
      exact ⟨rfl, h2, Ents.put hk h3⟩
  | [], _ :: _, k => k.elim
  | _ :: _, [], k => k.elim
theorem seekA_put (l : Known) (q p : Qry) (a : Ans) : seekA (putA l q a) p = if qEq p q then some a else seekA l p := by
  induction l with
  | nil => rfl
  | cons x l ih =>
    obtain ⟨x, d⟩ := x
    unfold putA
    by_cases hq : qEq q x = true
    · rw [if_pos hq]
      have := qEq_iff.1 hq
      subst this
      unfold seekA
      by_cases hp : qEq p q = true
      · rw [if_pos hp, if_pos hp]
      · rw [if_neg hp, if_neg hp, if_neg hp]
    · rw [if_neg hq]
      unfold seekA
      by_cases hp : qEq p x = true
      · rw [if_pos hp, if_pos hp, if_neg]
        intro h
        have h1 := qEq_iff.1 hp
        have h2 := qEq_iff.1 h
        subst h1
        subst h2
        exact hq (qEq_self _)
      · rw [if_neg hp, if_neg hp]
        exact ih
theorem putA_new {l : Known} {q : Qry} {a : Ans} (h : seekA l q = none) : putA l q a = l ++ [(q, a)] := by
  induction l with
  | nil => rfl
  | cons x l ih =>
    obtain ⟨x, d⟩ := x
    unfold seekA at h
    unfold putA
    by_cases hq : qEq q x = true
    · rw [if_pos hq] at h
      cases h
    · rw [if_neg hq] at h ⊢
      rw [ih h]
      rfl
theorem putA_keys {l : Known} {q : Qry} {a b : Ans} (h : seekA l q = some b) : (putA l q a).map Prod.fst = l.map Prod.fst := by
  induction l with
  | nil => cases h
  | cons x l ih =>
    obtain ⟨x, d⟩ := x
    unfold seekA at h
    unfold putA
    by_cases hq : qEq q x = true
    · rw [if_pos hq]
      rfl
    · rw [if_neg hq] at h ⊢
      rw [List.map_cons, List.map_cons, ih h]
/-- Block c is a cache: own are the blocks that are its own; what it knows rests neither on these nor on av. -/
structure CSt (w : World) (own av : Nat → Prop) (c : Nat) (l : Known) : Prop where
  ex : ∃ r O oc m, w.heap[c]? = some (.cells #[.map (some r), .slice O l.length oc] 82 (0, 0)) ∧ own c ∧ own r ∧ c ≠ r ∧ MapRaw w r m ∧ Ents w (fun b => ¬ (own b ∨ av b)) m l ∧
    qryK.R 61 w 0 (fun k => some k = (Value.slice O l.length oc).ownBlock) (.slice O l.length oc) (l.map Prod.fst) ∧ ∀ k, (Value.slice O l.length oc).ownBlock = some k → own k ∧ k ≠ c ∧ k ≠ r
theorem row2 {w : World} {g t : Nat} {a b : Value} (h : w.heap[g]? = some (.cells #[a, b] t (0, 0))) : w.cell? ⟨g, 0, none⟩ = some a ∧ w.cell? ⟨g, 1, none⟩ = some b ∧ ∀ j, w.frozen? ⟨g, j, none⟩ = false :=
  ⟨by rw [cell_of_row _ _ _ _ _ _ h]; rfl, by rw [cell_of_row _ _ _ _ _ _ h]; rfl, fun j => by simp [World.frozen?, h]⟩
/-- The cache stays where its own blocks stay. -/
theorem CSt.chg {w w' : World} {own av S : Nat → Prop} {c : Nat} {l : Known} (h : CSt w own av c l) (hc : Chg S w w') (hS : ∀ b, b < w.heap.size → ¬ S b) : CSt w' own av c l := by
  obtain ⟨r, O, oc, m, h1, h2, h3, h4, h5, h6, h7, h8⟩ := h.ex
  refine ⟨r, O, oc, m, hc.heap h1 (hS _ (heap_lt h1)), h2, h3, h4, h5.keep hc (hS _ h5.lt), h6.imp (fun a cs hk => Kd.step hk (fun b _ hb => hc.block b hb (hS b hb))), ?_, h8⟩
  exact Kd.R_step h7 (fun b hb hl => hc.block b hl (hS b hl))
theorem CSt.new {w w' : World} {own av : Nat → Prop} {c : Nat} {l : Known} (h : CSt w own av c l) (hc : Chg nob w w') : CSt w' own av c l := h.chg hc (fun b _ => not_nob b)
/-- Blocks that it never rests on may turn. -/
theorem CSt.chgA {w w' : World} {own av S : Nat → Prop} {c : Nat} {l : Known} (h : CSt w own av c l) (hc : Chg S w w') (hS : ∀ b, S b → ¬ own b ∧ (av b ∨ w.heap.size ≤ b)) : CSt w' own av c l := by
  obtain ⟨r, O, oc, m, h1, h2, h3, h4, h5, h6, h7, h8⟩ := h.ex
  refine ⟨r, O, oc, m, hc.heap h1 (fun e => (hS c e).1 h2), h2, h3, h4, h5.keep hc (fun e => (hS r e).1 h3), h6.imp (fun a cs hk => Kd.step hk (fun b hn hb => hc.block b hb (fun e => (hS b e).2.elim (fun k => hn (.inr k)) (fun k => by omega)))), ?_, h8⟩
  exact Kd.R_chg h7 hc (fun b hb e => (hS b e).1 (h8 b hb.symm).1)
/-- New blocks may be named besides. -/
theorem CSt.reav {w : World} {own av av' : Nat → Prop} {c : Nat} {l : Known} (h : CSt w own av c l) (hS : ∀ b, av' b → av b ∨ w.heap.size ≤ b) : CSt w own av' c l := by
  obtain ⟨r, O, oc, m, h1, h2, h3, h4, h5, h6, h7, h8⟩ := h.ex
  refine ⟨r, O, oc, m, h1, h2, h3, h4, h5, h6.imp (fun a cs hk => ansK.mono (fun b hb e => ?_) (ansK.bound hk)), h7, h8⟩
  rcases e with e | e
  · exact hb.1 (.inl e)
  · rcases hS b e with k | k
    · exact hb.1 (.inr k)
    · have := hb.2; omega
/-- A cache that is not there, or that no call made. -/
def NoCache (w : World) (p : Option Addr) : Prop := p = none ∨ ∃ g, p = some ⟨g, 0, none⟩ ∧ w.heap[g]? = some (.cells #[.map none, .slice none 0 0] 82 (0, 0))
theorem NoCache.new {w w' : World} {p : Option Addr} (h : NoCache w p) (hc : Chg nob w w') : NoCache w' p := by
  rcases h with rfl | ⟨g, rfl, h⟩
  · exact .inl rfl
  · exact .inr ⟨g, rfl, hc.heap h (not_nob _)⟩
theorem ca_none {w : World} {own av : Nat → Prop} {c : Nat} {l : Known} (h : CSt w own av c l) :
    Calls Try.prog 31 #[.pointer (some ⟨c, 0, none⟩)] w fun e w' => e = .returned (.bool false) ∧ w' = w := by
  obtain ⟨r, O, oc, m, h1, -⟩ := h.ex
  obtain ⟨q0, q1, _⟩ := row2 h1
  have qT : ∀ (w : World) (r : Option Nat), (binOp .eql 80 (.map r) (.map none)).run Try.prog w = .ok (.bool r.isNone) w := fun w r => run_eql_map_nil w _ _ _ r Try.underlying80
  clear h h1
  go_enter Try.func31, Try.ntmps31
  go_wp2
  go_ret
  exact ⟨rfl, rfl⟩
theorem nc_none {w : World} {p : Option Addr} (h : NoCache w p) :
    Calls Try.prog 31 #[.pointer p] w fun e w' => e = .returned (.bool true) ∧ w' = w := by
  have qT : ∀ (w : World) (r : Option Nat), (binOp .eql 80 (.map r) (.map none)).run Try.prog w = .ok (.bool r.isNone) w := fun w r => run_eql_map_nil w _ _ _ r Try.underlying80
  rcases h with rfl | ⟨g, rfl, h⟩
  · go_enter Try.func31, Try.ntmps31
    go_wp2
    go_ret
    exact ⟨rfl, rfl⟩
  · obtain ⟨q0, q1, _⟩ := row2 h
    clear h
    go_enter Try.func31, Try.ntmps31
    go_wp2
    go_ret
    exact ⟨rfl, rfl⟩
theorem ca_new (w : World) (av : Nat → Prop) : Calls Try.prog 10 #[] w fun e w' => ∃ c, e = .returned (.pointer (some ⟨c, 0, none⟩)) ∧ w.heap.size ≤ c ∧ CSt w' (fun b => w.heap.size ≤ b ∧ b < w'.heap.size) av c [] ∧ Chg nob w w' := by
  have hmm := @run_makeMap Try.prog
  have HM := Lib.hid (MapRaw.made w)
  have HC : Hid (Chg nob w ((w.alloc (.map #[] 0)).alloc (.cells #[.map (some w.heap.size), .slice none 0 0] 82))) := ((Chg.refl nob w).alloc _).alloc _
  have HB := Lib.hid (heap_alloc_new (w.alloc (.map #[] 0)) (.cells #[.map (some w.heap.size), .slice none 0 0] 82))
  go_enter Try.func10, Try.ntmps10
  go_wp2
  go_ret
  refine ⟨_, rfl, by simp, ⟨w.heap.size, none, 0, [], ?_, by simp, by simp; omega, by simp, HM.out.keep ((Chg.refl nob _).alloc _) (not_nob _), trivial, ?_, ?_⟩, HC.out⟩
  · have := HB.out
    simpa using this
  · exact Kd.R_nil _ _ _ _ _
  · intro k hk
    cases hk
#print axioms ca_new
end Go.Proofs.Ytcibdcahcpcmaaa
