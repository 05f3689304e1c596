/- Some others: what holds of the answer. -/
import Derived.Test.YtoiikjojknnobaaProbeSt
namespace Go.Proofs.Ytoiikjojknnobaa
open Go.RowKit
set_option linter.unusedVariables false
theorem pickL_nodup {row o : List Int} (hr : row.Nodup) (ho : o.Nodup) (hm : ∀ i ∈ o, ∃ q : Nat, i = q ∧ q < row.length) : (pickL row o).Nodup := by
  unfold pickL
  rw [List.Nodup, List.pairwise_map]
  refine List.Pairwise.imp_of_mem ?_ ho
  intro a b ha hb hab he
  obtain ⟨q, rfl, hq⟩ := hm a ha
  obtain ⟨r, rfl, hr2⟩ := hm b hb
  simp only [Int.toNat_natCast, List.getD_eq_getElem?_getD, List.getElem?_eq_getElem hq, List.getElem?_eq_getElem hr2, Option.getD_some] at he
  have := (List.getElem_inj hr).1 he
  omega
theorem pickL_sub {row o : List Int} (hm : ∀ i ∈ o, ∃ q : Nat, i = q ∧ q < row.length) {x : Int} (hx : x ∈ pickL row o) : x ∈ row := by
  unfold pickL at hx
  obtain ⟨i, hi, rfl⟩ := List.mem_map.1 hx
  obtain ⟨q, rfl, hq⟩ := hm i hi
  simp only [Int.toNat_natCast, List.getD_eq_getElem?_getD, List.getElem?_eq_getElem hq, Option.getD_some]
  exact List.getElem_mem hq
theorem restL_length {but : Int} : ∀ {l : List Int}, l.Nodup → (restL but l).length = if but ∈ l then l.length - 1 else l.length
  | [], _ => by simp [restL]
  | x :: l, h => by
    obtain ⟨h1, h2⟩ := List.nodup_cons.1 h
    have ih := restL_length (but := but) h2
    unfold restL at ih ⊢
    rw [List.filter_cons]
    by_cases e : x = but
    · subst e
      rw [if_neg (by simp), if_pos (List.mem_cons_self ..), ih, if_neg h1]
      simp
    · rw [if_pos (by simp [e]), List.length_cons, ih]
      by_cases hm : but ∈ l
      · have : 0 < l.length := List.length_pos_of_mem hm
        rw [if_pos hm, if_pos (List.mem_cons_of_mem _ hm), List.length_cons]
        omega
      · rw [if_neg hm, if_neg (fun h => by rcases List.mem_cons.1 h with h | h; exact e h.symm; exact hm h)]
        simp
theorem someM_val (many : Int) (m : Nat) : (someM many m : Int) = if many < 0 then 0 else if many < m then many else m := by
  unfold someM
  split
  · omega
  · split <;> omega
/-- How many others are told. -/
def wantN (all : List Int) (x0 x1 : Int) : Int :=
  let a : Int := if x0 ∈ all then (all.length : Int) - 1 else all.length
  let b : Int := if x1 < a then x1 else a
  if b < 0 then 0 else b
theorem others_ok {xs : List Int} (hx : ∀ x ∈ xs, 0 ≤ x ∧ x < 4294967296) {k : Nat} {all : List Int} (hn : all.Nodup) (h64 : all.length ≤ 64) (x0 x1 : Int) :
    ((othersF xs k all x0 x1).1.length : Int) = wantN all x0 x1 ∧ (othersF xs k all x0 x1).1.Nodup ∧ ∀ x ∈ (othersF xs k all x0 x1).1, x ≠ x0 ∧ x ∈ all := by
  have hrl := restL_length (but := x0) hn
  have hrn : (restL x0 all).Nodup := hn.filter _
  obtain ⟨m, hm⟩ : ∃ m, (restL x0 all).length = m := ⟨_, rfl⟩
  have hM : ordM (m : Int) = m := by have := restL_le (but := x0) (l := all); unfold ordM; omega
  have ho := drawOrd_ordered xs hx k m
  have hmem : ∀ i ∈ (drawSome xs k m x1).1, ∃ q : Nat, i = q ∧ q < (restL x0 all).length := fun i hi => by
    obtain ⟨q, e, hq⟩ := ho.mem i (List.mem_of_mem_take hi)
    exact ⟨q, e, by rw [hm]; rwa [hM] at hq⟩
  have hnd : (drawSome xs k m x1).1.Nodup := (List.take_sublist _ _).nodup ho.nodup
  have hlen : (drawSome xs k m x1).1.length = someM x1 m := by
    show (List.take _ _).length = _
    rw [List.length_take, ho.len, hM]
    have := someM_val x1 m
    split at this
    · omega
    · split at this <;> omega
  unfold othersF
  rw [hm]
  refine ⟨?_, pickL_nodup hrn hnd hmem, fun x hx2 => ?_⟩
  · rw [pickL_length, hlen, someM_val]
    rw [hm] at hrl
    unfold wantN
    by_cases hin : x0 ∈ all
    · have hpos : 0 < all.length := List.length_pos_of_mem hin
      rw [if_pos hin] at hrl
      simp only [if_pos hin]
      have e : (m : Int) = (all.length : Int) - 1 := by omega
      rw [e]
      repeat' split
      all_goals omega
    · rw [if_neg hin] at hrl
      simp only [if_neg hin]
      have e : (m : Int) = (all.length : Int) := by omega
      rw [e]
      repeat' split
      all_goals omega
  · have h1 := pickL_sub hmem hx2
    have h2 := List.mem_filter.1 h1
    exact ⟨by simpa using h2.2, h2.1⟩
end Go.Proofs.Ytoiikjojknnobaa
