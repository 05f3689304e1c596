/- Rounds: each live node comes within twice as many asks as there are live ones, less one. -/
import Derived.Test.YtoiikjojknnobaaProbeLive
namespace Go.Proofs.Ytoiikjojknnobaa
open Go.RowKit
set_option linter.unusedVariables false
theorem seekL_split {live : List Int} : ∀ {l : List Int} {i : Nat}, (seekL live l i).2.1 = true → ∃ d, d ≤ l.length ∧ (seekL live l i).2.2 = i + d ∧ l.filter (fun x => decide (x ∈ live)) = (seekL live l i).1 :: (l.drop d).filter (fun x => decide (x ∈ live))
  | [], i, h => by cases h
  | x :: l, i, h => by
    unfold seekL at h ⊢
    by_cases hx : x ∈ live
    · rw [if_pos hx]
      exact ⟨1, by simp, rfl, by rw [List.filter_cons, if_pos (decide_eq_true hx)]; rfl⟩
    · rw [if_neg hx] at h ⊢
      obtain ⟨d, h1, h2, h3⟩ := seekL_split h
      refine ⟨d + 1, by simp; omega, by rw [h2]; omega, ?_⟩
      rw [List.filter_cons, if_neg (by simpa using hx), h3]
      rfl
/-- Who of a row that lives is still to come. -/
def remL (live : List Int) (s : List Int × Nat) : List Int := (s.1.drop s.2).filter (fun x => decide (x ∈ live))
theorem next_round {xs : List Int} (hx : ∀ x ∈ xs, 0 ≤ x ∧ x < 4294967296) {k : Nat} {s : List Int × Nat} (h : GoodR s) {live : List Int} (hs : ∀ x ∈ live, x ∈ s.1) (hne : live ≠ []) :
    (nextF xs k s live).1.2 = true ∧ (nextF xs k s live).2.1.1.Perm s.1 ∧
    (remL live s = (nextF xs k s live).1.1 :: remL live (nextF xs k s live).2.1 ∨
     (remL live s = [] ∧ (nextF xs k s live).2.1.1.filter (fun x => decide (x ∈ live)) = (nextF xs k s live).1.1 :: remL live (nextF xs k s live).2.1)) := by
  obtain ⟨h1, _, h3⟩ := next_ok hx h live (k := k)
  have hany : anyL s.1 live = true := by
    cases live with
    | nil => exact absurd rfl hne
    | cons x l => exact List.any_eq_true.2 ⟨x, hs x (List.mem_cons_self ..), decide_eq_true (List.mem_cons_self ..)⟩
  rw [hany] at h1
  refine ⟨h1, h3, ?_⟩
  unfold nextF at h1 ⊢
  split
  · rename_i hf
    left
    obtain ⟨d, _, h5, h6⟩ := seekL_split hf
    show (s.1.drop s.2).filter _ = _ :: (s.1.drop (seekL live (s.1.drop s.2) s.2).2.2).filter _
    rw [h5, h6, List.drop_drop]
  · rename_i hf
    right
    rw [if_neg hf] at h1
    have hf2 : (seekL live (s.1.drop s.2) s.2).2.1 = false := by simpa using hf
    refine ⟨List.filter_eq_nil_iff.2 (fun x hx => by simpa using seekL_none hf2 x hx), ?_⟩
    obtain ⟨d, _, h5, h6⟩ := seekL_split h1
    show (pickL s.1 (drawOrd xs k s.1.length).1).filter _ = _ :: ((pickL s.1 (drawOrd xs k s.1.length).1).drop (seekL live (pickL s.1 (drawOrd xs k s.1.length).1) 0).2.2).filter _
    rw [h5, h6, Nat.zero_add]
/-- How many asks it may last at most till x is told. -/
def distL (live : List Int) (x : Int) (s : List Int × Nat) : Nat := if x ∈ remL live s then (remL live s).idxOf x + 1 else (remL live s).length + live.length
theorem sub_len : ∀ {l m : List Int}, l.Nodup → (∀ x ∈ l, x ∈ m) → l.length ≤ m.length
  | [], m, _, _ => Nat.zero_le _
  | a :: l, m, hn, hs => by
    obtain ⟨h1, h2⟩ := List.nodup_cons.1 hn
    have ha := hs a (List.mem_cons_self ..)
    have h3 := sub_len (m := m.erase a) h2 (fun x hx => (List.mem_erase_of_ne (fun e : x = a => h1 (by rw [← e]; exact hx))).2 (hs x (List.mem_cons_of_mem _ hx)))
    rw [List.length_erase_of_mem ha] at h3
    have := List.length_pos_of_mem ha
    rw [List.length_cons]
    omega
theorem remL_mem {live : List Int} {s : List Int × Nat} {x : Int} (h : x ∈ remL live s) : x ∈ live := by
  have := (List.mem_filter.1 h).2
  simpa using this
theorem remL_nodup {live : List Int} {s : List Int × Nat} (h : GoodR s) : (remL live s).Nodup := ((List.drop_sublist _ _).nodup h.nd).filter _
theorem dist_pos {live : List Int} {x : Int} {s : List Int × Nat} (hx : x ∈ live) : 1 ≤ distL live x s := by
  have := List.length_pos_of_mem hx
  unfold distL
  split <;> omega
theorem dist_le {live : List Int} {x : Int} {s : List Int × Nat} (h : GoodR s) (hx : x ∈ live) : distL live x s ≤ 2 * live.length - 1 := by
  have hp := List.length_pos_of_mem hx
  have h1 := sub_len (remL_nodup (live := live) h) (fun x hx => remL_mem hx)
  unfold distL
  split
  · rename_i hm
    have := List.idxOf_lt_length_of_mem hm
    omega
  · rename_i hm
    have h2 := sub_len (l := x :: remL live s) (m := live) (List.nodup_cons.2 ⟨hm, remL_nodup h⟩) (fun y hy => by
      rcases List.mem_cons.1 hy with rfl | hy
      · exact hx
      · exact remL_mem hy)
    rw [List.length_cons] at h2
    omega
theorem dist_step {xs : List Int} (hxs : ∀ x ∈ xs, 0 ≤ x ∧ x < 4294967296) {k : Nat} {s : List Int × Nat} (h : GoodR s) {live : List Int} (hs : ∀ x ∈ live, x ∈ s.1) {x : Int} (hx : x ∈ live) (hne : (nextF xs k s live).1.1 ≠ x) :
    distL live x (nextF xs k s live).2.1 + 1 ≤ distL live x s := by
  obtain ⟨_, hp, hc⟩ := next_round hxs (k := k) h hs (fun e => by rw [e] at hx; simp at hx)
  have hg := good_next hxs (k := k) h live
  obtain ⟨y, hy⟩ : ∃ y, (nextF xs k s live).1.1 = y := ⟨_, rfl⟩
  obtain ⟨s', hs'⟩ : ∃ s', (nextF xs k s live).2.1 = s' := ⟨_, rfl⟩
  rw [hy] at hne
  rw [hy, hs'] at hc
  rw [hs'] at hp hg ⊢
  rcases hc with hc | ⟨h0, hc⟩
  · unfold distL
    rw [hc]
    by_cases hm : x ∈ remL live s'
    · rw [if_pos hm, if_pos (List.mem_cons_of_mem _ hm), List.idxOf_cons, show (y == x) = false from by simpa using hne, cond_false]
      omega
    · rw [if_neg hm, if_neg (fun e => by rcases List.mem_cons.1 e with e | e; exact hne e.symm; exact hm e), List.length_cons]
      omega
  · have hm : x ∈ remL live s' := by
      have h1 : x ∈ s'.1.filter (fun x => decide (x ∈ live)) := List.mem_filter.2 ⟨hp.mem_iff.2 (hs x hx), decide_eq_true hx⟩
      rw [hc] at h1
      rcases List.mem_cons.1 h1 with e | e
      · exact absurd e.symm hne
      · exact e
    have h2 := sub_len (l := s'.1.filter (fun x => decide (x ∈ live))) (m := live) (hg.nd.filter _) (fun z hz => by simpa using (List.mem_filter.1 hz).2)
    rw [hc, List.length_cons] at h2
    have h3 := List.idxOf_lt_length_of_mem hm
    unfold distL
    rw [h0, if_pos hm, if_neg (by simp)]
    simp only [List.length_nil]
    omega
end Go.Proofs.Ytoiikjojknnobaa
