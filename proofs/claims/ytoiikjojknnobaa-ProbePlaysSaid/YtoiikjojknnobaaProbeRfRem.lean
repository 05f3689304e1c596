/- The reference's Remove. -/
import Derived.Test.YtoiikjojknnobaaProbeRfOth
namespace Go.Proofs.Ytoiikjojknnobaa
open Go.RowKit
set_option linter.unusedVariables false
set_option linter.unusedSimpArgs false
theorem restL_not {but : Int} {l : List Int} (h : but ∉ l) : restL but l = l := by
  unfold restL
  refine List.filter_eq_self.2 (fun x hx => ?_)
  exact decide_eq_true (fun e => h (by rw [← e]; exact hx))
theorem restL_idx {but : Int} : ∀ {l : List Int}, l.Nodup → but ∈ l → restL but l = l.take (l.idxOf but) ++ l.drop (l.idxOf but + 1)
  | x :: l, hn, hm => by
    obtain ⟨h1, h2⟩ := List.nodup_cons.1 hn
    by_cases e : x = but
    · subst e
      have h3 := restL_not h1
      unfold restL at h3 ⊢
      rw [List.filter_cons, if_neg (by simp), h3, List.idxOf_cons_self]
      rfl
    · have hm2 : but ∈ l := by
        rcases List.mem_cons.1 hm with h | h
        · exact absurd h.symm e
        · exact h
      have ih := restL_idx h2 hm2
      unfold restL at ih ⊢
      rw [List.filter_cons, if_pos (decide_eq_true e), ih, List.idxOf_cons, show (x == but) = false from by simpa using e, cond_false]
      rfl
theorem remF_eq {s : List Int × Nat} (h : s.1.Nodup) (node : Int) : remF s node = (decide (node ∈ s.1), (restL node s.1, s.2 - (if node ∈ s.1 ∧ s.1.idxOf node < s.2 then 1 else 0))) := by
  unfold remF
  by_cases hm : node ∈ s.1
  · rw [if_pos hm, decide_eq_true hm, restL_idx h hm]
    by_cases hl : s.1.idxOf node < s.2
    · rw [if_pos hl, if_pos ⟨hm, hl⟩]
    · rw [if_neg hl, if_neg (fun e => hl e.2)]; rfl
  · rw [if_neg hm, decide_eq_false hm, restL_not hm, if_neg (fun e => hm e.1)]; rfl
end Go.Proofs.Ytoiikjojknnobaa
