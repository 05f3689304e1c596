/- Failover: what serves of a target: the plain words; the program's test. -/
import Derived.Test.YthjlgcooihpakaaFoRRight
import Derived.Deep.CutRange
import Derived.Deep.DeepCutAuto
import Derived.Deep.Cut
namespace Go.Proofs.Ythjlgcooihpakaa
open Go.RowKit
set_option linter.unusedVariables false
set_option linter.unusedSimpArgs false
/-- An instance serves a target, with a tag. -/
def servesB (tag target : ByteArray) (i : Inst) : Bool := decide (i.2 = 0 ∧ i.1.2.2.1 = target ∧ (tag.size = 0 ∨ tag ∈ i.1.2.2.2.1))
/-- What serves of a target, by an answer. -/
def goodL (tag target : ByteArray) (l : List Inst) : List Svc := (l.filter (servesB tag target)).map (·.1)
/-- The targets for which an answer speaks, with their places, and what serves of them. -/
def spkL (tag : ByteArray) : List (ByteArray × Ans) → Nat → List (Nat × List Svc)
  | [], _ => []
  | (t, a) :: r, k => if a.1 = 1 then (k, goodL tag t a.2.2.2.2.1) :: spkL tag r (k + 1) else spkL tag r (k + 1)
/-- The first for which something serves. -/
def fstL (most : Nat) : List (Nat × List Svc) → List Svc × Int
  | [] => ([], -1)
  | (k, g) :: r => if g = [] then fstL most r else (g.take most, (k : Int))
def resF (ts : List ByteArray) (tag : ByteArray) (most : Nat) (l : List Ans) : List Svc × Int := fstL most (spkL tag (ts.zip l) 0)
theorem goodL_snoc {tag target : ByteArray} {l : List Inst} {j : Nat} {x : Inst} (h : l[j]? = some x) : goodL tag target (l.take (j + 1)) = goodL tag target (l.take j) ++ (if servesB tag target x = true then [x.1] else []) := by
  unfold goodL
  rw [List.take_add_one, h, List.filter_append, List.map_append]
  congr 1
  by_cases hs : servesB tag target x = true
  · rw [if_pos hs]; simp [hs]
  · rw [if_neg hs]; simp [hs]
def instV (x : Inst) (L : Option Addr) (d tn : Nat) : Array Value := #[.int .i64 x.1.1, .string x.1.2.1, .string x.1.2.2.1, .slice L tn d, .int .i64 x.1.2.2.2.2.1, .int .u64 x.1.2.2.2.2.2.1, .int .u64 x.1.2.2.2.2.2.2, .int .i64 x.2]
theorem inst_block {w : World} {g t : Nat} {x : Inst} {L : Option Addr} {d tn : Nat} (h : w.heap[g]? = some (.cells (instV x L d tn) t (0, 0))) : SvcAt w g 0 x.1 L d tn ∧ w.cell? ⟨g, 7, none⟩ = some (.int .i64 x.2) :=
  ⟨⟨by rw [cell_of_row w g _ _ _ _ h]; rfl, by rw [cell_of_row w g _ _ _ _ h]; rfl, by rw [cell_of_row w g _ _ _ _ h]; rfl, by rw [cell_of_row w g _ _ _ _ h]; rfl, by rw [cell_of_row w g _ _ _ _ h]; rfl, by rw [cell_of_row w g _ _ _ _ h]; rfl, by rw [cell_of_row w g _ _ _ _ h]; rfl⟩, by rw [cell_of_row w g _ _ _ _ h]; rfl⟩
set_option maxRecDepth 100000 in
set_option maxHeartbeats 4000000 in
theorem f_serves {w : World} {ok : Nat → Prop} {x : Inst} {L : Option Addr} {d tn tb ub : Nat} {target tag : ByteArray} (hC : strK.C w ok L x.1.2.2.2.1) (htn : x.1.2.2.2.1.length = tn) (hd : tn ≤ d) (ht : w.cell? ⟨tb, 0, none⟩ = some (.string target)) (hu : w.cell? ⟨ub, 1, none⟩ = some (.string tag)) :
    Calls Try.prog 27 #[.agg (instV x L d tn), .pointer (some ⟨tb, 0, none⟩), .pointer (some ⟨ub, 0, none⟩)] w fun e w' => e = .returned (.bool (servesB tag target x)) ∧ Chg nob w w' := by
  obtain ⟨w1, hw1⟩ : ∃ w1, w1 = w.alloc (.cells (instV x L d tn) 65) := ⟨_, rfl⟩
  have hc1 : Chg nob w w1 := by rw [hw1]; exact (Chg.refl nob w).alloc _
  have hb := heap_alloc_new w (.cells (instV x L d tn) 65)
  rw [← hw1] at hb
  obtain ⟨⟨p0, p1, p2, p3, p4, p5, p6⟩, p7⟩ := inst_block hb
  have ht1 := hc1.cell ht (not_nob _)
  have hu1 := hc1.cell hu (not_nob _)
  have HC1 := Lib.hid hc1
  have HW1 := Lib.hid hw1
  have HCT := Lib.hid (Kd.C_new hC hc1)
  have HTN := Lib.hid htn
  have hem := empty_is tag
  clear hb hc1 hw1 hC htn ht hu p0 p1 p4 p5 p6
  by_cases hs : x.2 = 0
  · have t1 : (x.2 == 0) = true := by simp [hs]
    by_cases hn : x.1.2.2.1 = target
    · have t2 : (x.1.2.2.1.toList == target.toList) = true := by rw [str_eq]; exact decide_eq_true hn
      by_cases hg : tag.size = 0
      · have e1 : tag.toList.isEmpty = true := by rw [hem]; exact decide_eq_true hg
        have HF : Hid (servesB tag target x = true) := decide_eq_true ⟨hs, hn, .inl hg⟩
        clear hs hn hg hem
        go_enter Try.func27, Try.ntmps27
        go_upto_region 1 with fail
        rw [← HW1.out]
        go_wp2
        go_ret
        rw [HF.out]
        exact ⟨rfl, HC1.out⟩
      · have e1 : tag.toList.isEmpty = false := by rw [hem]; exact decide_eq_false hg
        have HF : Hid (servesB tag target x = decide (tag ∈ x.1.2.2.2.1)) := by
          show _ = _
          unfold servesB
          by_cases hm : tag ∈ x.1.2.2.2.1
          · rw [decide_eq_true hm]; exact decide_eq_true ⟨hs, hn, .inr hm⟩
          · rw [decide_eq_false hm]; exact decide_eq_false (fun h => by rcases h.2.2 with h | h; exact hg h; exact hm h)
        clear hs hn hg hem
        go_enter Try.func27, Try.ntmps27
        go_upto_region 1 with fail
        rw [← HW1.out]
        go_wp2_with fail
        refine (l_containsS HCT.out HTN.out tag).mono ?_
        rintro e w2 ⟨rfl, hw2⟩
        obtain rfl : w1 = w2 := hw2.symm
        go_wp2
        go_ret
        rw [HF.out]
        exact ⟨rfl, HC1.out⟩
    · have t2 : (x.1.2.2.1.toList == target.toList) = false := by rw [str_eq]; exact decide_eq_false hn
      have HF : Hid (servesB tag target x = false) := decide_eq_false (fun h => hn h.2.1)
      clear hs hn hem
      go_enter Try.func27, Try.ntmps27
      go_upto_region 1 with fail
      rw [← HW1.out]
      go_wp2
      go_ret
      rw [HF.out]
      exact ⟨rfl, HC1.out⟩
  · have t1 : (x.2 == 0) = false := by simp [hs]
    have HF : Hid (servesB tag target x = false) := decide_eq_false (fun h => hs h.1)
    clear hs hem
    go_enter Try.func27, Try.ntmps27
    go_upto_region 1 with fail
    rw [← HW1.out]
    go_wp2
    go_ret
    rw [HF.out]
    exact ⟨rfl, HC1.out⟩
end Go.Proofs.Ythjlgcooihpakaa
