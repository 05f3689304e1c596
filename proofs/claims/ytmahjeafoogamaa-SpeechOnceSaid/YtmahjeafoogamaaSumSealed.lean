/- The sum of bytes: what a call of Sealed does, and of the reference's From, Sum, Sealed. -/
import Derived.Test.YtmahjeafoogamaaSum
import Derived.Test.YtmahjeafoogamaaFrameLaws
import Derived.Test.YtmahjeafoogamaaAppend
import Derived.Deep.RegionHeld3
import Derived.Deep.DrawnRows
namespace Go.Proofs.Ytmahjeafoogamaa
open Go.RowKit
set_option linter.unusedVariables false
set_option linter.unusedSimpArgs false
theorem m_sealed {w : World} {ok : Nat → Prop} {A : Option Addr} {m c : Nat} {l : List UInt8} (hb : Kd.byte.C w ok A l) (hm : l.length = m) (hmc : m ≤ c) (h4 : 4 ≤ m) :
    Calls Try.prog 80 #[.slice A m c] w fun e w' => e = .returned (.bool (decide (sealedL l))) ∧ Chg nob w w' := by
  obtain ⟨p, rfl⟩ : ∃ p, m = p + 4 := ⟨m - 4, by omega⟩
  have hsm := hb.small
  rw [hm] at hsm
  have HB := Lib.hid hb
  have HM := Lib.hid hm
  have g1 : ¬ (p : Int) + 4 < 4 := by omega
  have g2 : (0 : Int) ≤ (p : Int) := by omega
  have g3 : (p : Int) ≤ (c : Int) := by omega
  have g4 : (p : Int) ≤ (p : Int) + 4 := by omega
  have HT : Hid (Kd.byte.C w ok A (l.take p)) := Kd.C_take hb p (by omega)
  have HTL : Hid ((l.take p).length = p) := by show _ = _; rw [List.length_take]; omega
  have HD := Lib.hid (C_dropB hb p c (by omega) (by omega))
  have HDL : Hid ((l.drop p).length = 4) := by show _ = _; rw [List.length_drop]; omega
  have HR : Hid (decide (sealedL l) = ((strOf (be4 (crc (l.take p)))).toList == (strOf (l.drop p)).toList)) := by
    show _ = _
    rw [Bool.eq_iff_iff, decide_eq_true_iff, beq_iff_eq, strOf_list, strOf_list]
    unfold sealedL
    rw [hm, show p + 4 - 4 = p from by omega]
    exact ⟨fun h => h.symm, fun h => h.symm⟩
  have hcp : ¬ c = p := by omega
  rw [if_neg hcp] at HD
  clear hb hm
  go_enter Try.func80, Try.ntmps80
  go_wp2
  refine wp_region_held_drew (S := fun wx => Chg nob w wx) (by kernel_rfl) ((Chg.refl nob w).drew) (fun hHeld => ?_)
  refine wpAnyH_take (i := 0) (v := ?_) pick0 (by kernel_rfl) (by kernel_rfl) (by kernel_rfl) (fun _ _ _ h => h) (Or.inl ⟨by rfl, ?_⟩) (by assumption) ?_
  rotate_left 1
  · (intro wx hSw; go_simp; try with_reducible rfl)
  try simp only [Act.put, List.setIfInBounds_toArray, List.set_cons_zero, List.set_cons_succ]
  refine wpAnyH_take (i := 1) (v := ?_) (pickS pick0) (by kernel_rfl) (by kernel_rfl) (by kernel_rfl) (fun _ _ _ h => h) (Or.inl ⟨by rfl, ?_⟩) (by assumption) ?_
  rotate_left 1
  · (intro wx hSw; go_simp; try with_reducible rfl)
  try simp only [Act.put, List.setIfInBounds_toArray, List.set_cons_zero, List.set_cons_succ]
  refine wpAnyH_take (i := 2) (v := ?_) (pickS (pickS pick0)) (by kernel_rfl) (by kernel_rfl) (by kernel_rfl) (fun _ _ _ h => h) (Or.inl ⟨by rfl, ?_⟩) (by assumption) ?_
  rotate_left 1
  · (intro wx hSw; go_simp; try with_reducible rfl)
  try simp only [Act.put, List.setIfInBounds_toArray, List.set_cons_zero, List.set_cons_succ]
  refine wpAnyH_take (i := 7) (v := ?_) (pickS (pickS (pickS (pickS (pickS (pickS (pickS pick0))))))) (by kernel_rfl) (by kernel_rfl) (by kernel_rfl) (fun _ _ _ h => h) (Or.inl ⟨by rfl, ?_⟩) (by assumption) ?_
  rotate_left 1
  · (intro wx hSw; go_simp; try with_reducible rfl)
  try simp only [Act.put, List.setIfInBounds_toArray, List.set_cons_zero, List.set_cons_succ]
  refine wpAnyH_take (i := 8) (v := ?_) (pickS (pickS (pickS (pickS (pickS (pickS (pickS (pickS pick0)))))))) (by kernel_rfl) (by kernel_rfl) (by kernel_rfl) (fun _ _ _ h => h) (Or.inl ⟨by rfl, ?_⟩) (by assumption) ?_
  rotate_left 1
  · (intro wx hSw; go_simp; try with_reducible rfl)
  try simp only [Act.put, List.setIfInBounds_toArray, List.set_cons_zero, List.set_cons_succ]
  refine wpAnyH_take (i := 9) (v := ?_) (pickS (pickS (pickS (pickS (pickS (pickS (pickS (pickS (pickS pick0))))))))) (by kernel_rfl) (by kernel_rfl) (by kernel_rfl) (fun _ _ _ h => h) (Or.inl ⟨by rfl, ?_⟩) (by assumption) ?_
  rotate_left 1
  · (intro wx hSw; go_simp; try with_reducible rfl)
  try simp only [Act.put, List.setIfInBounds_toArray, List.set_cons_zero, List.set_cons_succ]
  refine wpAnyH_take (i := 10) (v := ?_) (pickS (pickS (pickS (pickS (pickS (pickS (pickS (pickS (pickS (pickS pick0)))))))))) (by kernel_rfl) (by kernel_rfl) (by kernel_rfl) (fun _ _ _ h => h) (Or.inl ⟨by rfl, ?_⟩) (by assumption) ?_
  rotate_left 1
  · (intro wx hSw; have hcv := conv_any (Kd.C_new HD.out hSw) HDL.out; go_simp; try with_reducible rfl)
  try simp only [Act.put, List.setIfInBounds_toArray, List.set_cons_zero, List.set_cons_succ]
  refine wpAnyH_ready (rs := [3]) (by kernel_rfl) (by simp) ?_
  refine AllReadyH.cons (pickS (pickS (pickS pick0))) (fun K hK => ?_) AllReadyH.nil
  go_simp
  have HN3 : Hid (Chg nob w (w.alloc (.cells #[.slice A p c] 26)).drew) := ((Chg.refl nob w).alloc _).drew
  refine hK.out _ _ (HN3.out) (fun hHeld => ?_)
  clear hK K
  try simp only [Act.put, List.setIfInBounds_toArray, List.set_cons_zero, List.set_cons_succ]
  refine wpAnyH_ready (rs := [4]) (by kernel_rfl) (by simp) ?_
  refine AllReadyH.cons (pickS (pickS (pickS (pickS pick0)))) (fun K hK => ?_) AllReadyH.nil
  go_simp
  have hcell : (w.alloc (.cells #[.slice A p c] 26)).drew.cell? ⟨w.heap.size, 0, none⟩ = some (.slice A p c) := by rw [cell_of_row _ _ 0 _ _ _ (show (w.alloc (.cells #[.slice A p c] 26)).drew.heap[w.heap.size]? = _ from heap_alloc_new w _)]; rfl
  refine (m_sum1 (Kd.C_new HT.out hHeld) HTL.out hcell).mono ?_
  rintro e w4 ⟨rfl, rfl⟩
  clear hcell
  go_wp2_with fail
  refine hK.out _ _ (HN3.out) (fun hHeld => ?_)
  clear hK K
  try simp only [Act.put, List.setIfInBounds_toArray, List.set_cons_zero, List.set_cons_succ]
  refine wpAnyH_ready (rs := [5]) (by kernel_rfl) (by simp) ?_
  refine AllReadyH.cons (pickS (pickS (pickS (pickS (pickS pick0))))) (fun K hK => ?_) AllReadyH.nil
  go_simp
  refine (m_bytes _).mono ?_
  rintro e w5 ⟨g, rfl, hg, hC5, hc5⟩
  have HN5 : Hid (Chg nob w w5) := HN3.out.thenNew hc5
  have hcv := conv_any hC5 (be4_len _)
  clear hC5 hc5
  go_wp2_with fail
  refine hK.out _ _ (HN5.out) (fun hHeld => ?_)
  clear hK K
  try simp only [Act.put, List.setIfInBounds_toArray, List.set_cons_zero, List.set_cons_succ]
  refine wpAnyH_ready (rs := [6]) (by kernel_rfl) (by simp) ?_
  refine AllReadyH.cons (pickS (pickS (pickS (pickS (pickS (pickS pick0)))))) (fun K hK => ?_) AllReadyH.nil
  go_simp
  refine hK.out _ _ (HN5.out) (fun hHeld => ?_)
  clear hK K
  try simp only [Act.put, List.setIfInBounds_toArray, List.set_cons_zero, List.set_cons_succ]
  refine wpAnyH_take (i := 11) (v := ?_) (pickS (pickS (pickS (pickS (pickS (pickS (pickS (pickS (pickS (pickS (pickS pick0))))))))))) (by kernel_rfl) (by kernel_rfl) (by kernel_rfl) (fun _ _ _ h => h) (Or.inl ⟨by rfl, ?_⟩) (by assumption) ?_
  rotate_left 1
  · (intro wx hSw; go_simp; try with_reducible rfl)
  try simp only [Act.put, List.setIfInBounds_toArray, List.set_cons_zero, List.set_cons_succ]
  refine wpAnyH_take (i := 12) (v := ?_) (pickS (pickS (pickS (pickS (pickS (pickS (pickS (pickS (pickS (pickS (pickS (pickS pick0)))))))))))) (by kernel_rfl) (by kernel_rfl) (by kernel_rfl) (fun _ _ _ h => h) (Or.inl ⟨by rfl, ?_⟩) (by assumption) ?_
  rotate_left 1
  · (intro wx hSw; go_simp; try with_reducible rfl)
  try simp only [Act.put, List.setIfInBounds_toArray, List.set_cons_zero, List.set_cons_succ]
  refine wpAnyH_done (by kernel_rfl) ?_ _
  rw [← HR.out]
  clear hcv hHeld
  go_wp2
  go_ret
  exact ⟨rfl, HN5.out⟩
end Go.Proofs.Ytmahjeafoogamaa
