/- The law ProbeNone: the walk. -/
import Derived.Test.YtoiikjojknnobaaProbeSt
namespace Go.Proofs.Ytoiikjojknnobaa
open Go.RowKit
set_option linter.unusedVariables false
set_option linter.unusedSimpArgs false
/-- W: the world ahead of the rounds. -/
structure NnSt (W : World) (q : Option Addr) (gd : Nat) (okd : Nat → Prop) (xs : List Int) (w : World) : Prop where
  r : NoRing w q
  d : IsDraws w okd gd xs 0
  chg : Chg nob W w
section
variable {W w w' : World} {q p L : Option Addr} {gd : Nat} {okd : Nat → Prop} {xs : List Int} {n c : Nat}
theorem NnSt.new (h : NnSt W q gd okd xs w) (hc : Chg nob w w') : NnSt W q gd okd xs w' := ⟨h.r.new hc, h.d.chg hc (fun _ _ => not_nob _), h.chg.thenNew hc⟩
theorem NnSt.drew (h : NnSt W q gd okd xs w) : NnSt W q gd okd xs w.drew := h.new ((Chg.refl _ _).drew)
theorem nn_next (h : NnSt W q gd okd xs w) : Calls Try.prog 11 #[.pointer q, .slice L n c, .pointer p] w fun e w' => e = .returned (.tuple #[.int .i64 0, .bool false]) ∧ NnSt W q gd okd xs w' :=
  (no_next h.r).mono fun e w' ⟨he, hc⟩ => ⟨he, h.new hc⟩
theorem nn_cell {b i : Nat} {v : Value} (hc : W.cell? ⟨b, i, none⟩ = some v) (h : NnSt W q gd okd xs w) : w.cell? ⟨b, i, none⟩ = some v := h.chg.cell hc (not_nob _)
theorem nn_add (h : NnSt W q gd okd xs w) (node : Int) : Calls Try.prog 10 #[.pointer q, .int .i64 node, .pointer p] w fun e w' => e = .returned (.bool false) ∧ NnSt W q gd okd xs w' :=
  (no_add h.r node).mono fun e w' ⟨he, hw⟩ => ⟨he, hw ▸ h⟩
theorem nn_remove (h : NnSt W q gd okd xs w) (node : Int) : Calls Try.prog 18 #[.pointer q, .int .i64 node] w fun e w' => e = .returned (.bool false) ∧ NnSt W q gd okd xs w' :=
  (no_remove h.r node).mono fun e w' ⟨he, hw⟩ => ⟨he, hw ▸ h⟩
theorem nn_others (h : NnSt W q gd okd xs w) (but many : Int) : Calls Try.prog 15 #[.pointer q, .slice L n c, .int .i64 but, .int .i64 many, .pointer p] w fun e w' => e = .returned (.slice none 0 0) ∧ NnSt W q gd okd xs w' :=
  (no_others h.r but many).mono fun e w' ⟨he, hw⟩ => ⟨he, hw ▸ h⟩
theorem nn_list (h : NnSt W q gd okd xs w) : Calls Try.prog 13 #[.pointer q] w fun e w' => e = .returned (.slice none 0 0) ∧ NnSt W q gd okd xs w' :=
  (no_list h.r).mono fun e w' ⟨he, hw⟩ => ⟨he, hw ▸ h⟩
theorem nn_at (h : NnSt W q gd okd xs w) : Calls Try.prog 23 #[.pointer q] w fun e w' => e = .returned (.int .i64 0) ∧ NnSt W q gd okd xs w' :=
  (no_at h.r).mono fun e w' ⟨he, hw⟩ => ⟨he, hw ▸ h⟩
theorem nn_taken (h : NnSt W q gd okd xs w) : Calls Try.prog 24 #[.pointer (some ⟨gd, 0, none⟩)] w fun e w' => e = .returned (.int .i64 0) ∧ NnSt W q gd okd xs w' :=
  (draw_taken h.d).mono fun e w' ⟨he, hw⟩ => ⟨he, hw ▸ h⟩
end
set_option maxRecDepth 100000 in
set_option maxHeartbeats 8000000 in
theorem probeNone_walk {w : World} {a b c : Int} {L : Option Addr} {n lc : Nat} :
    Calls Try.prog 7 #[.agg #[.int .i64 a, .int .i64 b, .int .i64 c, .slice L n lc]] w fun e w' => e = .returned (.bool true) ∧ Chg nob w w' := by
  go_enter Try.func7, Try.ntmps7
  go_wp2_with fail
  obtain ⟨W3, hW⟩ : ∃ W3, W3 = (((w.alloc (.cells #[.int .i64 a, .int .i64 b, .int .i64 c, .slice L n lc] 48)).alloc (.cells #[.bool false, .slice none 0 0, .int .i64 0] 59)).alloc (.cells #[.pointer none, .pointer (some ⟨w.heap.size + 1, 0, none⟩)] 24)) := ⟨_, rfl⟩
  have hc3 : Chg nob w W3 := by rw [hW]; exact (((Chg.refl _ _).alloc _).alloc _).alloc _
  have r0 : W3.heap[w.heap.size]? = some (.cells #[.int .i64 a, .int .i64 b, .int .i64 c, .slice L n lc] 48 (0, 0)) := by
    rw [hW, Below.heap_alloc _ _ _ (by simp; omega), Below.heap_alloc _ _ _ (by simp)]; exact heap_alloc_new w _
  have r1 : W3.heap[w.heap.size + 1]? = some (.cells #[.bool false, .slice none 0 0, .int .i64 0] 59 (0, 0)) := by
    rw [hW, Below.heap_alloc _ _ _ (by simp)]; have := heap_alloc_new (w.alloc (.cells #[.int .i64 a, .int .i64 b, .int .i64 c, .slice L n lc] 48)) (.cells #[.bool false, .slice none 0 0, .int .i64 0] 59); simpa using this
  have r2 : W3.heap[w.heap.size + 1 + 1]? = some (.cells #[.pointer none, .pointer (some ⟨w.heap.size + 1, 0, none⟩)] 24 (0, 0)) := by
    rw [hW]; have := heap_alloc_new ((w.alloc (.cells #[.int .i64 a, .int .i64 b, .int .i64 c, .slice L n lc] 48)).alloc (.cells #[.bool false, .slice none 0 0, .int .i64 0] 59)) (.cells #[.pointer none, .pointer (some ⟨w.heap.size + 1, 0, none⟩)] 24); simpa using this
  have hs3 : W3.heap.size = w.heap.size + 3 := by rw [hW]; simp
  rw [← hW]
  rw [show w.heap.size + 1 + 1 + 1 = W3.heap.size from by omega]
  have R0 := Lib.hid r0
  have R1 := Lib.hid r1
  have R2 := Lib.hid r2
  have HC3 := Lib.hid hc3
  clear hW r0 r1 r2 hc3 hs3
  refine (draw_new (xs := [5, 6, 7]) (C_lit .u32 W3 [5, 6, 7] _ _ rfl (by simp)) (Nat.le_refl _) (by simp)).mono ?_
  rintro e W ⟨gd, rfl, hd, hc⟩
  rw [show List.take 4096 ([5, 6, 7] : List Int) = [5, 6, 7] from rfl] at hd
  have hc2 : Chg nob W3 W := ((Chg.refl _ _).alloc _).trans hc (fun i hi => .inl hi)
  obtain ⟨xs, hxs⟩ : ∃ xs : List Int, xs = [5, 6, 7] := ⟨_, rfl⟩
  rw [← hxs] at hd
  have HD := Lib.hid hd
  have HC := Lib.hid (HC3.out.thenNew hc2)
  have h0 := hc2.heap R0.out (not_nob _)
  have h1 := hc2.heap R1.out (not_nob _)
  have h2 := hc2.heap R2.out (not_nob _)
  have cN : W.cell? ⟨w.heap.size, 1, none⟩ = some (.int .i64 b) := by rw [cell_of_row W _ 1 _ _ _ h0]; rfl
  have cK : W.cell? ⟨w.heap.size, 2, none⟩ = some (.int .i64 c) := by rw [cell_of_row W _ 2 _ _ _ h0]; rfl
  have cL : W.cell? ⟨w.heap.size, 3, none⟩ = some (.slice L n lc) := by rw [cell_of_row W _ 3 _ _ _ h0]; rfl
  have c0 : W.cell? ⟨w.heap.size + 1 + 1, 0, none⟩ = some (.pointer none) := by rw [cell_of_row W _ 0 _ _ _ h2]; rfl
  have c1 : W.cell? ⟨w.heap.size + 1 + 1, 1, none⟩ = some (.pointer (some ⟨w.heap.size + 1, 0, none⟩)) := by rw [cell_of_row W _ 1 _ _ _ h2]; rfl
  have HNR : Hid (NoRing W (some ⟨w.heap.size + 1, 0, none⟩)) := .inr ⟨_, rfl, h1⟩
  have HCN := Lib.hid cN
  have HCK := Lib.hid cK
  have HCL := Lib.hid cL
  have HC0 := Lib.hid c0
  have HC1 := Lib.hid c1
  have HCR := Lib.hid (Chg.refl nob W)
  clear cN cK cL c0 c1 h0 h1 h2 hd hc hc2 hxs R0 R1 R2
  go_wp2
  go_loopw [6] (fun i wr => ∃ j : Nat, j ≤ 2 ∧ i = .int .i64 j ∧ Hid (Chg nob W wr)) (fun i _ => 2 - (intOf i).toNat)
  case atStart => exact ⟨0, Nat.zero_le _, rfl, HCR⟩
  case round =>
    obtain ⟨j, hj, rfl, HR⟩ := hrel
    clear HCR
    by_cases hlt : j < 2
    · have hp : ∃ q : Option Addr, W.cell? ⟨w.heap.size + 1 + 1, j, none⟩ = some (.pointer q) ∧ NoRing W q := by
        rcases (show j = 0 ∨ j = 1 from by omega) with rfl | rfl
        · exact ⟨none, HC0.out, .inl rfl⟩
        · exact ⟨_, HC1.out, HNR.out⟩
      obtain ⟨q, cq, hq⟩ := hp
      have HST : Hid (NnSt W q gd (fun b => W3.heap.size + 1 ≤ b) xs wr) := ⟨hq.new HR.out, by have := HD.out.chg HR.out (fun _ _ => not_nob _); simpa using this, HR.out⟩
      have HCQ := Lib.hid cq
      have k1 := HR.out.cell HCN.out (not_nob _)
      have k2 := HR.out.cell HCK.out (not_nob _)
      have k3 := HR.out.cell HCL.out (not_nob _)
      have k4 := HR.out.cell HCQ.out (not_nob _)
      have b1 : (0 : Int) ≤ (j : Int) := by omega
      have b2 : (j : Int) < 2 := by omega
      have hst' := HST.out.drew
      clear cq hq
      go_wp2
      go_region_held3 (fun w' => w'.cell? ⟨w.heap.size + 1 + 1, j, none⟩ = some (.pointer q) ∧ w'.cell? ⟨w.heap.size, 3, none⟩ = some (.slice L n lc)) (exact ⟨nn_cell HCQ.out (by assumption), nn_cell HCL.out (by assumption)⟩)
        (first | (go_at_call 11; refine (nn_next (by assumption)).mono ?_; rintro e w' ⟨rfl, hq⟩))
      have HQ := Lib.hid hq
      clear HST hst' k1 k2 k3 k4 HR hq
      have hq2 := HQ.out.drew
      go_wp2
      go_region_held3 (fun w' => w'.cell? ⟨w.heap.size + 1 + 1, j, none⟩ = some (.pointer q) ∧ w'.cell? ⟨w.heap.size, 1, none⟩ = some (.int .i64 b) ∧ w'.cell? ⟨w.heap.size, 2, none⟩ = some (.int .i64 c) ∧ w'.cell? ⟨w.heap.size, 3, none⟩ = some (.slice L n lc)) (exact ⟨nn_cell HCQ.out (by assumption), nn_cell HCN.out (by assumption), nn_cell HCK.out (by assumption), nn_cell HCL.out (by assumption)⟩)
        (first | (go_at_call 10; refine (nn_add (by assumption) _).mono ?_; rintro e w' ⟨rfl, hq⟩) | (go_at_call 18; refine (nn_remove (by assumption) _).mono ?_; rintro e w' ⟨rfl, hq⟩) | (go_at_call 15; refine (nn_others (by assumption) _ _).mono ?_; rintro e w' ⟨rfl, hq⟩) | (go_at_call 13; refine (nn_list (by assumption)).mono ?_; rintro e w' ⟨rfl, hq⟩) | (go_at_call 23; refine (nn_at (by assumption)).mono ?_; rintro e w' ⟨rfl, hq⟩) | (go_at_call 24; refine (nn_taken (by assumption)).mono ?_; rintro e w' ⟨rfl, hq⟩))
      have HR2 := Lib.hid hq.chg
      go_wp2
      exact ⟨⟨j + 1, by omega, by go_num, HR2⟩, by simp [intOf]; omega⟩
    · go_wp2_with fail
      refine (probe_works wr).mono ?_
      rintro e w9 ⟨rfl, hc9⟩
      go_wp2
      go_ret
      exact ⟨rfl, (HC.out.thenNew HR.out).thenNew hc9⟩
end Go.Proofs.Ytoiikjojknnobaa
