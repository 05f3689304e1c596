/- The law SealRounds: the walk. -/
import Derived.Test.YtpfibgfajobmaaaSealWorks
import Derived.Test.YtpfibgfajobmaaaSealEq
import Derived.Deep.RegionHeld3
import Derived.Deep.DrawnRows
namespace Go.Proofs.Ytpfibgfajobmaaa
open Go.RowKit
set_option linter.unusedVariables false
structure RowsSt (w0 : World) (n : Nat) (a b : V4) (w : World) : Prop where
  c : (w.cell? ⟨n, 0, none⟩ = some (.int .u64 a.1) ∧ w.cell? ⟨n, 1, none⟩ = some (.int .u64 a.2.1) ∧ w.cell? ⟨n, 2, none⟩ = some (.int .u64 a.2.2.1) ∧ w.cell? ⟨n, 3, none⟩ = some (.int .u64 a.2.2.2)) ∧
    (w.cell? ⟨n + 1, 0, none⟩ = some (.int .u64 b.1) ∧ w.cell? ⟨n + 1, 1, none⟩ = some (.int .u64 b.2.1) ∧ w.cell? ⟨n + 1, 2, none⟩ = some (.int .u64 b.2.2.1) ∧ w.cell? ⟨n + 1, 3, none⟩ = some (.int .u64 b.2.2.2))
  chg : Chg nob w0 w
theorem RowsSt.new {w0 w w' : World} {n : Nat} {a b : V4} (h : RowsSt w0 n a b w) (hc : Chg nob w w') : RowsSt w0 n a b w' := by
  obtain ⟨⟨⟨a0, a1, a2, a3⟩, b0, b1, b2, b3⟩, h2⟩ := h
  exact ⟨⟨⟨hc.cell a0 (not_nob _), hc.cell a1 (not_nob _), hc.cell a2 (not_nob _), hc.cell a3 (not_nob _)⟩, hc.cell b0 (not_nob _), hc.cell b1 (not_nob _), hc.cell b2 (not_nob _), hc.cell b3 (not_nob _)⟩, h2.thenNew hc⟩
theorem rows_round {w0 w : World} {n : Nat} {a b v r : V4} (h : RowsSt w0 n a b w) (hv : small v) (hr : Hid (roundV v = r)) :
    Calls Try.prog 6 #[.agg #[.int .u64 v.1, .int .u64 v.2.1, .int .u64 v.2.2.1, .int .u64 v.2.2.2]] w fun e w' => e = .returned (.agg #[.int .u64 r.1, .int .u64 r.2.1, .int .u64 r.2.2.1, .int .u64 r.2.2.2]) ∧ RowsSt w0 n a b w' :=
  (s_round hv).mono fun e w' ⟨he, hc⟩ => ⟨by rw [he, hr.out]; rfl, h.new hc⟩
theorem rows_rround {w0 w : World} {n : Nat} {a b v r : V4} (h : RowsSt w0 n a b w) (hv : small v) (hr : Hid (roundV v = r)) :
    Calls Try.prog 7 #[.agg #[.int .u64 v.1, .int .u64 v.2.1, .int .u64 v.2.2.1, .int .u64 v.2.2.2]] w fun e w' => e = .returned (.agg #[.int .u64 r.1, .int .u64 r.2.1, .int .u64 r.2.2.1, .int .u64 r.2.2.2]) ∧ RowsSt w0 n a b w' :=
  (r_round hv).mono fun e w' ⟨he, hc⟩ => ⟨by rw [he, hr.out]; rfl, h.new hc⟩
theorem rows_works {w0 w : World} {n : Nat} {a b : V4} (h : RowsSt w0 n a b w) : Calls Try.prog 8 #[] w fun e w' => e = .returned (.bool true) ∧ RowsSt w0 n a b w' :=
  (seal_works w).mono fun e w' ⟨he, hc⟩ => ⟨he, h.new hc⟩
set_option maxRecDepth 100000 in
set_option maxHeartbeats 2000000 in
theorem sealRounds_walk {w : World} {a b : V4} (ha : small a) (hb : small b) :
    Calls Try.prog 3 #[.agg (fourV a), .agg (fourV b)] w fun e w' => e = .returned (.bool true) ∧ Chg nob w w' := by
  unfold fourV
  have hst : RowsSt w w.heap.size a b ((w.alloc (.cells #[.int .u64 a.1, .int .u64 a.2.1, .int .u64 a.2.2.1, .int .u64 a.2.2.2] 23)).alloc (.cells #[.int .u64 b.1, .int .u64 b.2.1, .int .u64 b.2.2.1, .int .u64 b.2.2.2] 23)) := by
    have h5 := heap_alloc_new w (.cells #[.int .u64 a.1, .int .u64 a.2.1, .int .u64 a.2.2.1, .int .u64 a.2.2.2] 23)
    have h6 := ((Chg.refl nob (w.alloc (.cells #[.int .u64 a.1, .int .u64 a.2.1, .int .u64 a.2.2.1, .int .u64 a.2.2.2] 23))).alloc (.cells #[.int .u64 b.1, .int .u64 b.2.1, .int .u64 b.2.2.1, .int .u64 b.2.2.2] 23)).heap h5 (not_nob _)
    exact ⟨⟨(row4_cells h6).1, (row4_cells (alloc2_row0 w _ _)).1⟩, alloc2_chg0 w _ _⟩
  have hst' := hst.new ((Chg.refl _ _).drew)
  obtain ⟨ra, hra⟩ : ∃ r, roundV a = r := ⟨_, rfl⟩
  obtain ⟨rb, hrb⟩ : ∃ r, roundV b = r := ⟨_, rfl⟩
  obtain ⟨p1, k1, q1⟩ := eq4b ra ra
  obtain ⟨p2, k2, q2⟩ := eq4b ra rb
  obtain ⟨p3, k3, q3⟩ := eq4b a b
  have e1 : p1 = true := k1.2 rfl
  have e2 : p2 = p3 := by rw [Bool.eq_iff_iff, k2, k3, ← hra, ← hrb]; exact ⟨roundV_inj ha hb, fun h => by rw [h]⟩
  have HRA := Lib.hid hra
  have HRB := Lib.hid hrb
  subst e1 e2
  clear k1 k2 k3 hra hrb
  go_enter Try.func3, Try.ntmps3
  go_wp2
  go_region_held3 (fun w' => (w'.cell? ⟨w.heap.size, 0, none⟩ = some (.int .u64 a.1) ∧ w'.cell? ⟨w.heap.size, 1, none⟩ = some (.int .u64 a.2.1) ∧ w'.cell? ⟨w.heap.size, 2, none⟩ = some (.int .u64 a.2.2.1) ∧ w'.cell? ⟨w.heap.size, 3, none⟩ = some (.int .u64 a.2.2.2)) ∧
    (w'.cell? ⟨w.heap.size + 1, 0, none⟩ = some (.int .u64 b.1) ∧ w'.cell? ⟨w.heap.size + 1, 1, none⟩ = some (.int .u64 b.2.1) ∧ w'.cell? ⟨w.heap.size + 1, 2, none⟩ = some (.int .u64 b.2.2.1) ∧ w'.cell? ⟨w.heap.size + 1, 3, none⟩ = some (.int .u64 b.2.2.2))) (exact RowsSt.c (by assumption))
    (first | (go_at_call 6; (first | (with_reducible refine (rows_round (by assumption) ha HRA).mono ?_) | (with_reducible refine (rows_round (by assumption) hb HRB).mono ?_)); rintro e w' ⟨rfl, hq⟩) | (go_at_call 7; refine (rows_rround (by assumption) ha HRA).mono ?_; rintro e w' ⟨rfl, hq⟩) | (go_at_call 8; refine (rows_works (by assumption)).mono ?_; rintro e w' ⟨rfl, hq⟩))
  go_wp2
  all_goals
    go_ret
    exact ⟨rfl, hq.chg⟩
end Go.Proofs.Ytpfibgfajobmaaa
