import Derived.Test.YtcibdcahcpcmaaaFold04
import Derived.Deep.RegionHeld3
import Derived.Test.YtcibdcahcpcmaaaFold12
/- An answer that shares nothing: the program's 'copied'. -/
namespace Go.Proofs.Ytcibdcahcpcmaaa
open Go.RowKit
set_option linter.unusedVariables false
set_option linter.unusedSimpArgs false
theorem l_cloneC_info : (Try.prog.info? 120).map (fun i => (i.zero, i.size, i.bytes)) = some (some (.agg #[.int .i64 0, .string ByteArray.empty, .string ByteArray.empty, .string ByteArray.empty, .int .i64 0, .int .u64 0, .int .u64 0]), (chkK).sz, 80) := by kernel_rfl
theorem l_cloneC {w : World} {ok : Nat → Prop} {A : Option Addr} {n c : Nat} {l : List Chk} (h : (chkK).C w ok A l) (hn : l.length = n) (hl : n * 80 ≤ 140737488355328) :
    Calls Try.prog 66 #[.slice A n c] w (ClonedK chkK 120 ok w l) := by
  have hsm := h.small
  rw [hn] at hsm
  have HC := Lib.hid h
  have HN := Lib.hid hn
  have heq := fun (wx : World) => Lib.run_eql_slice_nil (P := Try.prog) wx 49 120 A n c 0 0 Try.underlying49
  go_enter Try.func66, Try.ntmps66
  cases A with
  | none =>
    obtain ⟨rfl, rfl⟩ := nil_nil h hn
    clear h hsm hn
    go_wp2
    go_ret
    exact cloned_nil _ _ _ _
  | some ad =>
    have HE := Lib.hid (empty_ownR w w.heap.size 120 chkK (Nat.le_refl _))
    have HC1 := Lib.hid (Kd.C_new (Kd.C_bound HC.out) ((Chg.refl nob w).alloc (.cells #[] 120)))
    clear h hsm hn
    go_wp2_with (at_builtin; refine wp_append (d := chkK) rfl _ _ 49 rfl 120 (.agg #[.int .i64 0, .string ByteArray.empty, .string ByteArray.empty, .string ByteArray.empty, .int .i64 0, .int .u64 0, .int .u64 0]) 80 Try.underlying49 l_cloneC_info rfl w.heap.size _ _ (.slice (some ⟨w.heap.size, 0, none⟩) 0 0) [] l (some ad) n c rfl rfl HN.out HE.out HC1.out ?_ ?_ ?_ (by simp) n ?_ ?_)
    · rintro k hk e
      cases e
      exact absurd hk.2 (Nat.lt_irrefl _)
    · have := HC.out.small; simpa [maxLen] using this
    · simpa [HN.out] using hl
    · simp
    intro A1 c1 w1 hR hC _
    have HCL := Lib.hid (cloned_end HN.out hR hC)
    clear hR hC HE
    go_wp2
    go_ret
    exact HCL.out
theorem l_cloneN_info : (Try.prog.info? 123).map (fun i => (i.zero, i.size, i.bytes)) = some (some (.agg #[.int .i64 0, .string ByteArray.empty, .int .u64 0, .int .u64 0]), (nodK).sz, 40) := by kernel_rfl
theorem l_cloneN {w : World} {ok : Nat → Prop} {A : Option Addr} {n c : Nat} {l : List Nod} (h : (nodK).C w ok A l) (hn : l.length = n) (hl : n * 40 ≤ 140737488355328) :
    Calls Try.prog 67 #[.slice A n c] w (ClonedK nodK 123 ok w l) := by
  have hsm := h.small
  rw [hn] at hsm
  have HC := Lib.hid h
  have HN := Lib.hid hn
  have heq := fun (wx : World) => Lib.run_eql_slice_nil (P := Try.prog) wx 52 123 A n c 0 0 Try.underlying52
  go_enter Try.func67, Try.ntmps67
  cases A with
  | none =>
    obtain ⟨rfl, rfl⟩ := nil_nil h hn
    clear h hsm hn
    go_wp2
    go_ret
    exact cloned_nil _ _ _ _
  | some ad =>
    have HE := Lib.hid (empty_ownR w w.heap.size 123 nodK (Nat.le_refl _))
    have HC1 := Lib.hid (Kd.C_new (Kd.C_bound HC.out) ((Chg.refl nob w).alloc (.cells #[] 123)))
    clear h hsm hn
    go_wp2_with (at_builtin; refine wp_append (d := nodK) rfl _ _ 52 rfl 123 (.agg #[.int .i64 0, .string ByteArray.empty, .int .u64 0, .int .u64 0]) 40 Try.underlying52 l_cloneN_info rfl w.heap.size _ _ (.slice (some ⟨w.heap.size, 0, none⟩) 0 0) [] l (some ad) n c rfl rfl HN.out HE.out HC1.out ?_ ?_ ?_ (by simp) n ?_ ?_)
    · rintro k hk e
      cases e
      exact absurd hk.2 (Nat.lt_irrefl _)
    · have := HC.out.small; simpa [maxLen] using this
    · simpa [HN.out] using hl
    · simp
    intro A1 c1 w1 hR hC _
    have HCL := Lib.hid (cloned_end HN.out hR hC)
    clear hR hC HE
    go_wp2
    go_ret
    exact HCL.out
theorem l_cloneI_info : (Try.prog.info? 128).map (fun i => (i.zero, i.size, i.bytes)) = some (some (.agg #[.int .i64 0, .string ByteArray.empty, .string ByteArray.empty, .slice none 0 0, .int .i64 0, .int .u64 0, .int .u64 0, .int .i64 0]), (instK).sz, 96) := by kernel_rfl
theorem l_cloneI {w : World} {ok : Nat → Prop} {A : Option Addr} {n c : Nat} {l : List Inst} (h : (instK).C w ok A l) (hn : l.length = n) (hl : n * 96 ≤ 140737488355328) :
    Calls Try.prog 68 #[.slice A n c] w (ClonedK instK 128 ok w l) := by
  have hsm := h.small
  rw [hn] at hsm
  have HC := Lib.hid h
  have HN := Lib.hid hn
  have heq := fun (wx : World) => Lib.run_eql_slice_nil (P := Try.prog) wx 53 128 A n c 0 0 Try.underlying53
  go_enter Try.func68, Try.ntmps68
  cases A with
  | none =>
    obtain ⟨rfl, rfl⟩ := nil_nil h hn
    clear h hsm hn
    go_wp2
    go_ret
    exact cloned_nil _ _ _ _
  | some ad =>
    have HE := Lib.hid (empty_ownR w w.heap.size 128 instK (Nat.le_refl _))
    have HC1 := Lib.hid (Kd.C_new (Kd.C_bound HC.out) ((Chg.refl nob w).alloc (.cells #[] 128)))
    clear h hsm hn
    go_wp2_with (at_builtin; refine wp_append (d := instK) rfl _ _ 53 rfl 128 (.agg #[.int .i64 0, .string ByteArray.empty, .string ByteArray.empty, .slice none 0 0, .int .i64 0, .int .u64 0, .int .u64 0, .int .i64 0]) 96 Try.underlying53 l_cloneI_info rfl w.heap.size _ _ (.slice (some ⟨w.heap.size, 0, none⟩) 0 0) [] l (some ad) n c rfl rfl HN.out HE.out HC1.out ?_ ?_ ?_ (by simp) n ?_ ?_)
    · rintro k hk e
      cases e
      exact absurd hk.2 (Nat.lt_irrefl _)
    · have := HC.out.small; simpa [maxLen] using this
    · simpa [HN.out] using hl
    · simp
    intro A1 c1 w1 hR hC _
    have HCL := Lib.hid (cloned_end HN.out hR hC)
    clear hR hC HE
    go_wp2
    go_ret
    exact HCL.out
theorem l_cloneE_info : (Try.prog.info? 132).map (fun i => (i.zero, i.size, i.bytes)) = some (some (.agg #[.string ByteArray.empty, .string ByteArray.empty, .int .u64 0, .int .u64 0, .int .u64 0, .int .u64 0]), (entK).sz, 64) := by kernel_rfl
theorem l_cloneE {w : World} {ok : Nat → Prop} {A : Option Addr} {n c : Nat} {l : List Ent} (h : (entK).C w ok A l) (hn : l.length = n) (hl : n * 64 ≤ 140737488355328) :
    Calls Try.prog 70 #[.slice A n c] w (ClonedK entK 132 ok w l) := by
  have hsm := h.small
  rw [hn] at hsm
  have HC := Lib.hid h
  have HN := Lib.hid hn
  have heq := fun (wx : World) => Lib.run_eql_slice_nil (P := Try.prog) wx 54 132 A n c 0 0 Try.underlying54
  go_enter Try.func70, Try.ntmps70
  cases A with
  | none =>
    obtain ⟨rfl, rfl⟩ := nil_nil h hn
    clear h hsm hn
    go_wp2
    go_ret
    exact cloned_nil _ _ _ _
  | some ad =>
    have HE := Lib.hid (empty_ownR w w.heap.size 132 entK (Nat.le_refl _))
    have HC1 := Lib.hid (Kd.C_new (Kd.C_bound HC.out) ((Chg.refl nob w).alloc (.cells #[] 132)))
    clear h hsm hn
    go_wp2_with (at_builtin; refine wp_append (d := entK) rfl _ _ 54 rfl 132 (.agg #[.string ByteArray.empty, .string ByteArray.empty, .int .u64 0, .int .u64 0, .int .u64 0, .int .u64 0]) 64 Try.underlying54 l_cloneE_info rfl w.heap.size _ _ (.slice (some ⟨w.heap.size, 0, none⟩) 0 0) [] l (some ad) n c rfl rfl HN.out HE.out HC1.out ?_ ?_ ?_ (by simp) n ?_ ?_)
    · rintro k hk e
      cases e
      exact absurd hk.2 (Nat.lt_irrefl _)
    · have := HC.out.small; simpa [maxLen] using this
    · simpa [HN.out] using hl
    · simp
    intro A1 c1 w1 hR hC _
    have HCL := Lib.hid (cloned_end HN.out hR hC)
    clear hR hC HE
    go_wp2
    go_ret
    exact HCL.out
theorem l_cloneT_info : (Try.prog.info? 77).map (fun i => (i.zero, i.size, i.bytes)) = some (some (.agg #[.string ByteArray.empty, .string ByteArray.empty, .bool false, .int .u64 0, .int .u64 0]), (itnK).sz, 56) := by kernel_rfl
theorem l_cloneT {w : World} {ok : Nat → Prop} {A : Option Addr} {n c : Nat} {l : List Itn} (h : (itnK).C w ok A l) (hn : l.length = n) (hl : n * 56 ≤ 140737488355328) :
    Calls Try.prog 71 #[.slice A n c] w (ClonedK itnK 77 ok w l) := by
  have hsm := h.small
  rw [hn] at hsm
  have HC := Lib.hid h
  have HN := Lib.hid hn
  have heq := fun (wx : World) => Lib.run_eql_slice_nil (P := Try.prog) wx 55 77 A n c 0 0 Try.underlying55
  go_enter Try.func71, Try.ntmps71
  cases A with
  | none =>
    obtain ⟨rfl, rfl⟩ := nil_nil h hn
    clear h hsm hn
    go_wp2
    go_ret
    exact cloned_nil _ _ _ _
  | some ad =>
    have HE := Lib.hid (empty_ownR w w.heap.size 77 itnK (Nat.le_refl _))
    have HC1 := Lib.hid (Kd.C_new (Kd.C_bound HC.out) ((Chg.refl nob w).alloc (.cells #[] 77)))
    clear h hsm hn
    go_wp2_with (at_builtin; refine wp_append (d := itnK) rfl _ _ 55 rfl 77 (.agg #[.string ByteArray.empty, .string ByteArray.empty, .bool false, .int .u64 0, .int .u64 0]) 56 Try.underlying55 l_cloneT_info rfl w.heap.size _ _ (.slice (some ⟨w.heap.size, 0, none⟩) 0 0) [] l (some ad) n c rfl rfl HN.out HE.out HC1.out ?_ ?_ ?_ (by simp) n ?_ ?_)
    · rintro k hk e
      cases e
      exact absurd hk.2 (Nat.lt_irrefl _)
    · have := HC.out.small; simpa [maxLen] using this
    · simpa [HN.out] using hl
    · simp
    intro A1 c1 w1 hR hC _
    have HCL := Lib.hid (cloned_end HN.out hR hC)
    clear hR hC HE
    go_wp2
    go_ret
    exact HCL.out
/-- Cells that may be written. -/
def Wr (w : World) (base : Nat) (A : Option Addr) (m : Nat) : Prop := 0 < m → ∃ g, A = some ⟨g, 0, none⟩ ∧ base ≤ g ∧ ∀ j, j < m → (∃ v, w.cell? ⟨g, j, none⟩ = some v) ∧ w.frozen? ⟨g, j, none⟩ = false
theorem Wr.of_R {α : Type} {d : Kd α} {e base n c : Nat} {w : World} {ok : Nat → Prop} {A : Option Addr} {l : List α} (h : d.R e w base ok (.slice A n c) l) : Wr w base A (n * d.sz) := by
  intro hm
  have hn : 0 < n := Nat.pos_of_mul_pos_right hm
  obtain ⟨hC, hl, _⟩ := Kd.R_read h
  obtain ⟨g, rfl, hg, hf⟩ := R_form h (by rw [hl]; exact hn)
  obtain ⟨_, inner, hr, hc⟩ := hC
  obtain ⟨ad, e1, _, hx⟩ := hc (by rw [hl]; exact hn)
  cases e1
  refine ⟨g, rfl, hg, fun j hj => ⟨?_, hf j⟩⟩
  have hlen := hr.1
  rw [hl] at hlen
  refine ⟨inner[j]'(by rw [hlen]; exact hj), ?_⟩
  have := hx j _ (List.getElem?_eq_getElem (by rw [hlen]; exact hj))
  rwa [add_at, Nat.zero_add] at this
theorem blk_set {w : World} {g t : Nat} {cs : Array Value} {fr : Nat × Nat} (h : w.heap[g]? = some (.cells cs t fr)) (j : Nat) (u : Value) : (w.setCell ⟨g, j, none⟩ u).heap[g]? = some (.cells (cs.setIfInBounds j u) t fr) := by
  simp [World.setCell, Array.getElem?_modify, h]
theorem row11c {w : World} {g t : Nat} {a0 a1 a2 a3 a4 a5 a6 a7 a8 a9 a10 : Value} (h : w.heap[g]? = some (.cells #[a0, a1, a2, a3, a4, a5, a6, a7, a8, a9, a10] t (0, 0))) :
    (w.cell? ⟨g, 0, none⟩ = some a0 ∧ w.cell? ⟨g, 1, none⟩ = some a1 ∧ w.cell? ⟨g, 2, none⟩ = some a2 ∧ w.cell? ⟨g, 3, none⟩ = some a3 ∧ w.cell? ⟨g, 4, none⟩ = some a4 ∧ w.cell? ⟨g, 5, none⟩ = some a5 ∧ w.cell? ⟨g, 6, none⟩ = some a6 ∧ w.cell? ⟨g, 7, none⟩ = some a7 ∧ w.cell? ⟨g, 8, none⟩ = some a8 ∧ w.cell? ⟨g, 9, none⟩ = some a9 ∧ w.cell? ⟨g, 10, none⟩ = some a10) ∧ ∀ j, w.frozen? ⟨g, j, none⟩ = false :=
  ⟨⟨by rw [cell_of_row w g 0 _ _ _ h]; rfl, by rw [cell_of_row w g 1 _ _ _ h]; rfl, by rw [cell_of_row w g 2 _ _ _ h]; rfl, by rw [cell_of_row w g 3 _ _ _ h]; rfl, by rw [cell_of_row w g 4 _ _ _ h]; rfl, by rw [cell_of_row w g 5 _ _ _ h]; rfl, by rw [cell_of_row w g 6 _ _ _ h]; rfl, by rw [cell_of_row w g 7 _ _ _ h]; rfl, by rw [cell_of_row w g 8 _ _ _ h]; rfl, by rw [cell_of_row w g 9 _ _ _ h]; rfl, by rw [cell_of_row w g 10 _ _ _ h]; rfl⟩, fun j => by simp [World.frozen?, h]⟩
theorem set11 {w : World} {g t : Nat} {z0 z1 z2 z3 z4 z5 z6 z7 z8 z9 z10 : Value} (h : w.heap[g]? = some (.cells #[z0, z1, z2, z3, z4, z5, z6, z7, z8, z9, z10] t (0, 0))) (v0 v1 v2 v3 v4 v5 v6 v7 v8 v9 v10 : Value) :
    (((((((((((w.setCell ⟨g, 0, none⟩ v0).setCell ⟨g, 1, none⟩ v1).setCell ⟨g, 2, none⟩ v2).setCell ⟨g, 3, none⟩ v3).setCell ⟨g, 4, none⟩ v4).setCell ⟨g, 5, none⟩ v5).setCell ⟨g, 6, none⟩ v6).setCell ⟨g, 7, none⟩ v7).setCell ⟨g, 8, none⟩ v8).setCell ⟨g, 9, none⟩ v9).setCell ⟨g, 10, none⟩ v10).heap[g]? = some (.cells #[v0, v1, v2, v3, v4, v5, v6, v7, v8, v9, v10] t (0, 0)) ∧ Chg (fun b => b = g) w (((((((((((w.setCell ⟨g, 0, none⟩ v0).setCell ⟨g, 1, none⟩ v1).setCell ⟨g, 2, none⟩ v2).setCell ⟨g, 3, none⟩ v3).setCell ⟨g, 4, none⟩ v4).setCell ⟨g, 5, none⟩ v5).setCell ⟨g, 6, none⟩ v6).setCell ⟨g, 7, none⟩ v7).setCell ⟨g, 8, none⟩ v8).setCell ⟨g, 9, none⟩ v9).setCell ⟨g, 10, none⟩ v10) := by
  have h0 : (w.setCell ⟨g, 0, none⟩ v0).heap[g]? = some (.cells #[v0, z1, z2, z3, z4, z5, z6, z7, z8, z9, z10] t (0, 0)) := by
    have := blk_set h 0 v0
    simpa using this
  have h1 : ((w.setCell ⟨g, 0, none⟩ v0).setCell ⟨g, 1, none⟩ v1).heap[g]? = some (.cells #[v0, v1, z2, z3, z4, z5, z6, z7, z8, z9, z10] t (0, 0)) := by
    have := blk_set h0 1 v1
    simpa using this
  have h2 : (((w.setCell ⟨g, 0, none⟩ v0).setCell ⟨g, 1, none⟩ v1).setCell ⟨g, 2, none⟩ v2).heap[g]? = some (.cells #[v0, v1, v2, z3, z4, z5, z6, z7, z8, z9, z10] t (0, 0)) := by
    have := blk_set h1 2 v2
    simpa using this
  have h3 : ((((w.setCell ⟨g, 0, none⟩ v0).setCell ⟨g, 1, none⟩ v1).setCell ⟨g, 2, none⟩ v2).setCell ⟨g, 3, none⟩ v3).heap[g]? = some (.cells #[v0, v1, v2, v3, z4, z5, z6, z7, z8, z9, z10] t (0, 0)) := by
    have := blk_set h2 3 v3
    simpa using this
  have h4 : (((((w.setCell ⟨g, 0, none⟩ v0).setCell ⟨g, 1, none⟩ v1).setCell ⟨g, 2, none⟩ v2).setCell ⟨g, 3, none⟩ v3).setCell ⟨g, 4, none⟩ v4).heap[g]? = some (.cells #[v0, v1, v2, v3, v4, z5, z6, z7, z8, z9, z10] t (0, 0)) := by
    have := blk_set h3 4 v4
    simpa using this
  have h5 : ((((((w.setCell ⟨g, 0, none⟩ v0).setCell ⟨g, 1, none⟩ v1).setCell ⟨g, 2, none⟩ v2).setCell ⟨g, 3, none⟩ v3).setCell ⟨g, 4, none⟩ v4).setCell ⟨g, 5, none⟩ v5).heap[g]? = some (.cells #[v0, v1, v2, v3, v4, v5, z6, z7, z8, z9, z10] t (0, 0)) := by
    have := blk_set h4 5 v5
    simpa using this
  have h6 : (((((((w.setCell ⟨g, 0, none⟩ v0).setCell ⟨g, 1, none⟩ v1).setCell ⟨g, 2, none⟩ v2).setCell ⟨g, 3, none⟩ v3).setCell ⟨g, 4, none⟩ v4).setCell ⟨g, 5, none⟩ v5).setCell ⟨g, 6, none⟩ v6).heap[g]? = some (.cells #[v0, v1, v2, v3, v4, v5, v6, z7, z8, z9, z10] t (0, 0)) := by
    have := blk_set h5 6 v6
    simpa using this
  have h7 : ((((((((w.setCell ⟨g, 0, none⟩ v0).setCell ⟨g, 1, none⟩ v1).setCell ⟨g, 2, none⟩ v2).setCell ⟨g, 3, none⟩ v3).setCell ⟨g, 4, none⟩ v4).setCell ⟨g, 5, none⟩ v5).setCell ⟨g, 6, none⟩ v6).setCell ⟨g, 7, none⟩ v7).heap[g]? = some (.cells #[v0, v1, v2, v3, v4, v5, v6, v7, z8, z9, z10] t (0, 0)) := by
    have := blk_set h6 7 v7
    simpa using this
  have h8 : (((((((((w.setCell ⟨g, 0, none⟩ v0).setCell ⟨g, 1, none⟩ v1).setCell ⟨g, 2, none⟩ v2).setCell ⟨g, 3, none⟩ v3).setCell ⟨g, 4, none⟩ v4).setCell ⟨g, 5, none⟩ v5).setCell ⟨g, 6, none⟩ v6).setCell ⟨g, 7, none⟩ v7).setCell ⟨g, 8, none⟩ v8).heap[g]? = some (.cells #[v0, v1, v2, v3, v4, v5, v6, v7, v8, z9, z10] t (0, 0)) := by
    have := blk_set h7 8 v8
    simpa using this
  have h9 : ((((((((((w.setCell ⟨g, 0, none⟩ v0).setCell ⟨g, 1, none⟩ v1).setCell ⟨g, 2, none⟩ v2).setCell ⟨g, 3, none⟩ v3).setCell ⟨g, 4, none⟩ v4).setCell ⟨g, 5, none⟩ v5).setCell ⟨g, 6, none⟩ v6).setCell ⟨g, 7, none⟩ v7).setCell ⟨g, 8, none⟩ v8).setCell ⟨g, 9, none⟩ v9).heap[g]? = some (.cells #[v0, v1, v2, v3, v4, v5, v6, v7, v8, v9, z10] t (0, 0)) := by
    have := blk_set h8 9 v9
    simpa using this
  have h10 : (((((((((((w.setCell ⟨g, 0, none⟩ v0).setCell ⟨g, 1, none⟩ v1).setCell ⟨g, 2, none⟩ v2).setCell ⟨g, 3, none⟩ v3).setCell ⟨g, 4, none⟩ v4).setCell ⟨g, 5, none⟩ v5).setCell ⟨g, 6, none⟩ v6).setCell ⟨g, 7, none⟩ v7).setCell ⟨g, 8, none⟩ v8).setCell ⟨g, 9, none⟩ v9).setCell ⟨g, 10, none⟩ v10).heap[g]? = some (.cells #[v0, v1, v2, v3, v4, v5, v6, v7, v8, v9, v10] t (0, 0)) := by
    have := blk_set h9 10 v10
    simpa using this
  exact ⟨h10, (((((((((((Chg.refl (fun b => b = g) w).set1 0 _).set1 1 _).set1 2 _).set1 3 _).set1 4 _).set1 5 _).set1 6 _).set1 7 _).set1 8 _).set1 9 _).set1 10 _⟩
/-- The cells that a copy tells. -/
structure CopiedAs (w w' : World) (ok : Nat → Prop) (x : Ans) (cs : Array Value) : Prop where
  K : ansK.K w' (fun b => (ok b ∧ b < w.heap.size) ∨ w.heap.size ≤ b) x cs.toList
  wr : ∃ S sd K kd N nd I id E ed T td, cs = #[.int .i64 x.1, .int .u64 x.2.1, .bool x.2.2.1.1, .int .i64 x.2.2.1.2.1, .string x.2.2.1.2.2.1, .slice S x.2.2.1.2.2.2.1.length sd, .slice K x.2.2.1.2.2.2.2.length kd, .slice N x.2.2.2.1.length nd, .slice I x.2.2.2.2.1.length id, .slice E x.2.2.2.2.2.1.length ed, .slice T x.2.2.2.2.2.2.length td] ∧
    Wr w' w.heap.size N (x.2.2.2.1.length * 4) ∧ Wr w' w.heap.size I (x.2.2.2.2.1.length * 8) ∧ Wr w' w.heap.size E (x.2.2.2.2.2.1.length * 6)
theorem keepI {wr w' : World} {g b k : Nat} {u v : Value} (h8 : wr.cell? ⟨g, 8, none⟩ = some u) (h3 : wr.cell? ⟨b, k, none⟩ = some v) (hf : wr.frozen? ⟨b, k, none⟩ = false) (hb : b < wr.heap.size) (hc : Chg nob wr w') : w'.cell? ⟨g, 8, none⟩ = some u ∧ w'.cell? ⟨b, k, none⟩ = some v ∧ w'.frozen? ⟨b, k, none⟩ = false := by
  refine ⟨hc.cell h8 (not_nob _), hc.cell h3 (not_nob _), ?_⟩
  have := hc.block b hb (not_nob _)
  unfold World.frozen? at hf ⊢
  dsimp only at hf ⊢
  rw [this]
  exact hf
/-- A row stays, where the block of the answer alone, or such as are new, turn. -/
theorem adv {α : Type} {d : Kd α} {e base : Nat} {w w' : World} {ok S : Nat → Prop} {v : Value} {l : List α} (h : d.R e w base ok v l) (hc : Chg S w w') (hs : ∀ b, ok b → b < w.heap.size → ¬ S b) : d.R e w' base ok v l :=
  Kd.R_step h (fun k ho hk => hc.block k hk (hs k ho hk))
set_option maxHeartbeats 4000000 in
theorem c_copied {w : World} {ok : Nat → Prop} {x : Ans} {cs : Array Value} (h : ansK.K w ok x cs.toList) :
    Calls Try.prog 33 #[.agg cs] w fun e w' => ∃ cs', e = .returned (.agg cs') ∧ CopiedAs w w' ok x cs' ∧ Chg nob w w' := by
  obtain ⟨S0, sd0, K0, kd0, N0, nd0, I0, id0, E0, ed0, T0, td0, hcs, hS, hK, hN, hI, hE, hT⟩ := (ans_cells h).ex
  have hcs' : cs = #[.int .i64 x.1, .int .u64 x.2.1, .bool x.2.2.1.1, .int .i64 x.2.2.1.2.1, .string x.2.2.1.2.2.1, .slice S0 x.2.2.1.2.2.2.1.length sd0, .slice K0 x.2.2.1.2.2.2.2.length kd0, .slice N0 x.2.2.2.1.length nd0, .slice I0 x.2.2.2.2.1.length id0, .slice E0 x.2.2.2.2.2.1.length ed0, .slice T0 x.2.2.2.2.2.2.length td0] := by
    apply Array.toList_inj.1
    rw [hcs]
  subst hcs'
  clear hcs h
  obtain ⟨nS, hnS⟩ : ∃ n, x.2.2.1.2.2.2.1.length = n := ⟨_, rfl⟩
  have HNS := Lib.hid hnS
  rw [hnS] at hS
  have HCS := Lib.hid hS.1
  have HBS := Lib.hid hS.2.2
  rw [hnS]
  clear hS hnS
  obtain ⟨nK, hnK⟩ : ∃ n, x.2.2.1.2.2.2.2.length = n := ⟨_, rfl⟩
  have HNK := Lib.hid hnK
  rw [hnK] at hK
  have HCK := Lib.hid hK.1
  have HBK := Lib.hid hK.2.2
  rw [hnK]
  clear hK hnK
  obtain ⟨nN, hnN⟩ : ∃ n, x.2.2.2.1.length = n := ⟨_, rfl⟩
  have HNN := Lib.hid hnN
  rw [hnN] at hN
  have HCN := Lib.hid hN.1
  have HBN := Lib.hid hN.2.2
  rw [hnN]
  clear hN hnN
  obtain ⟨nI, hnI⟩ : ∃ n, x.2.2.2.2.1.length = n := ⟨_, rfl⟩
  have HNI := Lib.hid hnI
  rw [hnI] at hI
  have HCI := Lib.hid hI.1
  have HBI := Lib.hid hI.2.2
  rw [hnI]
  clear hI hnI
  obtain ⟨nE, hnE⟩ : ∃ n, x.2.2.2.2.2.1.length = n := ⟨_, rfl⟩
  have HNE := Lib.hid hnE
  rw [hnE] at hE
  have HCE := Lib.hid hE.1
  have HBE := Lib.hid hE.2.2
  rw [hnE]
  clear hE hnE
  obtain ⟨nT, hnT⟩ : ∃ n, x.2.2.2.2.2.2.length = n := ⟨_, rfl⟩
  have HNT := Lib.hid hnT
  rw [hnT] at hT
  have HCT := Lib.hid hT.1
  have HBT := Lib.hid hT.2.2
  rw [hnT]
  clear hT hnT
  go_enter Try.func33, Try.ntmps33
  obtain ⟨u0, hu0⟩ : ∃ u : World, (w.alloc (.cells #[.int .i64 x.1, .int .u64 x.2.1, .bool x.2.2.1.1, .int .i64 x.2.2.1.2.1, .string x.2.2.1.2.2.1, .slice S0 nS sd0, .slice K0 nK kd0, .slice N0 nN nd0, .slice I0 nI id0, .slice E0 nE ed0, .slice T0 nT td0] 57)).alloc (.cells #[.int .i64 0, .int .u64 0, .bool false, .int .i64 0, .string ⟨#[]⟩, .slice none 0 0, .slice none 0 0, .slice none 0 0, .slice none 0 0, .slice none 0 0, .slice none 0 0] 57) = u := ⟨_, rfl⟩
  obtain ⟨g, hg⟩ : ∃ g, w.heap.size = g := ⟨_, rfl⟩
  have HG := Lib.hid hg
  have hb0 : u0.heap[g]? = some (.cells #[.int .i64 x.1, .int .u64 x.2.1, .bool x.2.2.1.1, .int .i64 x.2.2.1.2.1, .string x.2.2.1.2.2.1, .slice S0 nS sd0, .slice K0 nK kd0, .slice N0 nN nd0, .slice I0 nI id0, .slice E0 nE ed0, .slice T0 nT td0] 57 (0, 0)) := by
    rw [← hu0, ← hg, Below.heap_alloc _ _ _ (by simp)]
    exact heap_alloc_new w _
  have hz0 : u0.heap[g + 1]? = some (.cells #[.int .i64 0, .int .u64 0, .bool false, .int .i64 0, .string ⟨#[]⟩, .slice none 0 0, .slice none 0 0, .slice none 0 0, .slice none 0 0, .slice none 0 0, .slice none 0 0] 57 (0, 0)) := by
    have := heap_alloc_new (w.alloc (.cells #[.int .i64 x.1, .int .u64 x.2.1, .bool x.2.2.1.1, .int .i64 x.2.2.1.2.1, .string x.2.2.1.2.2.1, .slice S0 nS sd0, .slice K0 nK kd0, .slice N0 nN nd0, .slice I0 nI id0, .slice E0 nE ed0, .slice T0 nT td0] 57)) (.cells #[.int .i64 0, .int .u64 0, .bool false, .int .i64 0, .string ⟨#[]⟩, .slice none 0 0, .slice none 0 0, .slice none 0 0, .slice none 0 0, .slice none 0 0, .slice none 0 0] 57)
    rw [World.size_alloc, hg, hu0] at this
    exact this
  have HCH0 : Hid (Chg nob w u0) := by
    rw [← hu0]
    exact ((Chg.refl nob w).alloc _).alloc _
  have HB0 := Lib.hid hb0
  have HZ0 := Lib.hid hz0
  have hsz0 : u0.heap.size = g + 2 := by rw [← hu0, ← hg]; simp
  have HSZ0 : Hid (g + 2 ≤ u0.heap.size) := Nat.le_of_eq hsz0.symm
  obtain ⟨⟨q0, q1, q2, q3, q4, q5, q6, q7, q8, q9, q10⟩, fz⟩ := row11c hb0
  clear hb0 hz0 hsz0 q0 q1 q2 q3 q4 q6 q7 q8 q9 q10 fz
  have HCH : Hid (Chg nob w u0) := HCH0
  have HCS := Lib.hid (Kd.C_bound HCS.out)
  have HCK := Lib.hid (Kd.C_bound HCK.out)
  have HCN := Lib.hid (Kd.C_bound HCN.out)
  have HCI := Lib.hid (Kd.C_bound HCI.out)
  have HCE := Lib.hid (Kd.C_bound HCE.out)
  have HCT := Lib.hid (Kd.C_bound HCT.out)
  go_wp2_with fail
  first | rw [hu0] | skip
  refine (c_services (ok := fun b => ok b ∧ b < w.heap.size) (Kd.C_new HCS.out HCH.out) HNS.out (by have := HBS.out; omega)).mono ?_
  rintro e v1 ⟨S1, sd1, rfl, hleS, hR, hC⟩
  rw [HNS.out] at hR hleS ⊢
  have hb := hC.heap HB0.out (not_nob _)
  have hz := hC.heap HZ0.out (not_nob _)
  have hsz : g + 2 ≤ u0.heap.size := HSZ0.out
  have hgl : g + 2 ≤ v1.heap.size := Nat.le_trans hsz (hC.size)
  have hch : Chg nob w v1 := HCH.out.thenNew hC
  obtain ⟨u1, hu1⟩ : ∃ u, v1.setCell ⟨g, 5, none⟩ (.slice S1 nS sd1) = u := ⟨_, rfl⟩
  have hst : Chg (fun b => b = g) v1 u1 := by rw [← hu1]; exact (Chg.refl (fun b => b = g) v1).set1 5 _
  have hb2 : u1.heap[g]? = some (.cells #[.int .i64 x.1, .int .u64 x.2.1, .bool x.2.2.1.1, .int .i64 x.2.2.1.2.1, .string x.2.2.1.2.2.1, .slice S1 nS sd1, .slice K0 nK kd0, .slice N0 nN nd0, .slice I0 nI id0, .slice E0 nE ed0, .slice T0 nT td0] 57 (0, 0)) := by rw [← hu1]; exact blk_set hb 5 _
  have hz2 : u1.heap[g + 1]? = some (.cells #[.int .i64 0, .int .u64 0, .bool false, .int .i64 0, .string ⟨#[]⟩, .slice none 0 0, .slice none 0 0, .slice none 0 0, .slice none 0 0, .slice none 0 0, .slice none 0 0] 57 (0, 0)) := hst.heap hz (by omega)
  have hch2 : Chg nob w u1 := by rw [← hu1]; exact hch.setCell (p := ⟨g, 5, none⟩) (.inr (by have := HG.out; show w.heap.size ≤ g; omega)) _
  have ha : Chg (fun b => b = g) u0 u1 := hC.ofNew.trans hst (fun b hb => .inl hb)
  have hlt : w.heap.size = g := HG.out
  have hR2 := adv (Kd.R_mono (ok' := (fun b => (ok b ∧ b < w.heap.size) ∨ g + 2 ≤ b)) (Kd.R_lower hR hsz) (fun b hb => hb.imp (fun h => h) (fun h => Nat.le_trans hsz h))) hst (fun b hb _ => by have := HG.out; omega)
  have HRS := Lib.hid hR2
  have HB := Lib.hid hb2
  have HZ := Lib.hid hz2
  have HSZ : Hid (g + 2 ≤ u1.heap.size) := Nat.le_trans hgl hst.size
  have HCH := Lib.hid hch2
  obtain ⟨⟨_, _, _, _, _, p5, p6, p7, p8, p9, p10⟩, pf⟩ := row11c hb
  have pf := pf 5
  clear p7
  clear p8
  clear p9
  clear p10
  have r := (row11c hb2).1.2.2.2.2.2.2.1
  clear hb hz hsz hgl hch hst hb2 hz2 hch2 ha hlt hR2 hR hC
  go_wp2_with fail
  first | rw [hu1] | skip
  refine (l_cloneC (ok := fun b => ok b ∧ b < w.heap.size) (Kd.C_new HCK.out HCH.out) HNK.out (by have := HBK.out; omega)).mono ?_
  rintro e v2 ⟨K1, kd1, rfl, hleK, hR, hC⟩
  rw [HNK.out] at hR hleK ⊢
  have hb := hC.heap HB.out (not_nob _)
  have hz := hC.heap HZ.out (not_nob _)
  have hsz : g + 2 ≤ u1.heap.size := HSZ.out
  have hgl : g + 2 ≤ v2.heap.size := Nat.le_trans hsz (hC.size)
  have hch : Chg nob w v2 := HCH.out.thenNew hC
  obtain ⟨u2, hu2⟩ : ∃ u, v2.setCell ⟨g, 6, none⟩ (.slice K1 nK kd1) = u := ⟨_, rfl⟩
  have hst : Chg (fun b => b = g) v2 u2 := by rw [← hu2]; exact (Chg.refl (fun b => b = g) v2).set1 6 _
  have hb2 : u2.heap[g]? = some (.cells #[.int .i64 x.1, .int .u64 x.2.1, .bool x.2.2.1.1, .int .i64 x.2.2.1.2.1, .string x.2.2.1.2.2.1, .slice S1 nS sd1, .slice K1 nK kd1, .slice N0 nN nd0, .slice I0 nI id0, .slice E0 nE ed0, .slice T0 nT td0] 57 (0, 0)) := by rw [← hu2]; exact blk_set hb 6 _
  have hz2 : u2.heap[g + 1]? = some (.cells #[.int .i64 0, .int .u64 0, .bool false, .int .i64 0, .string ⟨#[]⟩, .slice none 0 0, .slice none 0 0, .slice none 0 0, .slice none 0 0, .slice none 0 0, .slice none 0 0] 57 (0, 0)) := hst.heap hz (by omega)
  have hch2 : Chg nob w u2 := by rw [← hu2]; exact hch.setCell (p := ⟨g, 6, none⟩) (.inr (by have := HG.out; show w.heap.size ≤ g; omega)) _
  have ha : Chg (fun b => b = g) u1 u2 := hC.ofNew.trans hst (fun b hb => .inl hb)
  have hlt : w.heap.size = g := HG.out
  have hR2 := adv (Kd.R_mono (ok' := (fun b => (ok b ∧ b < w.heap.size) ∨ g + 2 ≤ b)) (Kd.R_lower hR hsz) (fun b hb => hb.imp (fun h => h) (fun h => Nat.le_trans hsz h))) hst (fun b hb _ => by have := HG.out; omega)
  have HRS := Lib.hid (adv HRS.out ha (fun b hb _ => by have := HG.out; omega))
  have HRK := Lib.hid hR2
  have HB := Lib.hid hb2
  have HZ := Lib.hid hz2
  have HSZ : Hid (g + 2 ≤ u2.heap.size) := Nat.le_trans hgl hst.size
  have HCH := Lib.hid hch2
  obtain ⟨⟨_, _, _, _, _, p5, p6, p7, p8, p9, p10⟩, pf⟩ := row11c hb
  have pf := pf 6
  clear p5
  clear p8
  clear p9
  clear p10
  have r := (row11c hb2).1.2.2.2.2.2.2.2.1
  clear hb hz hsz hgl hch hst hb2 hz2 hch2 ha hlt hR2 hR hC
  go_wp2_with fail
  first | rw [hu2] | skip
  refine (l_cloneN (ok := fun b => ok b ∧ b < w.heap.size) (Kd.C_new HCN.out HCH.out) HNN.out (by have := HBN.out; omega)).mono ?_
  rintro e v3 ⟨N1, nd1, rfl, hleN, hR, hC⟩
  rw [HNN.out] at hR hleN ⊢
  have hb := hC.heap HB.out (not_nob _)
  have hz := hC.heap HZ.out (not_nob _)
  have hsz : g + 2 ≤ u2.heap.size := HSZ.out
  have hgl : g + 2 ≤ v3.heap.size := Nat.le_trans hsz (hC.size)
  have hch : Chg nob w v3 := HCH.out.thenNew hC
  obtain ⟨u3, hu3⟩ : ∃ u, v3.setCell ⟨g, 7, none⟩ (.slice N1 nN nd1) = u := ⟨_, rfl⟩
  have hst : Chg (fun b => b = g) v3 u3 := by rw [← hu3]; exact (Chg.refl (fun b => b = g) v3).set1 7 _
  have hb2 : u3.heap[g]? = some (.cells #[.int .i64 x.1, .int .u64 x.2.1, .bool x.2.2.1.1, .int .i64 x.2.2.1.2.1, .string x.2.2.1.2.2.1, .slice S1 nS sd1, .slice K1 nK kd1, .slice N1 nN nd1, .slice I0 nI id0, .slice E0 nE ed0, .slice T0 nT td0] 57 (0, 0)) := by rw [← hu3]; exact blk_set hb 7 _
  have hz2 : u3.heap[g + 1]? = some (.cells #[.int .i64 0, .int .u64 0, .bool false, .int .i64 0, .string ⟨#[]⟩, .slice none 0 0, .slice none 0 0, .slice none 0 0, .slice none 0 0, .slice none 0 0, .slice none 0 0] 57 (0, 0)) := hst.heap hz (by omega)
  have hch2 : Chg nob w u3 := by rw [← hu3]; exact hch.setCell (p := ⟨g, 7, none⟩) (.inr (by have := HG.out; show w.heap.size ≤ g; omega)) _
  have ha : Chg (fun b => b = g) u2 u3 := hC.ofNew.trans hst (fun b hb => .inl hb)
  have hlt : w.heap.size = g := HG.out
  have hR2 := adv (Kd.R_mono (ok' := (fun b => (ok b ∧ b < w.heap.size) ∨ g + 2 ≤ b)) (Kd.R_lower hR hsz) (fun b hb => hb.imp (fun h => h) (fun h => Nat.le_trans hsz h))) hst (fun b hb _ => by have := HG.out; omega)
  have HRS := Lib.hid (adv HRS.out ha (fun b hb _ => by have := HG.out; omega))
  have HRK := Lib.hid (adv HRK.out ha (fun b hb _ => by have := HG.out; omega))
  have HRN := Lib.hid hR2
  have HRS := Lib.hid (Kd.R_bound HRS.out)
  have HRK := Lib.hid (Kd.R_bound HRK.out)
  have HRN := Lib.hid (Kd.R_bound HRN.out)
  have HB := Lib.hid hb2
  have HZ := Lib.hid hz2
  have HSZ : Hid (g + 2 ≤ u3.heap.size) := Nat.le_trans hgl hst.size
  have HCH := Lib.hid hch2
  obtain ⟨⟨_, _, _, _, _, p5, p6, p7, p8, p9, p10⟩, pf⟩ := row11c hb
  have pf := pf 7
  clear p5
  clear p6
  clear p9
  clear p10
  have r := (row11c hb2).1.2.2.2.2.2.2.2.2.1
  clear hb hz hsz hgl hch hst hb2 hz2 hch2 ha hlt hR2 hR hC
  go_wp2_with fail
  first | rw [hu3] | skip
  obtain ⟨z3, hz3⟩ : ∃ z, u3.heap.size = z := ⟨_, rfl⟩
  refine (l_cloneI (ok := fun b => ok b ∧ b < w.heap.size) (Kd.C_new HCI.out HCH.out) HNI.out (by have := HBI.out; omega)).mono ?_
  rintro e v4 ⟨I1, id1, rfl, hleI, hR, hC⟩
  rw [HNI.out] at hR hleI ⊢
  rw [hz3] at hR
  have hb := hC.heap HB.out (not_nob _)
  have hz := hC.heap HZ.out (not_nob _)
  have hsz : g + 2 ≤ u3.heap.size := HSZ.out
  rw [hz3] at hsz
  have HZ3 := Lib.hid hsz
  have hgl : g + 2 ≤ v4.heap.size := Nat.le_trans hsz (hz3 ▸ hC.size)
  have hch : Chg nob w v4 := HCH.out.thenNew hC
  obtain ⟨u4, hu4⟩ : ∃ u, v4.setCell ⟨g, 8, none⟩ (.slice I1 nI id1) = u := ⟨_, rfl⟩
  have hst : Chg (fun b => b = g) v4 u4 := by rw [← hu4]; exact (Chg.refl (fun b => b = g) v4).set1 8 _
  have hb2 : u4.heap[g]? = some (.cells #[.int .i64 x.1, .int .u64 x.2.1, .bool x.2.2.1.1, .int .i64 x.2.2.1.2.1, .string x.2.2.1.2.2.1, .slice S1 nS sd1, .slice K1 nK kd1, .slice N1 nN nd1, .slice I1 nI id1, .slice E0 nE ed0, .slice T0 nT td0] 57 (0, 0)) := by rw [← hu4]; exact blk_set hb 8 _
  have hz2 : u4.heap[g + 1]? = some (.cells #[.int .i64 0, .int .u64 0, .bool false, .int .i64 0, .string ⟨#[]⟩, .slice none 0 0, .slice none 0 0, .slice none 0 0, .slice none 0 0, .slice none 0 0, .slice none 0 0] 57 (0, 0)) := hst.heap hz (by omega)
  have hch2 : Chg nob w u4 := by rw [← hu4]; exact hch.setCell (p := ⟨g, 8, none⟩) (.inr (by have := HG.out; show w.heap.size ≤ g; omega)) _
  have ha : Chg (fun b => b = g) u3 u4 := hC.ofNew.trans hst (fun b hb => .inl hb)
  have hlt : w.heap.size = g := HG.out
  have hR2 := adv (Kd.R_mono (ok' := (fun b => (ok b ∧ b < w.heap.size) ∨ g + 2 ≤ b)) (Kd.R_lower hR hsz) (fun b hb => hb.imp (fun h => h) (fun h => Nat.le_trans hsz h))) hst (fun b hb _ => by have := HG.out; omega)
  have HRS := Lib.hid (adv HRS.out ha (fun b hb _ => by have := HG.out; omega))
  have HRK := Lib.hid (adv HRK.out ha (fun b hb _ => by have := HG.out; omega))
  have HRN := Lib.hid (adv HRN.out ha (fun b hb _ => by have := HG.out; omega))
  have HRI := Lib.hid hR2
  have HRIz := Lib.hid (adv (Kd.R_mono (ok' := fun b => (ok b ∧ b < w.heap.size) ∨ z3 ≤ b) hR (fun b hb => hb.imp (fun h => h) (fun h => by omega))) hst (fun b hb _ => by omega))
  have HB := Lib.hid hb2
  have HZ := Lib.hid hz2
  have HSZ : Hid (g + 2 ≤ u4.heap.size) := Nat.le_trans hgl hst.size
  have HCH := Lib.hid hch2
  obtain ⟨⟨_, _, _, _, _, p5, p6, p7, p8, p9, p10⟩, pf⟩ := row11c hb
  have pf := pf 8
  clear p5
  clear p6
  clear p7
  clear p9
  clear p10
  have r := (row11c hb2).1.2.2.2.2.2.2.2.2.1
  clear hb hz hsz hgl hch hst hb2 hz2 hch2 ha hlt hR2 hR hC
  have HZ3E := Lib.hid hz3
  clear hz3
  go_wp2
  have HCL0 : Hid (Chg (fun b => z3 ≤ b) u4 u4) := Chg.refl _ _
  have HU4 := Lib.hid hu4
  have hsm := HCI.out.small
  rw [HNI.out] at hsm
  clear hu0 hu1 hu2 hu3 hu4 p8 pf r
  go_loopw [27] (fun i wr => ∃ j : Nat, j ≤ nI ∧ i = .int .i64 j ∧ Hid (instK.R 128 wr z3 (fun b => (ok b ∧ b < w.heap.size) ∨ z3 ≤ b) (.slice I1 nI id1) x.2.2.2.2.1) ∧ Hid (Chg (fun b => z3 ≤ b) u4 wr)) (fun i _ => nI - (intOf i).toNat)
  case atStart => exact ⟨0, Nat.zero_le _, rfl, HRIz, HCL0⟩
  case round =>
    obtain ⟨j, hj, rfl, HR, HCL⟩ := hrel
    clear HCL0 HRIz
    have hbw := HCL.out.heap HB.out (by have := HZ3.out; omega)
    have HBW := Lib.hid hbw
    have r8 := (row11c hbw).1.2.2.2.2.2.2.2.2.1
    clear hbw
    by_cases hlt : j < nI
    · have b1 : (j : Int) < (nI : Int) := by omega
      have b3 : (0 : Int) ≤ (j : Int) := by omega
      obtain ⟨y, hy⟩ : ∃ y, x.2.2.2.2.1[j]? = some y := ⟨_, List.getElem?_eq_getElem (by rw [HNI.out]; exact hlt)⟩
      obtain ⟨gi, hgi, hgb, hfz⟩ := R_form HR.out (by rw [HNI.out]; omega)
      subst hgi
      obtain ⟨b, o, L, d, e, _, hat, _, hC, hd, hs⟩ := inst_at (Kd.R_read HR.out).1 hy
      obtain ⟨rfl, rfl⟩ : b = gi ∧ o = 0 := by simp at e; omega
      rw [Nat.zero_add] at hat
      obtain ⟨tn, htn⟩ : ∃ tn, y.1.2.2.2.1.length = tn := ⟨_, rfl⟩
      rw [htn] at hat hd hs
      have q3 := hat.c3
      have HX := Lib.hid hy
      have HTN := Lib.hid htn
      have HCT := Lib.hid hC
      have hfz2 := hfz (j * 8 + 3)
      have HBL := Lib.hid (heap_lt_of_cell q3)
      have hdr := (Chg.refl nob wr).drew
      have HQ3 := Lib.hid q3
      have HR8 := Lib.hid r8
      have HFZ := Lib.hid hfz2
      have HGB := Lib.hid hgb
      clear hy e hC hat htn hfz
      go_wp2
      refine wp_region_held_drew (S := fun w' => w'.cell? ⟨g, 8, none⟩ = some (.slice (some ⟨b, 0, none⟩) nI id1)) (by kernel_rfl) (hdr.cell HR8.out (not_nob _)) (fun hHeld => ?_)
      refine wpAnyH_take (i := 0) (v := ?_) pick0 (by kernel_rfl) (by kernel_rfl) (by kernel_rfl) (fun _ _ _ h => h) (Or.inl ⟨by rfl, ?_⟩) (by assumption) ?_
      rotate_left 1
      · (intro wx hSw; go_simp; try with_reducible rfl)
      try simp only [Act.put, List.setIfInBounds_toArray, List.set_cons_zero, List.set_cons_succ]
      refine wpAnyH_take (i := 1) (v := ?_) (pickS pick0) (by kernel_rfl) (by kernel_rfl) (by kernel_rfl) (fun _ _ _ h => h) (Or.inl ⟨by rfl, ?_⟩) (by assumption) ?_
      rotate_left 1
      · (intro wx hSw; go_simp; try with_reducible rfl)
      try simp only [Act.put, List.setIfInBounds_toArray, List.set_cons_zero, List.set_cons_succ]
      refine wpAnyH_take (i := 2) (v := ?_) (pickS (pickS pick0)) (by kernel_rfl) (by kernel_rfl) (by kernel_rfl) (fun _ _ _ h => h) (Or.inl ⟨by rfl, ?_⟩) (by assumption) ?_
      rotate_left 1
      · (intro wx hSw; go_simp; try with_reducible rfl)
      try simp only [Act.put, List.setIfInBounds_toArray, List.set_cons_zero, List.set_cons_succ]
      refine wpAnyH_take (i := 3) (v := ?_) (pickS (pickS (pickS pick0))) (by kernel_rfl) (by kernel_rfl) (by kernel_rfl) (fun _ _ _ h => h) (Or.inl ⟨by rfl, ?_⟩) (by assumption) ?_
      rotate_left 1
      · (intro wx hSw; go_simp; try with_reducible rfl)
      try simp only [Act.put, List.setIfInBounds_toArray, List.set_cons_zero, List.set_cons_succ]
      refine wpAnyH_take (i := 4) (v := ?_) (pickS (pickS (pickS (pickS pick0)))) (by kernel_rfl) (by kernel_rfl) (by kernel_rfl) (fun _ _ _ h => h) (Or.inl ⟨by rfl, ?_⟩) (by assumption) ?_
      rotate_left 1
      · (intro wx hSw; go_simp; try with_reducible rfl)
      try simp only [Act.put, List.setIfInBounds_toArray, List.set_cons_zero, List.set_cons_succ]
      refine wpAnyH_take (i := 5) (v := ?_) (pickS (pickS (pickS (pickS (pickS pick0))))) (by kernel_rfl) (by kernel_rfl) (by kernel_rfl) (fun _ _ _ h => h) (Or.inl ⟨by rfl, ?_⟩) (by assumption) ?_
      rotate_left 1
      · (intro wx hSw; go_simp; try with_reducible rfl)
      try simp only [Act.put, List.setIfInBounds_toArray, List.set_cons_zero, List.set_cons_succ]
      refine wpAnyH_take (i := 6) (v := ?_) (pickS (pickS (pickS (pickS (pickS (pickS pick0)))))) (by kernel_rfl) (by kernel_rfl) (by kernel_rfl) (fun _ _ _ h => h) (Or.inl ⟨by rfl, ?_⟩) (by assumption) ?_
      rotate_left 1
      · (intro wx hSw; go_simp; try with_reducible rfl)
      try simp only [Act.put, List.setIfInBounds_toArray, List.set_cons_zero, List.set_cons_succ]
      refine wpAnyH_take (i := 7) (v := ?_) (pickS (pickS (pickS (pickS (pickS (pickS (pickS pick0))))))) (by kernel_rfl) (by kernel_rfl) (by kernel_rfl) (fun _ _ _ h => h) (Or.inl ⟨by rfl, ?_⟩) (by assumption) ?_
      rotate_left 1
      · (intro wx hSw; go_simp; try with_reducible rfl)
      try simp only [Act.put, List.setIfInBounds_toArray, List.set_cons_zero, List.set_cons_succ]
      refine wpAnyH_take (i := 8) (v := ?_) (pickS (pickS (pickS (pickS (pickS (pickS (pickS (pickS pick0)))))))) (by kernel_rfl) (by kernel_rfl) (by kernel_rfl) (fun _ _ _ h => h) (Or.inl ⟨by rfl, ?_⟩) (by assumption) ?_
      rotate_left 1
      · (intro wx hSw; go_simp; try with_reducible rfl)
      try simp only [Act.put, List.setIfInBounds_toArray, List.set_cons_zero, List.set_cons_succ]
      refine wpAnyH_ready (rs := [9]) (by kernel_rfl) (by simp) ?_
      refine AllReadyH.cons (pickS (pickS (pickS (pickS (pickS (pickS (pickS (pickS (pickS pick0))))))))) (fun K hK => ?_) AllReadyH.nil
      go_simp
      refine hK.out _ _ (hHeld) (fun hHeld => ?_)
      clear hK K
      try simp only [Act.put, List.setIfInBounds_toArray, List.set_cons_zero, List.set_cons_succ]
      refine wpAnyH_ready (rs := [10]) (by kernel_rfl) (by simp) ?_
      refine AllReadyH.cons (pickS (pickS (pickS (pickS (pickS (pickS (pickS (pickS (pickS (pickS pick0)))))))))) (fun K hK => ?_) AllReadyH.nil
      go_simp
      refine (l_cloneS (Kd.C_new HCT.out hdr) HTN.out (by omega)).mono ?_
      rintro e w2 ⟨T, td, rfl, htd, hT, hc2⟩
      rw [HTN.out] at htd hT ⊢
      have hw2 := hdr.thenNew hc2
      obtain ⟨r8', q3', hf'⟩ := keepI HR8.out HQ3.out HFZ.out HBL.out hw2
      have hgne : ¬ (g = b) := by have h1 := HGB.out; have h2 := HZ3.out; omega
      have hset : (w2.setCell ⟨b, j * 8 + 3, none⟩ (.slice T tn td)).cell? ⟨g, 8, none⟩ = some (.slice (some ⟨b, 0, none⟩) nI id1) := ((Chg.refl (fun k => k = b) w2).set1 (j * 8 + 3) (.slice T tn td)).cell r8' hgne
      go_simp
      refine hK.out _ _ (hw2.cell HR8.out (not_nob _)) (fun hHeld => ?_)
      clear hK K
      try simp only [Act.put, List.setIfInBounds_toArray, List.set_cons_zero, List.set_cons_succ]
      refine wpAnyH_take (i := 11) (v := ?_) (pickS (pickS (pickS (pickS (pickS (pickS (pickS (pickS (pickS (pickS (pickS pick0))))))))))) (by kernel_rfl) (by kernel_rfl) (by kernel_rfl) (fun _ _ _ h => h) (Or.inl ⟨by rfl, ?_⟩) (by assumption) ?_
      rotate_left 1
      · (intro wx hSw; go_simp; try with_reducible rfl)
      try simp only [Act.put, List.setIfInBounds_toArray, List.set_cons_zero, List.set_cons_succ]
      refine wpAnyH_take (i := 12) (v := ?_) (pickS (pickS (pickS (pickS (pickS (pickS (pickS (pickS (pickS (pickS (pickS (pickS pick0)))))))))))) (by kernel_rfl) (by kernel_rfl) (by kernel_rfl) (fun _ _ _ h => h) (Or.inl ⟨by rfl, ?_⟩) (by assumption) ?_
      rotate_left 1
      · (intro wx hSw; go_simp; try with_reducible rfl)
      try simp only [Act.put, List.setIfInBounds_toArray, List.set_cons_zero, List.set_cons_succ]
      refine wpAnyH_take (i := 13) (v := ?_) (pickS (pickS (pickS (pickS (pickS (pickS (pickS (pickS (pickS (pickS (pickS (pickS (pickS pick0))))))))))))) (by kernel_rfl) (by kernel_rfl) (by kernel_rfl) (fun _ _ _ h => h) (Or.inl ⟨by rfl, ?_⟩) (by assumption) ?_
      rotate_left 1
      · (intro wx hSw; go_simp; try with_reducible rfl)
      try simp only [Act.put, List.setIfInBounds_toArray, List.set_cons_zero, List.set_cons_succ]
      refine wpAnyH_ready (rs := [14]) (by kernel_rfl) (by simp) ?_
      refine AllReadyH.cons (pickS (pickS (pickS (pickS (pickS (pickS (pickS (pickS (pickS (pickS (pickS (pickS (pickS (pickS pick0)))))))))))))) (fun K hK => ?_) AllReadyH.nil
      go_simp
      refine hK.out _ _ (hset) (fun hHeld => ?_)
      clear hK K
      try simp only [Act.put, List.setIfInBounds_toArray, List.set_cons_zero, List.set_cons_succ]
      refine wpAnyH_done (by kernel_rfl) ?_ _
      have hR3 : instK.R 128 (w2.setCell ⟨b, j * 8 + 3, none⟩ (.slice T tn td)) z3 (fun b => (ok b ∧ b < w.heap.size) ∨ z3 ≤ b) (.slice (some ⟨b, 0, none⟩) nI id1) x.2.2.2.2.1 := by
        have h1 := Kd.R_setField (i := 3) (u := .slice T tn td) (x' := y) (Kd.R_new HR.out hw2) HX.out (by decide) (fun cs hk => by
          obtain ⟨c0, c1, rfl, hk1, hk2⟩ := hk
          obtain ⟨L', d', rfl, _, _, hs'⟩ := svc_cells hk1
          have h2 := svc_mk (w := w2) (ok := fun k => ((ok k ∧ k < w.heap.size) ∨ z3 ≤ k) ∧ k ≠ b) (x := y.1) (L := T) (d := td) (Kd.C_mono (Kd.R_read (Kd.R_ge Kd.scalar_flat hT)).1 (fun k hk => by
            have hk' : wr.heap.size ≤ k := hk
            have h3 := HCL.out.size
            have h4 := HBL.out
            have h5 := HGB.out
            exact ⟨.inr (by omega), by omega⟩)) (by rw [HTN.out]; exact htd) hs'
          rw [HTN.out] at h2
          exact ⟨_, c1, rfl, h2, hk2⟩)
        rw [set_same HX.out] at h1
        exact h1
      have HR3 := Lib.hid hR3
      have HCL3 : Hid (Chg (fun b => z3 ≤ b) u4 (w2.setCell ⟨b, j * 8 + 3, none⟩ (.slice T tn td))) := (HCL.out.thenNew hw2).setCell (p := ⟨b, j * 8 + 3, none⟩) (.inl HGB.out) _
      clear hT hc2 hw2 q3 hfz2 hR3 q3' r8' hf' hset
      go_wp2
      exact ⟨⟨j + 1, hlt, by go_num, HR3, HCL3⟩, by simp [intOf]; omega⟩
    · obtain rfl : nI = j := by omega
      have b1 : ¬ (nI : Int) < (nI : Int) := by omega
      have HCHW : Hid (Chg nob w wr) := HCH.out.trans HCL.out (fun b hb => by have h1 := HZ3.out; have h2 := HG.out; have hb' : z3 ≤ b := hb; exact .inr (by omega))
      have hzw := HCL.out.heap HZ.out (by have := HZ3.out; omega)
      have HZW := Lib.hid hzw
      have HSZW : Hid (g + 2 ≤ wr.heap.size) := Nat.le_trans HSZ.out HCL.out.size
      have r9 := (row11c HBW.out).1.2.2.2.2.2.2.2.2.2.1
      have HB := HBW
      have HZ := HZW
      have HSZ := HSZW
      have HCH := HCHW
      have HRI := HR
      have HRS := Lib.hid (adv HRS.out HCL.out (fun b hb _ => by have h1 := HZ3E.out; have h2 := hb.2; omega))
      have HRK := Lib.hid (adv HRK.out HCL.out (fun b hb _ => by have h1 := HZ3E.out; have h2 := hb.2; omega))
      have HRN := Lib.hid (adv HRN.out HCL.out (fun b hb _ => by have h1 := HZ3E.out; have h2 := hb.2; omega))
      clear hzw HR HCL r8
      go_wp2_with fail
      skip
      refine (l_cloneE (ok := fun b => ok b ∧ b < w.heap.size) (Kd.C_new HCE.out HCH.out) HNE.out (by have := HBE.out; omega)).mono ?_
      rintro e v5 ⟨E1, ed1, rfl, hleE, hR, hC⟩
      rw [HNE.out] at hR hleE ⊢
      have hb := hC.heap HB.out (not_nob _)
      have hz := hC.heap HZ.out (not_nob _)
      have hsz : g + 2 ≤ wr.heap.size := HSZ.out
      have hgl : g + 2 ≤ v5.heap.size := Nat.le_trans hsz (hC.size)
      have hch : Chg nob w v5 := HCH.out.thenNew hC
      obtain ⟨u5, hu5⟩ : ∃ u, v5.setCell ⟨g, 9, none⟩ (.slice E1 nE ed1) = u := ⟨_, rfl⟩
      have hst : Chg (fun b => b = g) v5 u5 := by rw [← hu5]; exact (Chg.refl (fun b => b = g) v5).set1 9 _
      have hb2 : u5.heap[g]? = some (.cells #[.int .i64 x.1, .int .u64 x.2.1, .bool x.2.2.1.1, .int .i64 x.2.2.1.2.1, .string x.2.2.1.2.2.1, .slice S1 nS sd1, .slice K1 nK kd1, .slice N1 nN nd1, .slice I1 nI id1, .slice E1 nE ed1, .slice T0 nT td0] 57 (0, 0)) := by rw [← hu5]; exact blk_set hb 9 _
      have hz2 : u5.heap[g + 1]? = some (.cells #[.int .i64 0, .int .u64 0, .bool false, .int .i64 0, .string ⟨#[]⟩, .slice none 0 0, .slice none 0 0, .slice none 0 0, .slice none 0 0, .slice none 0 0, .slice none 0 0] 57 (0, 0)) := hst.heap hz (by omega)
      have hch2 : Chg nob w u5 := by rw [← hu5]; exact hch.setCell (p := ⟨g, 9, none⟩) (.inr (by have := HG.out; show w.heap.size ≤ g; omega)) _
      have ha : Chg (fun b => b = g) wr u5 := hC.ofNew.trans hst (fun b hb => .inl hb)
      have hlt : w.heap.size = g := HG.out
      have hR2 := adv (Kd.R_mono (ok' := (fun b => (ok b ∧ b < w.heap.size) ∨ g + 2 ≤ b)) (Kd.R_lower hR hsz) (fun b hb => hb.imp (fun h => h) (fun h => Nat.le_trans hsz h))) hst (fun b hb _ => by have := HG.out; omega)
      have HRS := Lib.hid (adv HRS.out ha (fun b hb _ => by have := HG.out; omega))
      have HRK := Lib.hid (adv HRK.out ha (fun b hb _ => by have := HG.out; omega))
      have HRN := Lib.hid (adv HRN.out ha (fun b hb _ => by have := HG.out; omega))
      have HRI := Lib.hid (adv HRI.out ha (fun b hb _ => by have := HG.out; have := HZ3.out; omega))
      have HRE := Lib.hid hR2
      have HB := Lib.hid hb2
      have HZ := Lib.hid hz2
      have HSZ : Hid (g + 2 ≤ u5.heap.size) := Nat.le_trans hgl hst.size
      have HCH := Lib.hid hch2
      obtain ⟨⟨_, _, _, _, _, p5, p6, p7, p8, p9, p10⟩, pf⟩ := row11c hb
      have pf := pf 9
      clear p5
      clear p6
      clear p7
      clear p8
      have r := (row11c hb2).1.2.2.2.2.2.2.2.2.2.2
      clear hb hz hsz hgl hch hst hb2 hz2 hch2 ha hlt hR2 hR hC
      go_wp2_with fail
      first | rw [hu5] | skip
      refine (l_cloneT (ok := fun b => ok b ∧ b < w.heap.size) (Kd.C_new HCT.out HCH.out) HNT.out (by have := HBT.out; omega)).mono ?_
      rintro e v6 ⟨T1, td1, rfl, hleT, hR, hC⟩
      rw [HNT.out] at hR hleT ⊢
      have hb := hC.heap HB.out (not_nob _)
      have hz := hC.heap HZ.out (not_nob _)
      have hsz : g + 2 ≤ u5.heap.size := HSZ.out
      have hgl : g + 2 ≤ v6.heap.size := Nat.le_trans hsz (hC.size)
      have hch : Chg nob w v6 := HCH.out.thenNew hC
      obtain ⟨u6, hu6⟩ : ∃ u, v6.setCell ⟨g, 10, none⟩ (.slice T1 nT td1) = u := ⟨_, rfl⟩
      have hst : Chg (fun b => b = g) v6 u6 := by rw [← hu6]; exact (Chg.refl (fun b => b = g) v6).set1 10 _
      have hb2 : u6.heap[g]? = some (.cells #[.int .i64 x.1, .int .u64 x.2.1, .bool x.2.2.1.1, .int .i64 x.2.2.1.2.1, .string x.2.2.1.2.2.1, .slice S1 nS sd1, .slice K1 nK kd1, .slice N1 nN nd1, .slice I1 nI id1, .slice E1 nE ed1, .slice T1 nT td1] 57 (0, 0)) := by rw [← hu6]; exact blk_set hb 10 _
      have hz2 : u6.heap[g + 1]? = some (.cells #[.int .i64 0, .int .u64 0, .bool false, .int .i64 0, .string ⟨#[]⟩, .slice none 0 0, .slice none 0 0, .slice none 0 0, .slice none 0 0, .slice none 0 0, .slice none 0 0] 57 (0, 0)) := hst.heap hz (by omega)
      have hch2 : Chg nob w u6 := by rw [← hu6]; exact hch.setCell (p := ⟨g, 10, none⟩) (.inr (by have := HG.out; show w.heap.size ≤ g; omega)) _
      have ha : Chg (fun b => b = g) u5 u6 := hC.ofNew.trans hst (fun b hb => .inl hb)
      have hlt : w.heap.size = g := HG.out
      have hR2 := adv (Kd.R_mono (ok' := (fun b => (ok b ∧ b < w.heap.size) ∨ g + 2 ≤ b)) (Kd.R_lower hR hsz) (fun b hb => hb.imp (fun h => h) (fun h => Nat.le_trans hsz h))) hst (fun b hb _ => by have := HG.out; omega)
      have HRS := Lib.hid (adv HRS.out ha (fun b hb _ => by have := HG.out; omega))
      have HRK := Lib.hid (adv HRK.out ha (fun b hb _ => by have := HG.out; omega))
      have HRN := Lib.hid (adv HRN.out ha (fun b hb _ => by have := HG.out; omega))
      have HRI := Lib.hid (adv HRI.out ha (fun b hb _ => by have := HG.out; have := HZ3.out; omega))
      have HRE := Lib.hid (adv HRE.out ha (fun b hb _ => by have := HG.out; omega))
      have HRT := Lib.hid hR2
      have HB := Lib.hid hb2
      have HZ := Lib.hid hz2
      have HSZ : Hid (g + 2 ≤ u6.heap.size) := Nat.le_trans hgl hst.size
      have HCH := Lib.hid hch2
      obtain ⟨⟨_, _, _, _, _, p5, p6, p7, p8, p9, p10⟩, pf⟩ := row11c hb
      have pf := pf 10
      clear p5
      clear p6
      clear p7
      clear p8
      clear p9
      clear hb hz hsz hgl hch hst hb2 hz2 hch2 ha hlt hR2 hR hC
      obtain ⟨⟨q0, q1, q2, q3, q4, q5, q6, q7, q8, q9, q10⟩, _⟩ := row11c HB.out
      obtain ⟨⟨z0, z1, z2, z3', z4, z5, z6, z7, z8, z9, z10⟩, zf⟩ := row11c HZ.out
      have y0 := zf 0
      have y1 := zf 1
      have y2 := zf 2
      have y3 := zf 3
      have y4 := zf 4
      have y5 := zf 5
      have y6 := zf 6
      have y7 := zf 7
      have y8 := zf 8
      have y9 := zf 9
      have y10 := zf 10
      clear zf
      obtain ⟨wf, hwf⟩ : ∃ W, (((((((((((u6.setCell ⟨g + 1, 0, none⟩ (.int .i64 x.1)).setCell ⟨g + 1, 1, none⟩ (.int .u64 x.2.1)).setCell ⟨g + 1, 2, none⟩ (.bool x.2.2.1.1)).setCell ⟨g + 1, 3, none⟩ (.int .i64 x.2.2.1.2.1)).setCell ⟨g + 1, 4, none⟩ (.string x.2.2.1.2.2.1)).setCell ⟨g + 1, 5, none⟩ (.slice S1 nS sd1)).setCell ⟨g + 1, 6, none⟩ (.slice K1 nK kd1)).setCell ⟨g + 1, 7, none⟩ (.slice N1 nN nd1)).setCell ⟨g + 1, 8, none⟩ (.slice I1 nI id1)).setCell ⟨g + 1, 9, none⟩ (.slice E1 nE ed1)).setCell ⟨g + 1, 10, none⟩ (.slice T1 nT td1)) = W := ⟨_, rfl⟩
      obtain ⟨hbf, hchf⟩ := set11 HZ.out (.int .i64 x.1) (.int .u64 x.2.1) (.bool x.2.2.1.1) (.int .i64 x.2.2.1.2.1) (.string x.2.2.1.2.2.1) (.slice S1 nS sd1) (.slice K1 nK kd1) (.slice N1 nN nd1) (.slice I1 nI id1) (.slice E1 nE ed1) (.slice T1 nT td1)
      rw [hwf] at hbf hchf
      obtain ⟨⟨f0, f1, f2, f3, f4, f5, f6, f7, f8, f9, f10⟩, _⟩ := row11c hbf
      have hchw : Chg nob w wf := HCH.out.trans hchf (fun b hb => .inr (by have := HG.out; omega))
      have hRS := adv HRS.out hchf (fun b hb _ => by have := HG.out; have := hb.1; omega)
      have hRK := adv HRK.out hchf (fun b hb _ => by have := HG.out; have := hb.1; omega)
      have hRN := adv HRN.out hchf (fun b hb _ => by have := HG.out; have := hb.1; omega)
      have hRI := adv HRI.out hchf (fun b hb _ => by have := HG.out; have := HZ3.out; omega)
      have hRE := adv HRE.out hchf (fun b hb _ => by have := HG.out; omega)
      have hRT := adv HRT.out hchf (fun b hb _ => by have := HG.out; omega)
      have HEND : Hid (CopiedAs w wf ok x #[.int .i64 x.1, .int .u64 x.2.1, .bool x.2.2.1.1, .int .i64 x.2.2.1.2.1, .string x.2.2.1.2.2.1, .slice S1 nS sd1, .slice K1 nK kd1, .slice N1 nN nd1, .slice I1 nI id1, .slice E1 nE ed1, .slice T1 nT td1] ∧ Chg nob w wf) := by
        have hg0 := HG.out
        have hz0 := HZ3.out
        refine ⟨⟨?_, S1, sd1, K1, kd1, N1, nd1, I1, id1, E1, ed1, T1, td1, ?_, ?_, ?_, ?_⟩, hchw⟩
        · have h := ans_mk (w := wf) (ok := fun b => (ok b ∧ b < w.heap.size) ∨ w.heap.size ≤ b) (x := x) (S := S1) (K := K1) (N := N1) (I := I1) (E := E1) (T := T1) (sd := sd1) (kd := kd1) (nd := nd1) (id := id1) (ed := ed1) (td := td1)
            ⟨Kd.C_mono (Kd.R_read hRS).1 (fun b hb => hb.1.imp id (fun h => by omega)), by rw [HNS.out]; exact hleS, by rw [HNS.out]; exact HBS.out⟩
            ⟨Kd.C_mono (Kd.R_read hRK).1 (fun b hb => hb.1.imp id (fun h => by omega)), by rw [HNK.out]; exact hleK, by rw [HNK.out]; exact HBK.out⟩
            ⟨Kd.C_mono (Kd.R_read hRN).1 (fun b hb => hb.1.imp id (fun h => by omega)), by rw [HNN.out]; exact hleN, by rw [HNN.out]; exact HBN.out⟩
            ⟨Kd.C_mono (Kd.R_read hRI).1 (fun b hb => hb.imp id (fun h => by omega)), by rw [HNI.out]; exact hleI, by rw [HNI.out]; exact HBI.out⟩
            ⟨Kd.C_mono (Kd.R_read hRE).1 (fun b hb => hb.imp id (fun h => by omega)), by rw [HNE.out]; exact hleE, by rw [HNE.out]; exact HBE.out⟩
            ⟨Kd.C_mono (Kd.R_read hRT).1 (fun b hb => hb.imp id (fun h => by omega)), by rw [HNT.out]; exact hleT, by rw [HNT.out]; exact HBT.out⟩
          rw [HNS.out, HNK.out, HNN.out, HNI.out, HNE.out, HNT.out] at h
          exact h
        · rw [HNS.out, HNK.out, HNN.out, HNI.out, HNE.out, HNT.out]
        · rw [HNN.out]; exact Wr.of_R (Kd.R_lower hRN (by omega))
        · rw [HNI.out]; exact Wr.of_R (Kd.R_lower hRI (by omega))
        · rw [HNE.out]; exact Wr.of_R (Kd.R_lower hRE (by omega))
      have HBF := Lib.hid hbf
      clear hchf hbf hchw hRS hRK hRN hRI hRE hRT
      go_wp2
      first | rw [hwf] | skip
      try simp only [Exit.inBlock, Exit.then]
      refine bodyPost_ret (results_cell_row rfl _ _ (g + 1) _ _ (0, 0) _ rfl HBF.out Try.underlying57 rfl (by kernel_rfl)) rfl ?_
      exact ⟨_, rfl, HEND.out.1, HEND.out.2⟩
end Go.Proofs.Ytcibdcahcpcmaaa
