import Derived.Test.YtcibdcahcpcmaaaFold18
/- The seal: what a call of Round does, the program's and the reference's. -/
namespace Go.Proofs.Ytcibdcahcpcmaaa
open Go.RowKit
set_option maxRecDepth 100000
set_option linter.unusedVariables false
set_option linter.unusedSimpArgs false
theorem row4_cells {w : World} {g t : Nat} {a b c d : Value} (h : w.heap[g]? = some (.cells #[a, b, c, d] t (0, 0))) :
    (w.cell? ⟨g, 0, none⟩ = some a ∧ w.cell? ⟨g, 1, none⟩ = some b ∧ w.cell? ⟨g, 2, none⟩ = some c ∧ w.cell? ⟨g, 3, none⟩ = some d) ∧ ∀ j, w.frozen? ⟨g, j, none⟩ = false :=
  ⟨⟨by rw [cell_of_row w g 0 _ _ _ h]; rfl, by rw [cell_of_row w g 1 _ _ _ h]; rfl, by rw [cell_of_row w g 2 _ _ _ h]; rfl, by rw [cell_of_row w g 3 _ _ _ h]; rfl⟩, fun j => by simp [World.frozen?, h]⟩
/-- Round's own blocks: the result at r, the four numbers at g. -/
structure RoundSt (w0 : World) (r g : Nat) (v : V4) (w : World) : Prop where
  four : FourAt w g v
  row : w.heap[r]? = some (.cells #[.int .u64 0, .int .u64 0, .int .u64 0, .int .u64 0] 138 (0, 0))
  ne : r ≠ g
  new : w0.heap.size ≤ g
  newr : w0.heap.size ≤ r
  chg : Chg nob w0 w
theorem RoundSt.step {w0 w w' : World} {r g : Nat} {v v' : V4} (h : RoundSt w0 r g v w) (h1 : FourAt w' g v') (hc : Chg (fun b => b = g) w w') : RoundSt w0 r g v' w' :=
  ⟨h1, hc.heap h.row h.ne, h.ne, h.new, h.newr, h.chg.trans hc (fun i hi => .inr (by have := h.new; omega))⟩
def set4 (w : World) (r : Nat) (a b c d : Value) : World := (((w.setCell ⟨r, 0, none⟩ a).setCell ⟨r, 1, none⟩ b).setCell ⟨r, 2, none⟩ c).setCell ⟨r, 3, none⟩ d
theorem set4_row {w : World} {r t : Nat} {a' b' c' d' : Value} (h : w.heap[r]? = some (.cells #[a', b', c', d'] t (0, 0))) (a b c d : Value) : (set4 w r a b c d).heap[r]? = some (.cells #[a, b, c, d] t (0, 0)) := by
  simp [set4, World.setCell, Array.getElem?_modify, h]
theorem set4_chg {w0 w : World} {S : Nat → Prop} {r : Nat} (h : Chg S w0 w) (hr : S r ∨ w0.heap.size ≤ r) (a b c d : Value) : Chg S w0 (set4 w r a b c d) :=
  (((h.setCell (p := ⟨r, 0, none⟩) hr a).setCell (p := ⟨r, 1, none⟩) hr b).setCell (p := ⟨r, 2, none⟩) hr c).setCell (p := ⟨r, 3, none⟩) hr d
theorem RoundSt.done {w0 w : World} {r g : Nat} {v : V4} (h : RoundSt w0 r g v w) (a b c d : Value) :
    ((set4 w r a b c d).cell? ⟨r, 0, none⟩ = some a ∧ (set4 w r a b c d).cell? ⟨r, 1, none⟩ = some b ∧ (set4 w r a b c d).cell? ⟨r, 2, none⟩ = some c ∧ (set4 w r a b c d).cell? ⟨r, 3, none⟩ = some d) ∧ Chg nob w0 (set4 w r a b c d) :=
  ⟨(row4_cells (set4_row h.row a b c d)).1, set4_chg h.chg (.inr h.newr) a b c d⟩
theorem alloc2_row (w : World) (o1 o2 : Obj) (n : Nat) : (((w.alloc o1).alloc o2).drewN n).heap[w.heap.size + 1]? = some o2 := by
  have h5 := heap_alloc_new (w.alloc o1) o2
  rw [show (w.alloc o1).heap.size = w.heap.size + 1 from by simp] at h5
  exact h5
theorem alloc2_chg (w : World) (o1 o2 : Obj) (n : Nat) : Chg nob w (((w.alloc o1).alloc o2).drewN n) := (((Chg.refl _ _).alloc _).alloc _).drewN _
theorem s_round {w : World} {v : V4} (hv : small v) :
    Calls Try.prog 89 #[.agg (fourV v)] w fun e w' => e = .returned (.agg (fourV (roundV v))) ∧ Chg nob w w' := by
  have HV := Lib.hid hv
  have HR : Hid (fourV (roundV v) = #[.int .u64 (halfA (rot 32 (halfA v.1 v.2.1)) (halfB 16 v.2.2.1 v.2.2.2)), .int .u64 (halfB 17 (halfA v.2.2.1 v.2.2.2) (halfB 13 v.1 v.2.1)), .int .u64 (rot 32 (halfA (halfA v.2.2.1 v.2.2.2) (halfB 13 v.1 v.2.1))), .int .u64 (halfB 21 (rot 32 (halfA v.1 v.2.1)) (halfB 16 v.2.2.1 v.2.2.2))]) := rfl
  rw [HR.out]
  unfold fourV
  clear hv
  go_enter Try.func89, Try.ntmps89
  go_wp2_with fail
  obtain ⟨w1, hw1⟩ : ∃ w1, w1 = ((w.alloc (.cells #[.int .u64 v.1, .int .u64 v.2.1, .int .u64 v.2.2.1, .int .u64 v.2.2.2] 138)).alloc (.cells #[.int .u64 0, .int .u64 0, .int .u64 0, .int .u64 0] 138)) := ⟨_, rfl⟩
  have z1 : w1.heap.size = w.heap.size + 1 + 1 := by rw [hw1]; simp
  have n1 : Chg nob w w1 := by rw [hw1]; exact ((Chg.refl _ _).alloc _).alloc _
  have g1 : w1.heap[w.heap.size + 1]? = some (.cells #[.int .u64 0, .int .u64 0, .int .u64 0, .int .u64 0] 138 (0, 0)) := by
    rw [hw1]
    have h5 := heap_alloc_new (w.alloc (.cells #[.int .u64 v.1, .int .u64 v.2.1, .int .u64 v.2.2.1, .int .u64 v.2.2.2] 138)) (.cells #[.int .u64 0, .int .u64 0, .int .u64 0, .int .u64 0] 138)
    rw [show (w.alloc (.cells #[.int .u64 v.1, .int .u64 v.2.1, .int .u64 v.2.2.1, .int .u64 v.2.2.2] 138)).heap.size = w.heap.size + 1 from by simp] at h5
    exact h5
  rw [← hw1]
  clear hw1
  obtain ⟨w2, hw2⟩ : ∃ w2, w2 = w1.alloc (.cells #[.int .u64 v.1, .int .u64 v.2.1, .int .u64 v.2.2.1, .int .u64 v.2.2.2] 145) := ⟨_, rfl⟩
  have n2 : Chg nob w1 w2 := by rw [hw2]; exact (Chg.refl _ _).alloc _
  have h2 : FourAt w2 (w.heap.size + 1 + 1) v := by
    rw [hw2, ← z1]
    exact ⟨heap_alloc_new _ _, HV.out⟩
  rw [← hw2]
  clear hw2
  have g2 := n2.heap g1 (not_nob _)
  have hst : RoundSt w (w.heap.size + 1) (w.heap.size + 1 + 1) v w2 := ⟨h2, g2, by omega, by omega, by omega, n1.thenNew n2⟩
  clear n1 n2 g1 z1 g2 h2
  generalize w.heap.size + 1 + 1 = g at hst ⊢
  generalize w.heap.size + 1 = r at hst ⊢
  refine (half01 hst.four).mono ?_
  rintro e w3 ⟨rfl, h3, hc⟩
  have hst := hst.step h3 hc
  clear hc h3
  obtain ⟨c0, _, _, _⟩ := hst.four.cells
  have f0 := hst.four.loose 0
  have H3 := Lib.hid hst
  simp only at c0
  clear hst
  go_wp2_with fail
  refine (s_turned _ (halfA_lt _ _) 32 (by decide) (by decide)).mono ?_
  rintro e w4 ⟨rfl, rfl⟩
  go_wp2_with fail
  have h4 := H3.out.four.set0 (rot_lt (k := 32) (by decide) (halfA_lt v.1 v.2.1))
  have hst := H3.out.step h4 (Chg.set1 (Chg.refl _ _) _ _)
  clear c0 f0 H3 h4
  refine (half23 hst.four).mono ?_
  rintro e w5 ⟨rfl, h3, hc⟩
  have hst := hst.step h3 hc
  clear hc h3
  go_wp2_with fail
  refine (half03 hst.four).mono ?_
  rintro e w6 ⟨rfl, h3, hc⟩
  have hst := hst.step h3 hc
  clear hc h3
  go_wp2_with fail
  refine (half21 hst.four).mono ?_
  rintro e w7 ⟨rfl, h3, hc⟩
  have hst := hst.step h3 hc
  clear hc h3
  simp only at hst
  obtain ⟨_, _, c2, _⟩ := hst.four.cells
  have f2 := hst.four.loose 2
  have H3 := Lib.hid hst
  simp only at c2
  clear hst
  go_wp2_with fail
  refine (s_turned _ (halfA_lt _ _) 32 (by decide) (by decide)).mono ?_
  rintro e w8 ⟨rfl, rfl⟩
  have h4 := H3.out.four.set2 (rot_lt (k := 32) (by decide) (halfA_lt (halfA v.2.2.1 v.2.2.2) (halfB 13 v.1 v.2.1)))
  have hst := H3.out.step h4 (Chg.set1 (Chg.refl _ _) _ _)
  have HST := Lib.hid hst
  obtain ⟨⟨e0, e1, e2, e3⟩, ef⟩ := row4_cells H3.out.row
  have ef0 := ef 0
  have ef1 := ef 1
  have ef2 := ef 2
  have ef3 := ef 3
  have ng := H3.out.ne
  have ng2 : ¬ g = r := fun e => ng e.symm
  clear ef hst h4 H3
  go_wp2
  have hd := HST.out.done (.int .u64 (halfA (rot 32 (halfA v.1 v.2.1)) (halfB 16 v.2.2.1 v.2.2.2))) (.int .u64 (halfB 17 (halfA v.2.2.1 v.2.2.2) (halfB 13 v.1 v.2.1))) (.int .u64 (rot 32 (halfA (halfA v.2.2.1 v.2.2.2) (halfB 13 v.1 v.2.1)))) (.int .u64 (halfB 21 (rot 32 (halfA v.1 v.2.1)) (halfB 16 v.2.2.1 v.2.2.2)))
  unfold set4 at hd
  generalize (World.setCell _ (⟨r, 3, none⟩ : Addr) _) = w9 at hd ⊢
  obtain ⟨⟨q0, q1, q2, q3⟩, hc⟩ := hd
  refine bodyPost_ret (by simp [results, Try.results89, go_sem, q0, q1, q2, q3]; rfl) rfl ?_
  exact ⟨rfl, hc⟩
theorem r_round {w : World} {v : V4} (hv : small v) :
    Calls Try.prog 76 #[.agg (fourV v)] w fun e w' => e = .returned (.agg (fourV (roundV v))) ∧ Chg nob w w' := by
  obtain ⟨v1, v2, v3, v4⟩ := v
  obtain ⟨l1, l2, l3, l4⟩ := hv
  simp only at l1 l2 l3 l4
  have HR : Hid (fourV (roundV (v1, v2, v3, v4)) = #[.int .u64 (halfA (rot 32 (halfA v1 v2)) (halfB 16 v3 v4)), .int .u64 (halfB 17 (halfA v3 v4) (halfB 13 v1 v2)), .int .u64 (rot 32 (halfA (halfA v3 v4) (halfB 13 v1 v2))), .int .u64 (halfB 21 (rot 32 (halfA v1 v2)) (halfB 16 v3 v4))]) := rfl
  rw [HR.out]
  unfold fourV
  have HL2 := Lib.hid l2
  have HL4 := Lib.hid l4
  have HB2 : Hid (halfB 13 v1 v2 < 18446744073709551616) := halfB_lt (by decide) l2
  have HB4 : Hid (halfB 16 v3 v4 < 18446744073709551616) := halfB_lt (by decide) l4
  clear l1 l2 l3 l4
  go_enter Try.func76, Try.ntmps76
  go_wp2
  go_quiet (fail)
  go_wp2_with fail
  rw [show IntKind.u64.wrap ((v1 : Int) + (v2 : Int)) = ((halfA v1 v2 : Nat) : Int) from wrap_add _ _]
  refine (s_up v2 HL2.out 13 (by decide)).mono ?_
  rintro e w4 ⟨rfl, rfl⟩
  go_wp2_with fail
  rw [show bits .xor .u64 ((rot 13 (v2) : Nat) : Int) ((halfA (v1) (v2) : Nat) : Int) = ((halfB 13 (v1) (v2) : Nat) : Int) from xor_half (by decide) HL2.out]
  refine (s_up (halfA v1 v2) (halfA_lt _ _) 32 (by decide)).mono ?_
  rintro e w4 ⟨rfl, rfl⟩
  go_wp2_with fail
  rw [show IntKind.u64.wrap (((v3 : Nat) : Int) + ((v4 : Nat) : Int)) = ((halfA (v3) (v4) : Nat) : Int) from wrap_add _ _]
  refine (s_up (v4) (HL4.out) 16 (by decide)).mono ?_
  rintro e w4 ⟨rfl, rfl⟩
  go_wp2_with fail
  rw [show bits .xor .u64 ((rot 16 (v4) : Nat) : Int) ((halfA (v3) (v4) : Nat) : Int) = ((halfB 16 (v3) (v4) : Nat) : Int) from xor_half (by decide) HL4.out]
  rw [show IntKind.u64.wrap (((rot 32 (halfA v1 v2) : Nat) : Int) + ((halfB 16 v3 v4 : Nat) : Int)) = ((halfA (rot 32 (halfA v1 v2)) (halfB 16 v3 v4) : Nat) : Int) from wrap_add _ _]
  refine (s_up (halfB 16 v3 v4) (HB4.out) 21 (by decide)).mono ?_
  rintro e w4 ⟨rfl, rfl⟩
  go_wp2_with fail
  rw [show bits .xor .u64 ((rot 21 (halfB 16 v3 v4) : Nat) : Int) ((halfA (rot 32 (halfA v1 v2)) (halfB 16 v3 v4) : Nat) : Int) = ((halfB 21 (rot 32 (halfA v1 v2)) (halfB 16 v3 v4) : Nat) : Int) from xor_half (by decide) HB4.out]
  rw [show IntKind.u64.wrap (((halfA v3 v4 : Nat) : Int) + ((halfB 13 v1 v2 : Nat) : Int)) = ((halfA (halfA v3 v4) (halfB 13 v1 v2) : Nat) : Int) from wrap_add _ _]
  refine (s_up (halfB 13 v1 v2) (HB2.out) 17 (by decide)).mono ?_
  rintro e w4 ⟨rfl, rfl⟩
  go_wp2_with fail
  rw [show bits .xor .u64 ((rot 17 (halfB 13 v1 v2) : Nat) : Int) ((halfA (halfA v3 v4) (halfB 13 v1 v2) : Nat) : Int) = ((halfB 17 (halfA v3 v4) (halfB 13 v1 v2) : Nat) : Int) from xor_half (by decide) HB2.out]
  refine (s_up (halfA (halfA v3 v4) (halfB 13 v1 v2)) (halfA_lt _ _) 32 (by decide)).mono ?_
  rintro e w4 ⟨rfl, rfl⟩
  go_wp2
  have hrow := set4_row (alloc2_row w (.cells #[.int .u64 v1, .int .u64 v2, .int .u64 v3, .int .u64 v4] 138) (.cells #[.int .u64 0, .int .u64 0, .int .u64 0, .int .u64 0] 138) nq) (.int .u64 (halfA (rot 32 (halfA v1 v2)) (halfB 16 v3 v4))) (.int .u64 (halfB 17 (halfA v3 v4) (halfB 13 v1 v2))) (.int .u64 (rot 32 (halfA (halfA v3 v4) (halfB 13 v1 v2)))) (.int .u64 (halfB 21 (rot 32 (halfA v1 v2)) (halfB 16 v3 v4)))
  have hchg := set4_chg (alloc2_chg w (.cells #[.int .u64 v1, .int .u64 v2, .int .u64 v3, .int .u64 v4] 138) (.cells #[.int .u64 0, .int .u64 0, .int .u64 0, .int .u64 0] 138) nq) (r := w.heap.size + 1) (.inr (Nat.le_succ _)) (.int .u64 (halfA (rot 32 (halfA v1 v2)) (halfB 16 v3 v4))) (.int .u64 (halfB 17 (halfA v3 v4) (halfB 13 v1 v2))) (.int .u64 (rot 32 (halfA (halfA v3 v4) (halfB 13 v1 v2)))) (.int .u64 (halfB 21 (rot 32 (halfA v1 v2)) (halfB 16 v3 v4)))
  unfold set4 at hrow hchg
  generalize (World.setCell _ (⟨w.heap.size + 1, 3, none⟩ : Addr) _) = w9 at hrow hchg ⊢
  obtain ⟨⟨q0, q1, q2, q3⟩, _⟩ := row4_cells hrow
  refine bodyPost_ret (by simp [results, Try.results76, go_sem, q0, q1, q2, q3]; rfl) rfl ?_
  exact ⟨rfl, hchg⟩
end Go.Proofs.Ytcibdcahcpcmaaa
