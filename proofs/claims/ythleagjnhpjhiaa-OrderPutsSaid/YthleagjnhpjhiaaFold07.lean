import Derived.Test.YthleagjnhpjhiaaFold06
import Derived.Laws.EntriesVeiled
import Derived.Laws.Pointers
import Derived.Deep.CutRange
import Derived.Deep.DeepCutAuto
/- Orders: the rows of closures that a command's fields have. -/
namespace Go.Proofs.Ythleagjnhpjhiaa
open Go.RowKit
set_option linter.unusedVariables false
set_option linter.unusedSimpArgs false
set_option maxRecDepth 100000
/-- A closure over one boxed pointer. -/
def clo (n p : Nat) : Value := .func (.func n) #[] #[.pointer (some ⟨p, 0, none⟩)]
/-- The box. -/
def PtrBox (w : World) (p : Nat) (a : Addr) : Prop := ∃ t, w.heap[p]? = some (.cells #[.pointer (some a)] t (0, 0))
theorem PtrBox.chg {w w' : World} {p : Nat} {a : Addr} {S : Nat → Prop} (h : PtrBox w p a) (hc : Chg S w w') (hp : ¬ S p) : PtrBox w' p a := by
  obtain ⟨t, h⟩ := h
  exact ⟨t, hc.heap h hp⟩
theorem PtrBox.new {w w' : World} {p : Nat} {a : Addr} (h : PtrBox w p a) (hc : Chg nob w w') : PtrBox w' p a := h.chg hc (not_nob p)
theorem PtrBox.cell {w : World} {p : Nat} {a : Addr} (h : PtrBox w p a) : w.cell? ⟨p, 0, none⟩ = some (.pointer (some a)) := by
  obtain ⟨t, h⟩ := h
  rw [cell_of_row _ _ _ _ _ _ h]
  rfl
theorem PtrBox.lt {w : World} {p : Nat} {a : Addr} (h : PtrBox w p a) : p < w.heap.size := by
  obtain ⟨t, h⟩ := h
  exact heap_lt h
/-- A closure over nothing. -/
def clz (n p : Nat) : Value := .func (.func n) #[] #[]
def Made4 (w : World) (a : Addr) (n1 n2 n3 : Nat) (f4 : Nat → Value) (e : Ending) (w' : World) : Prop :=
  ∃ p, e = .returned (.agg #[clo n1 p, clo n2 p, clo n3 p, f4 p]) ∧ PtrBox w' p a ∧ w.heap.size ≤ p ∧ Chg nob w w'
set_option maxHeartbeats 1000000 in
theorem o_number (w : World) (a : Addr) : Calls Try.prog 33 #[.pointer (some a)] w (Made4 w a 52 53 54 (clo 55)) := by
  have hb := heap_alloc_new w (.cells #[.pointer (some a)] 75)
  go_enter Try.func33, Try.ntmps33
  obtain ⟨w1, hw1⟩ : ∃ w1, w.alloc (.cells #[.pointer (some a)] 75) = w1 := ⟨_, rfl⟩
  have hc1 : Chg nob w w1 := by rw [← hw1]; exact (Chg.refl nob w).alloc _
  have hz1 : w1.heap.size = w.heap.size + 1 := by rw [← hw1]; simp
  rw [hw1] at hb
  have HW1 := Lib.hid hw1
  clear hw1
  go_upto_region 1 with fail
  rw [HW1.out]
  obtain ⟨g, hg⟩ : ∃ g, w.heap.size = g := ⟨_, rfl⟩
  rw [hg] at hb hz1 ⊢
  go_wp2
  try simp only [Exit.inBlock, Exit.then]
  have hx := heap_alloc_new w1 (.cells #[clo 52 g, clo 53 g, clo 54 g, clo 55 g] 49)
  rw [hz1] at hx
  have hc2 := (Chg.refl nob w1).alloc (.cells #[clo 52 g, clo 53 g, clo 54 g, clo 55 g] 49)
  refine bodyPost_ret (results_cell_row rfl _ _ (g + 1) _ _ (0, 0) _ rfl hx Try.underlying49 rfl (by kernel_rfl)) rfl ?_
  exact ⟨g, rfl, ⟨_, hc2.heap hb (not_nob _)⟩, by rw [hg]; exact Nat.le_refl _, hc1.thenNew hc2⟩
set_option maxHeartbeats 1000000 in
theorem o_text (w : World) (a : Addr) : Calls Try.prog 34 #[.pointer (some a)] w (Made4 w a 56 58 60 (clo 61)) := by
  have hb := heap_alloc_new w (.cells #[.pointer (some a)] 77)
  go_enter Try.func34, Try.ntmps34
  obtain ⟨w1, hw1⟩ : ∃ w1, w.alloc (.cells #[.pointer (some a)] 77) = w1 := ⟨_, rfl⟩
  have hc1 : Chg nob w w1 := by rw [← hw1]; exact (Chg.refl nob w).alloc _
  have hz1 : w1.heap.size = w.heap.size + 1 := by rw [← hw1]; simp
  rw [hw1] at hb
  have HW1 := Lib.hid hw1
  clear hw1
  go_upto_region 1 with fail
  rw [HW1.out]
  obtain ⟨g, hg⟩ : ∃ g, w.heap.size = g := ⟨_, rfl⟩
  rw [hg] at hb hz1 ⊢
  go_wp2
  try simp only [Exit.inBlock, Exit.then]
  have hx := heap_alloc_new w1 (.cells #[clo 56 g, clo 58 g, clo 60 g, clo 61 g] 49)
  rw [hz1] at hx
  have hc2 := (Chg.refl nob w1).alloc (.cells #[clo 56 g, clo 58 g, clo 60 g, clo 61 g] 49)
  refine bodyPost_ret (results_cell_row rfl _ _ (g + 1) _ _ (0, 0) _ rfl hx Try.underlying49 rfl (by kernel_rfl)) rfl ?_
  exact ⟨g, rfl, ⟨_, hc2.heap hb (not_nob _)⟩, by rw [hg]; exact Nat.le_refl _, hc1.thenNew hc2⟩
set_option maxHeartbeats 1000000 in
theorem o_texts (w : World) (a : Addr) : Calls Try.prog 35 #[.pointer (some a)] w (Made4 w a 62 64 66 (clo 67)) := by
  have hb := heap_alloc_new w (.cells #[.pointer (some a)] 79)
  go_enter Try.func35, Try.ntmps35
  obtain ⟨w1, hw1⟩ : ∃ w1, w.alloc (.cells #[.pointer (some a)] 79) = w1 := ⟨_, rfl⟩
  have hc1 : Chg nob w w1 := by rw [← hw1]; exact (Chg.refl nob w).alloc _
  have hz1 : w1.heap.size = w.heap.size + 1 := by rw [← hw1]; simp
  rw [hw1] at hb
  have HW1 := Lib.hid hw1
  clear hw1
  go_upto_region 1 with fail
  rw [HW1.out]
  obtain ⟨g, hg⟩ : ∃ g, w.heap.size = g := ⟨_, rfl⟩
  rw [hg] at hb hz1 ⊢
  go_wp2
  try simp only [Exit.inBlock, Exit.then]
  have hx := heap_alloc_new w1 (.cells #[clo 62 g, clo 64 g, clo 66 g, clo 67 g] 49)
  rw [hz1] at hx
  have hc2 := (Chg.refl nob w1).alloc (.cells #[clo 62 g, clo 64 g, clo 66 g, clo 67 g] 49)
  refine bodyPost_ret (results_cell_row rfl _ _ (g + 1) _ _ (0, 0) _ rfl hx Try.underlying49 rfl (by kernel_rfl)) rfl ?_
  exact ⟨g, rfl, ⟨_, hc2.heap hb (not_nob _)⟩, by rw [hg]; exact Nat.le_refl _, hc1.thenNew hc2⟩
set_option maxHeartbeats 1000000 in
theorem o_flag (w : World) (a : Addr) : Calls Try.prog 36 #[.pointer (some a)] w (Made4 w a 68 70 72 (clz 73)) := by
  have hb := heap_alloc_new w (.cells #[.pointer (some a)] 81)
  go_enter Try.func36, Try.ntmps36
  obtain ⟨w1, hw1⟩ : ∃ w1, w.alloc (.cells #[.pointer (some a)] 81) = w1 := ⟨_, rfl⟩
  have hc1 : Chg nob w w1 := by rw [← hw1]; exact (Chg.refl nob w).alloc _
  have hz1 : w1.heap.size = w.heap.size + 1 := by rw [← hw1]; simp
  rw [hw1] at hb
  have HW1 := Lib.hid hw1
  clear hw1
  go_upto_region 1 with fail
  rw [HW1.out]
  obtain ⟨g, hg⟩ : ∃ g, w.heap.size = g := ⟨_, rfl⟩
  rw [hg] at hb hz1 ⊢
  go_wp2
  try simp only [Exit.inBlock, Exit.then]
  have hx := heap_alloc_new w1 (.cells #[clo 68 g, clo 70 g, clo 72 g, clz 73 g] 49)
  rw [hz1] at hx
  have hc2 := (Chg.refl nob w1).alloc (.cells #[clo 68 g, clo 70 g, clo 72 g, clz 73 g] 49)
  refine bodyPost_ret (results_cell_row rfl _ _ (g + 1) _ _ (0, 0) _ rfl hx Try.underlying49 rfl (by kernel_rfl)) rfl ?_
  exact ⟨g, rfl, ⟨_, hc2.heap hb (not_nob _)⟩, by rw [hg]; exact Nat.le_refl _, hc1.thenNew hc2⟩
set_option maxHeartbeats 1000000 in
theorem o_long (w : World) (a : Addr) : Calls Try.prog 37 #[.pointer (some a)] w (Made4 w a 74 75 76 (clz 77)) := by
  have hb := heap_alloc_new w (.cells #[.pointer (some a)] 83)
  go_enter Try.func37, Try.ntmps37
  obtain ⟨w1, hw1⟩ : ∃ w1, w.alloc (.cells #[.pointer (some a)] 83) = w1 := ⟨_, rfl⟩
  have hc1 : Chg nob w w1 := by rw [← hw1]; exact (Chg.refl nob w).alloc _
  have hz1 : w1.heap.size = w.heap.size + 1 := by rw [← hw1]; simp
  rw [hw1] at hb
  have HW1 := Lib.hid hw1
  clear hw1
  go_upto_region 1 with fail
  rw [HW1.out]
  obtain ⟨g, hg⟩ : ∃ g, w.heap.size = g := ⟨_, rfl⟩
  rw [hg] at hb hz1 ⊢
  go_wp2
  try simp only [Exit.inBlock, Exit.then]
  have hx := heap_alloc_new w1 (.cells #[clo 74 g, clo 75 g, clo 76 g, clz 77 g] 49)
  rw [hz1] at hx
  have hc2 := (Chg.refl nob w1).alloc (.cells #[clo 74 g, clo 75 g, clo 76 g, clz 77 g] 49)
  refine bodyPost_ret (results_cell_row rfl _ _ (g + 1) _ _ (0, 0) _ rfl hx Try.underlying49 rfl (by kernel_rfl)) rfl ?_
  exact ⟨g, rfl, ⟨_, hc2.heap hb (not_nob _)⟩, by rw [hg]; exact Nat.le_refl _, hc1.thenNew hc2⟩
set_option maxHeartbeats 1000000 in
theorem o_commands (w : World) (a : Addr) : Calls Try.prog 38 #[.pointer (some a)] w (Made4 w a 78 79 80 (clo 81)) := by
  have hb := heap_alloc_new w (.cells #[.pointer (some a)] 85)
  go_enter Try.func38, Try.ntmps38
  obtain ⟨w1, hw1⟩ : ∃ w1, w.alloc (.cells #[.pointer (some a)] 85) = w1 := ⟨_, rfl⟩
  have hc1 : Chg nob w w1 := by rw [← hw1]; exact (Chg.refl nob w).alloc _
  have hz1 : w1.heap.size = w.heap.size + 1 := by rw [← hw1]; simp
  rw [hw1] at hb
  have HW1 := Lib.hid hw1
  clear hw1
  go_upto_region 1 with fail
  rw [HW1.out]
  obtain ⟨g, hg⟩ : ∃ g, w.heap.size = g := ⟨_, rfl⟩
  rw [hg] at hb hz1 ⊢
  go_wp2
  try simp only [Exit.inBlock, Exit.then]
  have hx := heap_alloc_new w1 (.cells #[clo 78 g, clo 79 g, clo 80 g, clo 81 g] 49)
  rw [hz1] at hx
  have hc2 := (Chg.refl nob w1).alloc (.cells #[clo 78 g, clo 79 g, clo 80 g, clo 81 g] 49)
  refine bodyPost_ret (results_cell_row rfl _ _ (g + 1) _ _ (0, 0) _ rfl hx Try.underlying49 rfl (by kernel_rfl)) rfl ?_
  exact ⟨g, rfl, ⟨_, hc2.heap hb (not_nob _)⟩, by rw [hg]; exact Nat.le_refl _, hc1.thenNew hc2⟩
def fnN (k i : Nat) : Nat := ([[52, 53, 54, 55], [52, 53, 54, 55], [52, 53, 54, 55], [56, 58, 60, 61], [56, 58, 60, 61], [56, 58, 60, 61], [56, 58, 60, 61], [56, 58, 60, 61], [56, 58, 60, 61], [56, 58, 60, 61], [56, 58, 60, 61], [62, 64, 66, 67], [68, 70, 72, 73], [74, 75, 76, 77], [74, 75, 76, 77], [78, 79, 80, 81]].getD k []).getD i 0
/-- What a closure has at hand. -/
def capN (k i p : Nat) : Array Value := if i = 3 ∧ 12 ≤ k ∧ k ≤ 14 then #[] else #[.pointer (some ⟨p, 0, none⟩)]
def cl (k i p : Nat) : Value := .func (.func (fnN k i)) #[] (capN k i p)
def allV (ps : Nat → Nat) : Array Value := #[clo 52 (ps 0), clo 53 (ps 0), clo 54 (ps 0), clo 55 (ps 0), clo 52 (ps 1), clo 53 (ps 1), clo 54 (ps 1), clo 55 (ps 1), clo 52 (ps 2), clo 53 (ps 2), clo 54 (ps 2), clo 55 (ps 2), clo 56 (ps 3), clo 58 (ps 3), clo 60 (ps 3), clo 61 (ps 3), clo 56 (ps 4), clo 58 (ps 4), clo 60 (ps 4), clo 61 (ps 4), clo 56 (ps 5), clo 58 (ps 5), clo 60 (ps 5), clo 61 (ps 5), clo 56 (ps 6), clo 58 (ps 6), clo 60 (ps 6), clo 61 (ps 6), clo 56 (ps 7), clo 58 (ps 7), clo 60 (ps 7), clo 61 (ps 7), clo 56 (ps 8), clo 58 (ps 8), clo 60 (ps 8), clo 61 (ps 8), clo 56 (ps 9), clo 58 (ps 9), clo 60 (ps 9), clo 61 (ps 9), clo 56 (ps 10), clo 58 (ps 10), clo 60 (ps 10), clo 61 (ps 10), clo 62 (ps 11), clo 64 (ps 11), clo 66 (ps 11), clo 67 (ps 11), clo 68 (ps 12), clo 70 (ps 12), clo 72 (ps 12), clz 73 (ps 12), clo 74 (ps 13), clo 75 (ps 13), clo 76 (ps 13), clz 77 (ps 13), clo 74 (ps 14), clo 75 (ps 14), clo 76 (ps 14), clz 77 (ps 14), clo 78 (ps 15), clo 79 (ps 15), clo 80 (ps 15), clo 81 (ps 15)]
theorem allV_size (ps : Nat → Nat) : (allV ps).size = 64 := rfl
theorem allV_one (ps : Nat → Nat) : (allV ps).all (·.oneCell') = true := by kernel_rfl
/-- What 'all' leaves: the boxes point to the command's fields. -/
structure AllSt (w w' : World) (cb : Nat) (ps : Nat → Nat) : Prop where
  box : ∀ k, k < 16 → PtrBox w' (ps k) ⟨cb, k + 1, none⟩ ∧ w.heap.size ≤ ps k
  chg : Chg nob w w'
theorem AllSt.new {w w' w'' : World} {cb : Nat} {ps : Nat → Nat} (h : AllSt w w' cb ps) (hc : Chg nob w' w'') : AllSt w w'' cb ps := ⟨fun k hk => ⟨(h.box k hk).1.new hc, (h.box k hk).2⟩, h.chg.thenNew hc⟩
theorem idx_all (ps : Nat → Nat) (wx : World) {k : Nat} (hk : k < 16) : (Instr.index 50 (.agg (allV ps)) (.int .i64 k)).run Try.prog wx = .ok (.agg #[cl k 0 (ps k), cl k 1 (ps k), cl k 2 (ps k), cl k 3 (ps k)]) wx := by
  have u := Try.underlying50
  have z := Try.sizeOf49
  have g := Try.isAgg49
  have hk2 : k = 0 ∨ k = 1 ∨ k = 2 ∨ k = 3 ∨ k = 4 ∨ k = 5 ∨ k = 6 ∨ k = 7 ∨ k = 8 ∨ k = 9 ∨ k = 10 ∨ k = 11 ∨ k = 12 ∨ k = 13 ∨ k = 14 ∨ k = 15 := by omega
  rcases hk2 with h | h | h | h | h | h | h | h | h | h | h | h | h | h | h | h <;> (rw [h]; simp [Instr.index, run_underlying u, asIntOf, go_sem, part, z, g]; rfl)
theorem ps16 {p0 p1 p2 p3 p4 p5 p6 p7 p8 p9 p10 p11 p12 p13 p14 p15 : Nat} : ∃ ps : Nat → Nat, ps 0 = p0 ∧ ps 1 = p1 ∧ ps 2 = p2 ∧ ps 3 = p3 ∧ ps 4 = p4 ∧ ps 5 = p5 ∧ ps 6 = p6 ∧ ps 7 = p7 ∧ ps 8 = p8 ∧ ps 9 = p9 ∧ ps 10 = p10 ∧ ps 11 = p11 ∧ ps 12 = p12 ∧ ps 13 = p13 ∧ ps 14 = p14 ∧ ps 15 = p15 := ⟨fun k => [p0, p1, p2, p3, p4, p5, p6, p7, p8, p9, p10, p11, p12, p13, p14, p15].getD k 0, rfl, rfl, rfl, rfl, rfl, rfl, rfl, rfl, rfl, rfl, rfl, rfl, rfl, rfl, rfl, rfl⟩
structure Boxes (w : World) (cb b0 : Nat) (l : List Nat) : Prop where
  at_ : ∀ (j p : Nat), l[j]? = some p → PtrBox w p ⟨cb, j + 1, none⟩ ∧ b0 ≤ p
theorem Boxes.snoc {w w' : World} {cb b0 p : Nat} {l : List Nat} (h : Boxes w cb b0 l) (hc : Chg nob w w') (hp : PtrBox w' p ⟨cb, l.length + 1, none⟩) (hl : b0 ≤ p) : Boxes w' cb b0 (l ++ [p]) := by
  refine ⟨fun j q hq => ?_⟩
  rcases Nat.lt_or_ge j l.length with hj | hj
  · rw [List.getElem?_append_left hj] at hq
    exact ⟨(h.at_ j q hq).1.new hc, (h.at_ j q hq).2⟩
  · rw [List.getElem?_append_right hj] at hq
    obtain ⟨k, hk⟩ : ∃ k, j - l.length = k := ⟨_, rfl⟩
    rw [hk] at hq
    cases k with
    | zero =>
      cases hq
      obtain rfl : j = l.length := by omega
      exact ⟨hp, hl⟩
    | succ k => cases hq
set_option maxHeartbeats 4000000 in
theorem o_all (w : World) (cb : Nat) : Calls Try.prog 17 #[.pointer (some ⟨cb, 0, none⟩)] w fun e w' => ∃ ps, e = .returned (.agg (allV ps)) ∧ AllSt w w' cb ps := by
  go_enter Try.func17, Try.ntmps17
  obtain ⟨w0, hw0⟩ : ∃ w0, w.alloc (.cells (Array.replicate 64 .nilFunc) 50) = w0 := ⟨_, rfl⟩
  have hb0 := heap_alloc_new w (.cells (Array.replicate 64 .nilFunc) 50)
  have hc0 : Chg nob w w0 := by rw [← hw0]; exact (Chg.refl nob w).alloc _
  rw [hw0] at hb0
  obtain ⟨g, hg⟩ : ∃ g, w.heap.size = g := ⟨_, rfl⟩
  rw [hg] at hb0
  have HB0 := Lib.hid hb0
  have HC0 := Lib.hid hc0
  have HG := Lib.hid hg
  have HW0 := Lib.hid hw0
  clear hb0 hc0 hw0
  go_upto_region 1 with fail
  try simp only [hg]
  show Code.wp _ _ _ _ (w.alloc (.cells (Array.replicate 64 .nilFunc) 50))
  rw [HW0.out]
  clear hg
  refine wp_region_held_drew (S := fun wx => True) (by kernel_rfl) (trivial) (fun hHeld => ?_)
  refine wpAnyH_take (i := 0) (v := ?_) pick0 (by kernel_rfl) (by kernel_rfl) (by kernel_rfl) (fun _ _ _ h => h) (Or.inl ⟨by rfl, ?_⟩) (by assumption) ?_
  rotate_left 1
  · (intro wx hSw; go_simp; try with_reducible rfl)
  try simp only [Act.put, List.setIfInBounds_toArray, List.set_cons_zero, List.set_cons_succ]
  refine wpAnyH_take (i := 1) (v := ?_) (pickS pick0) (by kernel_rfl) (by kernel_rfl) (by kernel_rfl) (fun _ _ _ h => h) (Or.inl ⟨by rfl, ?_⟩) (by assumption) ?_
  rotate_left 1
  · (intro wx hSw; go_simp; try with_reducible rfl)
  try simp only [Act.put, List.setIfInBounds_toArray, List.set_cons_zero, List.set_cons_succ]
  refine wpAnyH_take (i := 2) (v := ?_) (pickS (pickS pick0)) (by kernel_rfl) (by kernel_rfl) (by kernel_rfl) (fun _ _ _ h => h) (Or.inl ⟨by rfl, ?_⟩) (by assumption) ?_
  rotate_left 1
  · (intro wx hSw; go_simp; try with_reducible rfl)
  try simp only [Act.put, List.setIfInBounds_toArray, List.set_cons_zero, List.set_cons_succ]
  refine wpAnyH_take (i := 4) (v := ?_) (pickS (pickS (pickS (pickS pick0)))) (by kernel_rfl) (by kernel_rfl) (by kernel_rfl) (fun _ _ _ h => h) (Or.inl ⟨by rfl, ?_⟩) (by assumption) ?_
  rotate_left 1
  · (intro wx hSw; go_simp; try with_reducible rfl)
  try simp only [Act.put, List.setIfInBounds_toArray, List.set_cons_zero, List.set_cons_succ]
  refine wpAnyH_take (i := 5) (v := ?_) (pickS (pickS (pickS (pickS (pickS pick0))))) (by kernel_rfl) (by kernel_rfl) (by kernel_rfl) (fun _ _ _ h => h) (Or.inl ⟨by rfl, ?_⟩) (by assumption) ?_
  rotate_left 1
  · (intro wx hSw; go_simp; try with_reducible rfl)
  try simp only [Act.put, List.setIfInBounds_toArray, List.set_cons_zero, List.set_cons_succ]
  refine wpAnyH_take (i := 6) (v := ?_) (pickS (pickS (pickS (pickS (pickS (pickS pick0)))))) (by kernel_rfl) (by kernel_rfl) (by kernel_rfl) (fun _ _ _ h => h) (Or.inl ⟨by rfl, ?_⟩) (by assumption) ?_
  rotate_left 1
  · (intro wx hSw; go_simp; try with_reducible rfl)
  try simp only [Act.put, List.setIfInBounds_toArray, List.set_cons_zero, List.set_cons_succ]
  refine wpAnyH_take (i := 8) (v := ?_) (pickS (pickS (pickS (pickS (pickS (pickS (pickS (pickS pick0)))))))) (by kernel_rfl) (by kernel_rfl) (by kernel_rfl) (fun _ _ _ h => h) (Or.inl ⟨by rfl, ?_⟩) (by assumption) ?_
  rotate_left 1
  · (intro wx hSw; go_simp; try with_reducible rfl)
  try simp only [Act.put, List.setIfInBounds_toArray, List.set_cons_zero, List.set_cons_succ]
  refine wpAnyH_take (i := 9) (v := ?_) (pickS (pickS (pickS (pickS (pickS (pickS (pickS (pickS (pickS pick0))))))))) (by kernel_rfl) (by kernel_rfl) (by kernel_rfl) (fun _ _ _ h => h) (Or.inl ⟨by rfl, ?_⟩) (by assumption) ?_
  rotate_left 1
  · (intro wx hSw; go_simp; try with_reducible rfl)
  try simp only [Act.put, List.setIfInBounds_toArray, List.set_cons_zero, List.set_cons_succ]
  refine wpAnyH_take (i := 10) (v := ?_) (pickS (pickS (pickS (pickS (pickS (pickS (pickS (pickS (pickS (pickS pick0)))))))))) (by kernel_rfl) (by kernel_rfl) (by kernel_rfl) (fun _ _ _ h => h) (Or.inl ⟨by rfl, ?_⟩) (by assumption) ?_
  rotate_left 1
  · (intro wx hSw; go_simp; try with_reducible rfl)
  try simp only [Act.put, List.setIfInBounds_toArray, List.set_cons_zero, List.set_cons_succ]
  refine wpAnyH_take (i := 12) (v := ?_) (pickS (pickS (pickS (pickS (pickS (pickS (pickS (pickS (pickS (pickS (pickS (pickS pick0)))))))))))) (by kernel_rfl) (by kernel_rfl) (by kernel_rfl) (fun _ _ _ h => h) (Or.inl ⟨by rfl, ?_⟩) (by assumption) ?_
  rotate_left 1
  · (intro wx hSw; go_simp; try with_reducible rfl)
  try simp only [Act.put, List.setIfInBounds_toArray, List.set_cons_zero, List.set_cons_succ]
  refine wpAnyH_take (i := 13) (v := ?_) (pickS (pickS (pickS (pickS (pickS (pickS (pickS (pickS (pickS (pickS (pickS (pickS (pickS pick0))))))))))))) (by kernel_rfl) (by kernel_rfl) (by kernel_rfl) (fun _ _ _ h => h) (Or.inl ⟨by rfl, ?_⟩) (by assumption) ?_
  rotate_left 1
  · (intro wx hSw; go_simp; try with_reducible rfl)
  try simp only [Act.put, List.setIfInBounds_toArray, List.set_cons_zero, List.set_cons_succ]
  refine wpAnyH_take (i := 14) (v := ?_) (pickS (pickS (pickS (pickS (pickS (pickS (pickS (pickS (pickS (pickS (pickS (pickS (pickS (pickS pick0)))))))))))))) (by kernel_rfl) (by kernel_rfl) (by kernel_rfl) (fun _ _ _ h => h) (Or.inl ⟨by rfl, ?_⟩) (by assumption) ?_
  rotate_left 1
  · (intro wx hSw; go_simp; try with_reducible rfl)
  try simp only [Act.put, List.setIfInBounds_toArray, List.set_cons_zero, List.set_cons_succ]
  refine wpAnyH_take (i := 16) (v := ?_) (pickS (pickS (pickS (pickS (pickS (pickS (pickS (pickS (pickS (pickS (pickS (pickS (pickS (pickS (pickS (pickS pick0)))))))))))))))) (by kernel_rfl) (by kernel_rfl) (by kernel_rfl) (fun _ _ _ h => h) (Or.inl ⟨by rfl, ?_⟩) (by assumption) ?_
  rotate_left 1
  · (intro wx hSw; go_simp; try with_reducible rfl)
  try simp only [Act.put, List.setIfInBounds_toArray, List.set_cons_zero, List.set_cons_succ]
  refine wpAnyH_take (i := 17) (v := ?_) (pickS (pickS (pickS (pickS (pickS (pickS (pickS (pickS (pickS (pickS (pickS (pickS (pickS (pickS (pickS (pickS (pickS pick0))))))))))))))))) (by kernel_rfl) (by kernel_rfl) (by kernel_rfl) (fun _ _ _ h => h) (Or.inl ⟨by rfl, ?_⟩) (by assumption) ?_
  rotate_left 1
  · (intro wx hSw; go_simp; try with_reducible rfl)
  try simp only [Act.put, List.setIfInBounds_toArray, List.set_cons_zero, List.set_cons_succ]
  refine wpAnyH_take (i := 18) (v := ?_) (pickS (pickS (pickS (pickS (pickS (pickS (pickS (pickS (pickS (pickS (pickS (pickS (pickS (pickS (pickS (pickS (pickS (pickS pick0)))))))))))))))))) (by kernel_rfl) (by kernel_rfl) (by kernel_rfl) (fun _ _ _ h => h) (Or.inl ⟨by rfl, ?_⟩) (by assumption) ?_
  rotate_left 1
  · (intro wx hSw; go_simp; try with_reducible rfl)
  try simp only [Act.put, List.setIfInBounds_toArray, List.set_cons_zero, List.set_cons_succ]
  refine wpAnyH_take (i := 20) (v := ?_) (pickS (pickS (pickS (pickS (pickS (pickS (pickS (pickS (pickS (pickS (pickS (pickS (pickS (pickS (pickS (pickS (pickS (pickS (pickS (pickS pick0)))))))))))))))))))) (by kernel_rfl) (by kernel_rfl) (by kernel_rfl) (fun _ _ _ h => h) (Or.inl ⟨by rfl, ?_⟩) (by assumption) ?_
  rotate_left 1
  · (intro wx hSw; go_simp; try with_reducible rfl)
  try simp only [Act.put, List.setIfInBounds_toArray, List.set_cons_zero, List.set_cons_succ]
  refine wpAnyH_take (i := 21) (v := ?_) (pickS (pickS (pickS (pickS (pickS (pickS (pickS (pickS (pickS (pickS (pickS (pickS (pickS (pickS (pickS (pickS (pickS (pickS (pickS (pickS (pickS pick0))))))))))))))))))))) (by kernel_rfl) (by kernel_rfl) (by kernel_rfl) (fun _ _ _ h => h) (Or.inl ⟨by rfl, ?_⟩) (by assumption) ?_
  rotate_left 1
  · (intro wx hSw; go_simp; try with_reducible rfl)
  try simp only [Act.put, List.setIfInBounds_toArray, List.set_cons_zero, List.set_cons_succ]
  refine wpAnyH_take (i := 22) (v := ?_) (pickS (pickS (pickS (pickS (pickS (pickS (pickS (pickS (pickS (pickS (pickS (pickS (pickS (pickS (pickS (pickS (pickS (pickS (pickS (pickS (pickS (pickS pick0)))))))))))))))))))))) (by kernel_rfl) (by kernel_rfl) (by kernel_rfl) (fun _ _ _ h => h) (Or.inl ⟨by rfl, ?_⟩) (by assumption) ?_
  rotate_left 1
  · (intro wx hSw; go_simp; try with_reducible rfl)
  try simp only [Act.put, List.setIfInBounds_toArray, List.set_cons_zero, List.set_cons_succ]
  refine wpAnyH_take (i := 24) (v := ?_) (pickS (pickS (pickS (pickS (pickS (pickS (pickS (pickS (pickS (pickS (pickS (pickS (pickS (pickS (pickS (pickS (pickS (pickS (pickS (pickS (pickS (pickS (pickS (pickS pick0)))))))))))))))))))))))) (by kernel_rfl) (by kernel_rfl) (by kernel_rfl) (fun _ _ _ h => h) (Or.inl ⟨by rfl, ?_⟩) (by assumption) ?_
  rotate_left 1
  · (intro wx hSw; go_simp; try with_reducible rfl)
  try simp only [Act.put, List.setIfInBounds_toArray, List.set_cons_zero, List.set_cons_succ]
  refine wpAnyH_take (i := 25) (v := ?_) (pickS (pickS (pickS (pickS (pickS (pickS (pickS (pickS (pickS (pickS (pickS (pickS (pickS (pickS (pickS (pickS (pickS (pickS (pickS (pickS (pickS (pickS (pickS (pickS (pickS pick0))))))))))))))))))))))))) (by kernel_rfl) (by kernel_rfl) (by kernel_rfl) (fun _ _ _ h => h) (Or.inl ⟨by rfl, ?_⟩) (by assumption) ?_
  rotate_left 1
  · (intro wx hSw; go_simp; try with_reducible rfl)
  try simp only [Act.put, List.setIfInBounds_toArray, List.set_cons_zero, List.set_cons_succ]
  refine wpAnyH_take (i := 26) (v := ?_) (pickS (pickS (pickS (pickS (pickS (pickS (pickS (pickS (pickS (pickS (pickS (pickS (pickS (pickS (pickS (pickS (pickS (pickS (pickS (pickS (pickS (pickS (pickS (pickS (pickS (pickS pick0)))))))))))))))))))))))))) (by kernel_rfl) (by kernel_rfl) (by kernel_rfl) (fun _ _ _ h => h) (Or.inl ⟨by rfl, ?_⟩) (by assumption) ?_
  rotate_left 1
  · (intro wx hSw; go_simp; try with_reducible rfl)
  try simp only [Act.put, List.setIfInBounds_toArray, List.set_cons_zero, List.set_cons_succ]
  refine wpAnyH_take (i := 28) (v := ?_) (pickS (pickS (pickS (pickS (pickS (pickS (pickS (pickS (pickS (pickS (pickS (pickS (pickS (pickS (pickS (pickS (pickS (pickS (pickS (pickS (pickS (pickS (pickS (pickS (pickS (pickS (pickS (pickS pick0)))))))))))))))))))))))))))) (by kernel_rfl) (by kernel_rfl) (by kernel_rfl) (fun _ _ _ h => h) (Or.inl ⟨by rfl, ?_⟩) (by assumption) ?_
  rotate_left 1
  · (intro wx hSw; go_simp; try with_reducible rfl)
  try simp only [Act.put, List.setIfInBounds_toArray, List.set_cons_zero, List.set_cons_succ]
  refine wpAnyH_take (i := 29) (v := ?_) (pickS (pickS (pickS (pickS (pickS (pickS (pickS (pickS (pickS (pickS (pickS (pickS (pickS (pickS (pickS (pickS (pickS (pickS (pickS (pickS (pickS (pickS (pickS (pickS (pickS (pickS (pickS (pickS (pickS pick0))))))))))))))))))))))))))))) (by kernel_rfl) (by kernel_rfl) (by kernel_rfl) (fun _ _ _ h => h) (Or.inl ⟨by rfl, ?_⟩) (by assumption) ?_
  rotate_left 1
  · (intro wx hSw; go_simp; try with_reducible rfl)
  try simp only [Act.put, List.setIfInBounds_toArray, List.set_cons_zero, List.set_cons_succ]
  refine wpAnyH_take (i := 30) (v := ?_) (pickS (pickS (pickS (pickS (pickS (pickS (pickS (pickS (pickS (pickS (pickS (pickS (pickS (pickS (pickS (pickS (pickS (pickS (pickS (pickS (pickS (pickS (pickS (pickS (pickS (pickS (pickS (pickS (pickS (pickS pick0)))))))))))))))))))))))))))))) (by kernel_rfl) (by kernel_rfl) (by kernel_rfl) (fun _ _ _ h => h) (Or.inl ⟨by rfl, ?_⟩) (by assumption) ?_
  rotate_left 1
  · (intro wx hSw; go_simp; try with_reducible rfl)
  try simp only [Act.put, List.setIfInBounds_toArray, List.set_cons_zero, List.set_cons_succ]
  refine wpAnyH_take (i := 32) (v := ?_) (pickS (pickS (pickS (pickS (pickS (pickS (pickS (pickS (pickS (pickS (pickS (pickS (pickS (pickS (pickS (pickS (pickS (pickS (pickS (pickS (pickS (pickS (pickS (pickS (pickS (pickS (pickS (pickS (pickS (pickS (pickS (pickS pick0)))))))))))))))))))))))))))))))) (by kernel_rfl) (by kernel_rfl) (by kernel_rfl) (fun _ _ _ h => h) (Or.inl ⟨by rfl, ?_⟩) (by assumption) ?_
  rotate_left 1
  · (intro wx hSw; go_simp; try with_reducible rfl)
  try simp only [Act.put, List.setIfInBounds_toArray, List.set_cons_zero, List.set_cons_succ]
  refine wpAnyH_take (i := 33) (v := ?_) (pickS (pickS (pickS (pickS (pickS (pickS (pickS (pickS (pickS (pickS (pickS (pickS (pickS (pickS (pickS (pickS (pickS (pickS (pickS (pickS (pickS (pickS (pickS (pickS (pickS (pickS (pickS (pickS (pickS (pickS (pickS (pickS (pickS pick0))))))))))))))))))))))))))))))))) (by kernel_rfl) (by kernel_rfl) (by kernel_rfl) (fun _ _ _ h => h) (Or.inl ⟨by rfl, ?_⟩) (by assumption) ?_
  rotate_left 1
  · (intro wx hSw; go_simp; try with_reducible rfl)
  try simp only [Act.put, List.setIfInBounds_toArray, List.set_cons_zero, List.set_cons_succ]
  refine wpAnyH_take (i := 34) (v := ?_) (pickS (pickS (pickS (pickS (pickS (pickS (pickS (pickS (pickS (pickS (pickS (pickS (pickS (pickS (pickS (pickS (pickS (pickS (pickS (pickS (pickS (pickS (pickS (pickS (pickS (pickS (pickS (pickS (pickS (pickS (pickS (pickS (pickS (pickS pick0)))))))))))))))))))))))))))))))))) (by kernel_rfl) (by kernel_rfl) (by kernel_rfl) (fun _ _ _ h => h) (Or.inl ⟨by rfl, ?_⟩) (by assumption) ?_
  rotate_left 1
  · (intro wx hSw; go_simp; try with_reducible rfl)
  try simp only [Act.put, List.setIfInBounds_toArray, List.set_cons_zero, List.set_cons_succ]
  refine wpAnyH_take (i := 36) (v := ?_) (pickS (pickS (pickS (pickS (pickS (pickS (pickS (pickS (pickS (pickS (pickS (pickS (pickS (pickS (pickS (pickS (pickS (pickS (pickS (pickS (pickS (pickS (pickS (pickS (pickS (pickS (pickS (pickS (pickS (pickS (pickS (pickS (pickS (pickS (pickS (pickS pick0)))))))))))))))))))))))))))))))))))) (by kernel_rfl) (by kernel_rfl) (by kernel_rfl) (fun _ _ _ h => h) (Or.inl ⟨by rfl, ?_⟩) (by assumption) ?_
  rotate_left 1
  · (intro wx hSw; go_simp; try with_reducible rfl)
  try simp only [Act.put, List.setIfInBounds_toArray, List.set_cons_zero, List.set_cons_succ]
  refine wpAnyH_take (i := 37) (v := ?_) (pickS (pickS (pickS (pickS (pickS (pickS (pickS (pickS (pickS (pickS (pickS (pickS (pickS (pickS (pickS (pickS (pickS (pickS (pickS (pickS (pickS (pickS (pickS (pickS (pickS (pickS (pickS (pickS (pickS (pickS (pickS (pickS (pickS (pickS (pickS (pickS (pickS pick0))))))))))))))))))))))))))))))))))))) (by kernel_rfl) (by kernel_rfl) (by kernel_rfl) (fun _ _ _ h => h) (Or.inl ⟨by rfl, ?_⟩) (by assumption) ?_
  rotate_left 1
  · (intro wx hSw; go_simp; try with_reducible rfl)
  try simp only [Act.put, List.setIfInBounds_toArray, List.set_cons_zero, List.set_cons_succ]
  refine wpAnyH_take (i := 38) (v := ?_) (pickS (pickS (pickS (pickS (pickS (pickS (pickS (pickS (pickS (pickS (pickS (pickS (pickS (pickS (pickS (pickS (pickS (pickS (pickS (pickS (pickS (pickS (pickS (pickS (pickS (pickS (pickS (pickS (pickS (pickS (pickS (pickS (pickS (pickS (pickS (pickS (pickS (pickS pick0)))))))))))))))))))))))))))))))))))))) (by kernel_rfl) (by kernel_rfl) (by kernel_rfl) (fun _ _ _ h => h) (Or.inl ⟨by rfl, ?_⟩) (by assumption) ?_
  rotate_left 1
  · (intro wx hSw; go_simp; try with_reducible rfl)
  try simp only [Act.put, List.setIfInBounds_toArray, List.set_cons_zero, List.set_cons_succ]
  refine wpAnyH_take (i := 40) (v := ?_) (pickS (pickS (pickS (pickS (pickS (pickS (pickS (pickS (pickS (pickS (pickS (pickS (pickS (pickS (pickS (pickS (pickS (pickS (pickS (pickS (pickS (pickS (pickS (pickS (pickS (pickS (pickS (pickS (pickS (pickS (pickS (pickS (pickS (pickS (pickS (pickS (pickS (pickS (pickS (pickS pick0)))))))))))))))))))))))))))))))))))))))) (by kernel_rfl) (by kernel_rfl) (by kernel_rfl) (fun _ _ _ h => h) (Or.inl ⟨by rfl, ?_⟩) (by assumption) ?_
  rotate_left 1
  · (intro wx hSw; go_simp; try with_reducible rfl)
  try simp only [Act.put, List.setIfInBounds_toArray, List.set_cons_zero, List.set_cons_succ]
  refine wpAnyH_take (i := 41) (v := ?_) (pickS (pickS (pickS (pickS (pickS (pickS (pickS (pickS (pickS (pickS (pickS (pickS (pickS (pickS (pickS (pickS (pickS (pickS (pickS (pickS (pickS (pickS (pickS (pickS (pickS (pickS (pickS (pickS (pickS (pickS (pickS (pickS (pickS (pickS (pickS (pickS (pickS (pickS (pickS (pickS (pickS pick0))))))))))))))))))))))))))))))))))))))))) (by kernel_rfl) (by kernel_rfl) (by kernel_rfl) (fun _ _ _ h => h) (Or.inl ⟨by rfl, ?_⟩) (by assumption) ?_
  rotate_left 1
  · (intro wx hSw; go_simp; try with_reducible rfl)
  try simp only [Act.put, List.setIfInBounds_toArray, List.set_cons_zero, List.set_cons_succ]
  refine wpAnyH_take (i := 42) (v := ?_) (pickS (pickS (pickS (pickS (pickS (pickS (pickS (pickS (pickS (pickS (pickS (pickS (pickS (pickS (pickS (pickS (pickS (pickS (pickS (pickS (pickS (pickS (pickS (pickS (pickS (pickS (pickS (pickS (pickS (pickS (pickS (pickS (pickS (pickS (pickS (pickS (pickS (pickS (pickS (pickS (pickS (pickS pick0)))))))))))))))))))))))))))))))))))))))))) (by kernel_rfl) (by kernel_rfl) (by kernel_rfl) (fun _ _ _ h => h) (Or.inl ⟨by rfl, ?_⟩) (by assumption) ?_
  rotate_left 1
  · (intro wx hSw; go_simp; try with_reducible rfl)
  try simp only [Act.put, List.setIfInBounds_toArray, List.set_cons_zero, List.set_cons_succ]
  refine wpAnyH_take (i := 44) (v := ?_) (pickS (pickS (pickS (pickS (pickS (pickS (pickS (pickS (pickS (pickS (pickS (pickS (pickS (pickS (pickS (pickS (pickS (pickS (pickS (pickS (pickS (pickS (pickS (pickS (pickS (pickS (pickS (pickS (pickS (pickS (pickS (pickS (pickS (pickS (pickS (pickS (pickS (pickS (pickS (pickS (pickS (pickS (pickS (pickS pick0)))))))))))))))))))))))))))))))))))))))))))) (by kernel_rfl) (by kernel_rfl) (by kernel_rfl) (fun _ _ _ h => h) (Or.inl ⟨by rfl, ?_⟩) (by assumption) ?_
  rotate_left 1
  · (intro wx hSw; go_simp; try with_reducible rfl)
  try simp only [Act.put, List.setIfInBounds_toArray, List.set_cons_zero, List.set_cons_succ]
  refine wpAnyH_take (i := 45) (v := ?_) (pickS (pickS (pickS (pickS (pickS (pickS (pickS (pickS (pickS (pickS (pickS (pickS (pickS (pickS (pickS (pickS (pickS (pickS (pickS (pickS (pickS (pickS (pickS (pickS (pickS (pickS (pickS (pickS (pickS (pickS (pickS (pickS (pickS (pickS (pickS (pickS (pickS (pickS (pickS (pickS (pickS (pickS (pickS (pickS (pickS pick0))))))))))))))))))))))))))))))))))))))))))))) (by kernel_rfl) (by kernel_rfl) (by kernel_rfl) (fun _ _ _ h => h) (Or.inl ⟨by rfl, ?_⟩) (by assumption) ?_
  rotate_left 1
  · (intro wx hSw; go_simp; try with_reducible rfl)
  try simp only [Act.put, List.setIfInBounds_toArray, List.set_cons_zero, List.set_cons_succ]
  refine wpAnyH_take (i := 46) (v := ?_) (pickS (pickS (pickS (pickS (pickS (pickS (pickS (pickS (pickS (pickS (pickS (pickS (pickS (pickS (pickS (pickS (pickS (pickS (pickS (pickS (pickS (pickS (pickS (pickS (pickS (pickS (pickS (pickS (pickS (pickS (pickS (pickS (pickS (pickS (pickS (pickS (pickS (pickS (pickS (pickS (pickS (pickS (pickS (pickS (pickS (pickS pick0)))))))))))))))))))))))))))))))))))))))))))))) (by kernel_rfl) (by kernel_rfl) (by kernel_rfl) (fun _ _ _ h => h) (Or.inl ⟨by rfl, ?_⟩) (by assumption) ?_
  rotate_left 1
  · (intro wx hSw; go_simp; try with_reducible rfl)
  try simp only [Act.put, List.setIfInBounds_toArray, List.set_cons_zero, List.set_cons_succ]
  refine wpAnyH_take (i := 48) (v := ?_) (pickS (pickS (pickS (pickS (pickS (pickS (pickS (pickS (pickS (pickS (pickS (pickS (pickS (pickS (pickS (pickS (pickS (pickS (pickS (pickS (pickS (pickS (pickS (pickS (pickS (pickS (pickS (pickS (pickS (pickS (pickS (pickS (pickS (pickS (pickS (pickS (pickS (pickS (pickS (pickS (pickS (pickS (pickS (pickS (pickS (pickS (pickS (pickS pick0)))))))))))))))))))))))))))))))))))))))))))))))) (by kernel_rfl) (by kernel_rfl) (by kernel_rfl) (fun _ _ _ h => h) (Or.inl ⟨by rfl, ?_⟩) (by assumption) ?_
  rotate_left 1
  · (intro wx hSw; go_simp; try with_reducible rfl)
  try simp only [Act.put, List.setIfInBounds_toArray, List.set_cons_zero, List.set_cons_succ]
  refine wpAnyH_take (i := 49) (v := ?_) (pickS (pickS (pickS (pickS (pickS (pickS (pickS (pickS (pickS (pickS (pickS (pickS (pickS (pickS (pickS (pickS (pickS (pickS (pickS (pickS (pickS (pickS (pickS (pickS (pickS (pickS (pickS (pickS (pickS (pickS (pickS (pickS (pickS (pickS (pickS (pickS (pickS (pickS (pickS (pickS (pickS (pickS (pickS (pickS (pickS (pickS (pickS (pickS (pickS pick0))))))))))))))))))))))))))))))))))))))))))))))))) (by kernel_rfl) (by kernel_rfl) (by kernel_rfl) (fun _ _ _ h => h) (Or.inl ⟨by rfl, ?_⟩) (by assumption) ?_
  rotate_left 1
  · (intro wx hSw; go_simp; try with_reducible rfl)
  try simp only [Act.put, List.setIfInBounds_toArray, List.set_cons_zero, List.set_cons_succ]
  refine wpAnyH_take (i := 50) (v := ?_) (pickS (pickS (pickS (pickS (pickS (pickS (pickS (pickS (pickS (pickS (pickS (pickS (pickS (pickS (pickS (pickS (pickS (pickS (pickS (pickS (pickS (pickS (pickS (pickS (pickS (pickS (pickS (pickS (pickS (pickS (pickS (pickS (pickS (pickS (pickS (pickS (pickS (pickS (pickS (pickS (pickS (pickS (pickS (pickS (pickS (pickS (pickS (pickS (pickS (pickS pick0)))))))))))))))))))))))))))))))))))))))))))))))))) (by kernel_rfl) (by kernel_rfl) (by kernel_rfl) (fun _ _ _ h => h) (Or.inl ⟨by rfl, ?_⟩) (by assumption) ?_
  rotate_left 1
  · (intro wx hSw; go_simp; try with_reducible rfl)
  try simp only [Act.put, List.setIfInBounds_toArray, List.set_cons_zero, List.set_cons_succ]
  refine wpAnyH_take (i := 52) (v := ?_) (pickS (pickS (pickS (pickS (pickS (pickS (pickS (pickS (pickS (pickS (pickS (pickS (pickS (pickS (pickS (pickS (pickS (pickS (pickS (pickS (pickS (pickS (pickS (pickS (pickS (pickS (pickS (pickS (pickS (pickS (pickS (pickS (pickS (pickS (pickS (pickS (pickS (pickS (pickS (pickS (pickS (pickS (pickS (pickS (pickS (pickS (pickS (pickS (pickS (pickS (pickS (pickS pick0)))))))))))))))))))))))))))))))))))))))))))))))))))) (by kernel_rfl) (by kernel_rfl) (by kernel_rfl) (fun _ _ _ h => h) (Or.inl ⟨by rfl, ?_⟩) (by assumption) ?_
  rotate_left 1
  · (intro wx hSw; go_simp; try with_reducible rfl)
  try simp only [Act.put, List.setIfInBounds_toArray, List.set_cons_zero, List.set_cons_succ]
  refine wpAnyH_take (i := 53) (v := ?_) (pickS (pickS (pickS (pickS (pickS (pickS (pickS (pickS (pickS (pickS (pickS (pickS (pickS (pickS (pickS (pickS (pickS (pickS (pickS (pickS (pickS (pickS (pickS (pickS (pickS (pickS (pickS (pickS (pickS (pickS (pickS (pickS (pickS (pickS (pickS (pickS (pickS (pickS (pickS (pickS (pickS (pickS (pickS (pickS (pickS (pickS (pickS (pickS (pickS (pickS (pickS (pickS (pickS pick0))))))))))))))))))))))))))))))))))))))))))))))))))))) (by kernel_rfl) (by kernel_rfl) (by kernel_rfl) (fun _ _ _ h => h) (Or.inl ⟨by rfl, ?_⟩) (by assumption) ?_
  rotate_left 1
  · (intro wx hSw; go_simp; try with_reducible rfl)
  try simp only [Act.put, List.setIfInBounds_toArray, List.set_cons_zero, List.set_cons_succ]
  refine wpAnyH_take (i := 54) (v := ?_) (pickS (pickS (pickS (pickS (pickS (pickS (pickS (pickS (pickS (pickS (pickS (pickS (pickS (pickS (pickS (pickS (pickS (pickS (pickS (pickS (pickS (pickS (pickS (pickS (pickS (pickS (pickS (pickS (pickS (pickS (pickS (pickS (pickS (pickS (pickS (pickS (pickS (pickS (pickS (pickS (pickS (pickS (pickS (pickS (pickS (pickS (pickS (pickS (pickS (pickS (pickS (pickS (pickS (pickS pick0)))))))))))))))))))))))))))))))))))))))))))))))))))))) (by kernel_rfl) (by kernel_rfl) (by kernel_rfl) (fun _ _ _ h => h) (Or.inl ⟨by rfl, ?_⟩) (by assumption) ?_
  rotate_left 1
  · (intro wx hSw; go_simp; try with_reducible rfl)
  try simp only [Act.put, List.setIfInBounds_toArray, List.set_cons_zero, List.set_cons_succ]
  refine wpAnyH_take (i := 56) (v := ?_) (pickS (pickS (pickS (pickS (pickS (pickS (pickS (pickS (pickS (pickS (pickS (pickS (pickS (pickS (pickS (pickS (pickS (pickS (pickS (pickS (pickS (pickS (pickS (pickS (pickS (pickS (pickS (pickS (pickS (pickS (pickS (pickS (pickS (pickS (pickS (pickS (pickS (pickS (pickS (pickS (pickS (pickS (pickS (pickS (pickS (pickS (pickS (pickS (pickS (pickS (pickS (pickS (pickS (pickS (pickS (pickS pick0)))))))))))))))))))))))))))))))))))))))))))))))))))))))) (by kernel_rfl) (by kernel_rfl) (by kernel_rfl) (fun _ _ _ h => h) (Or.inl ⟨by rfl, ?_⟩) (by assumption) ?_
  rotate_left 1
  · (intro wx hSw; go_simp; try with_reducible rfl)
  try simp only [Act.put, List.setIfInBounds_toArray, List.set_cons_zero, List.set_cons_succ]
  refine wpAnyH_take (i := 57) (v := ?_) (pickS (pickS (pickS (pickS (pickS (pickS (pickS (pickS (pickS (pickS (pickS (pickS (pickS (pickS (pickS (pickS (pickS (pickS (pickS (pickS (pickS (pickS (pickS (pickS (pickS (pickS (pickS (pickS (pickS (pickS (pickS (pickS (pickS (pickS (pickS (pickS (pickS (pickS (pickS (pickS (pickS (pickS (pickS (pickS (pickS (pickS (pickS (pickS (pickS (pickS (pickS (pickS (pickS (pickS (pickS (pickS (pickS pick0))))))))))))))))))))))))))))))))))))))))))))))))))))))))) (by kernel_rfl) (by kernel_rfl) (by kernel_rfl) (fun _ _ _ h => h) (Or.inl ⟨by rfl, ?_⟩) (by assumption) ?_
  rotate_left 1
  · (intro wx hSw; go_simp; try with_reducible rfl)
  try simp only [Act.put, List.setIfInBounds_toArray, List.set_cons_zero, List.set_cons_succ]
  refine wpAnyH_take (i := 58) (v := ?_) (pickS (pickS (pickS (pickS (pickS (pickS (pickS (pickS (pickS (pickS (pickS (pickS (pickS (pickS (pickS (pickS (pickS (pickS (pickS (pickS (pickS (pickS (pickS (pickS (pickS (pickS (pickS (pickS (pickS (pickS (pickS (pickS (pickS (pickS (pickS (pickS (pickS (pickS (pickS (pickS (pickS (pickS (pickS (pickS (pickS (pickS (pickS (pickS (pickS (pickS (pickS (pickS (pickS (pickS (pickS (pickS (pickS (pickS pick0)))))))))))))))))))))))))))))))))))))))))))))))))))))))))) (by kernel_rfl) (by kernel_rfl) (by kernel_rfl) (fun _ _ _ h => h) (Or.inl ⟨by rfl, ?_⟩) (by assumption) ?_
  rotate_left 1
  · (intro wx hSw; go_simp; try with_reducible rfl)
  try simp only [Act.put, List.setIfInBounds_toArray, List.set_cons_zero, List.set_cons_succ]
  refine wpAnyH_take (i := 60) (v := ?_) (pickS (pickS (pickS (pickS (pickS (pickS (pickS (pickS (pickS (pickS (pickS (pickS (pickS (pickS (pickS (pickS (pickS (pickS (pickS (pickS (pickS (pickS (pickS (pickS (pickS (pickS (pickS (pickS (pickS (pickS (pickS (pickS (pickS (pickS (pickS (pickS (pickS (pickS (pickS (pickS (pickS (pickS (pickS (pickS (pickS (pickS (pickS (pickS (pickS (pickS (pickS (pickS (pickS (pickS (pickS (pickS (pickS (pickS (pickS (pickS pick0)))))))))))))))))))))))))))))))))))))))))))))))))))))))))))) (by kernel_rfl) (by kernel_rfl) (by kernel_rfl) (fun _ _ _ h => h) (Or.inl ⟨by rfl, ?_⟩) (by assumption) ?_
  rotate_left 1
  · (intro wx hSw; go_simp; try with_reducible rfl)
  try simp only [Act.put, List.setIfInBounds_toArray, List.set_cons_zero, List.set_cons_succ]
  refine wpAnyH_take (i := 61) (v := ?_) (pickS (pickS (pickS (pickS (pickS (pickS (pickS (pickS (pickS (pickS (pickS (pickS (pickS (pickS (pickS (pickS (pickS (pickS (pickS (pickS (pickS (pickS (pickS (pickS (pickS (pickS (pickS (pickS (pickS (pickS (pickS (pickS (pickS (pickS (pickS (pickS (pickS (pickS (pickS (pickS (pickS (pickS (pickS (pickS (pickS (pickS (pickS (pickS (pickS (pickS (pickS (pickS (pickS (pickS (pickS (pickS (pickS (pickS (pickS (pickS (pickS pick0))))))))))))))))))))))))))))))))))))))))))))))))))))))))))))) (by kernel_rfl) (by kernel_rfl) (by kernel_rfl) (fun _ _ _ h => h) (Or.inl ⟨by rfl, ?_⟩) (by assumption) ?_
  rotate_left 1
  · (intro wx hSw; go_simp; try with_reducible rfl)
  try simp only [Act.put, List.setIfInBounds_toArray, List.set_cons_zero, List.set_cons_succ]
  refine wpAnyH_take (i := 62) (v := ?_) (pickS (pickS (pickS (pickS (pickS (pickS (pickS (pickS (pickS (pickS (pickS (pickS (pickS (pickS (pickS (pickS (pickS (pickS (pickS (pickS (pickS (pickS (pickS (pickS (pickS (pickS (pickS (pickS (pickS (pickS (pickS (pickS (pickS (pickS (pickS (pickS (pickS (pickS (pickS (pickS (pickS (pickS (pickS (pickS (pickS (pickS (pickS (pickS (pickS (pickS (pickS (pickS (pickS (pickS (pickS (pickS (pickS (pickS (pickS (pickS (pickS (pickS pick0)))))))))))))))))))))))))))))))))))))))))))))))))))))))))))))) (by kernel_rfl) (by kernel_rfl) (by kernel_rfl) (fun _ _ _ h => h) (Or.inl ⟨by rfl, ?_⟩) (by assumption) ?_
  rotate_left 1
  · (intro wx hSw; go_simp; try with_reducible rfl)
  try simp only [Act.put, List.setIfInBounds_toArray, List.set_cons_zero, List.set_cons_succ]
  refine wpAnyH_ready (rs := [3]) (by kernel_rfl) (by simp) ?_
  refine AllReadyH.cons (pickS (pickS (pickS pick0))) (fun K hK => ?_) AllReadyH.nil
  go_simp
  refine (o_number _ ⟨cb, 1, none⟩).mono ?_
  rintro e w1 ⟨p0, rfl, hp, hl, hc⟩
  have HC1 : Hid (Chg nob w0 w1) := ((Chg.refl nob w0).drew).thenNew hc
  have HX1 : Hid (Boxes w1 cb w0.heap.size [p0]) := Boxes.snoc (l := []) (w := w0.drew) ⟨fun j p h => by cases h⟩ hc hp hl
  clear hp hl hc hHeld
  go_wp2_with fail
  refine hK.out _ _ (trivial) (fun hHeld => ?_)
  clear hK K
  try simp only [Act.put, List.setIfInBounds_toArray, List.set_cons_zero, List.set_cons_succ]
  refine wpAnyH_ready (rs := [7]) (by kernel_rfl) (by simp) ?_
  refine AllReadyH.cons (pickS (pickS (pickS (pickS (pickS (pickS (pickS pick0))))))) (fun K hK => ?_) AllReadyH.nil
  go_simp
  refine (o_number _ ⟨cb, 2, none⟩).mono ?_
  rintro e w2 ⟨p1, rfl, hp, hl, hc⟩
  have HC2 : Hid (Chg nob w0 w2) := HC1.out.thenNew hc
  have HX2 : Hid (Boxes w2 cb w0.heap.size [p0, p1]) := HX1.out.snoc hc hp (Nat.le_trans HC1.out.size hl)
  clear hp hl hc hHeld HX1 HC1
  go_wp2_with fail
  refine hK.out _ _ (trivial) (fun hHeld => ?_)
  clear hK K
  try simp only [Act.put, List.setIfInBounds_toArray, List.set_cons_zero, List.set_cons_succ]
  refine wpAnyH_ready (rs := [11]) (by kernel_rfl) (by simp) ?_
  refine AllReadyH.cons (pickS (pickS (pickS (pickS (pickS (pickS (pickS (pickS (pickS (pickS (pickS pick0))))))))))) (fun K hK => ?_) AllReadyH.nil
  go_simp
  refine (o_number _ ⟨cb, 3, none⟩).mono ?_
  rintro e w3 ⟨p2, rfl, hp, hl, hc⟩
  have HC3 : Hid (Chg nob w0 w3) := HC2.out.thenNew hc
  have HX3 : Hid (Boxes w3 cb w0.heap.size [p0, p1, p2]) := HX2.out.snoc hc hp (Nat.le_trans HC2.out.size hl)
  clear hp hl hc hHeld HX2 HC2
  go_wp2_with fail
  refine hK.out _ _ (trivial) (fun hHeld => ?_)
  clear hK K
  try simp only [Act.put, List.setIfInBounds_toArray, List.set_cons_zero, List.set_cons_succ]
  refine wpAnyH_ready (rs := [15]) (by kernel_rfl) (by simp) ?_
  refine AllReadyH.cons (pickS (pickS (pickS (pickS (pickS (pickS (pickS (pickS (pickS (pickS (pickS (pickS (pickS (pickS (pickS pick0))))))))))))))) (fun K hK => ?_) AllReadyH.nil
  go_simp
  refine (o_text _ ⟨cb, 4, none⟩).mono ?_
  rintro e w4 ⟨p3, rfl, hp, hl, hc⟩
  have HC4 : Hid (Chg nob w0 w4) := HC3.out.thenNew hc
  have HX4 : Hid (Boxes w4 cb w0.heap.size [p0, p1, p2, p3]) := HX3.out.snoc hc hp (Nat.le_trans HC3.out.size hl)
  clear hp hl hc hHeld HX3 HC3
  go_wp2_with fail
  refine hK.out _ _ (trivial) (fun hHeld => ?_)
  clear hK K
  try simp only [Act.put, List.setIfInBounds_toArray, List.set_cons_zero, List.set_cons_succ]
  refine wpAnyH_ready (rs := [19]) (by kernel_rfl) (by simp) ?_
  refine AllReadyH.cons (pickS (pickS (pickS (pickS (pickS (pickS (pickS (pickS (pickS (pickS (pickS (pickS (pickS (pickS (pickS (pickS (pickS (pickS (pickS pick0))))))))))))))))))) (fun K hK => ?_) AllReadyH.nil
  go_simp
  refine (o_text _ ⟨cb, 5, none⟩).mono ?_
  rintro e w5 ⟨p4, rfl, hp, hl, hc⟩
  have HC5 : Hid (Chg nob w0 w5) := HC4.out.thenNew hc
  have HX5 : Hid (Boxes w5 cb w0.heap.size [p0, p1, p2, p3, p4]) := HX4.out.snoc hc hp (Nat.le_trans HC4.out.size hl)
  clear hp hl hc hHeld HX4 HC4
  go_wp2_with fail
  refine hK.out _ _ (trivial) (fun hHeld => ?_)
  clear hK K
  try simp only [Act.put, List.setIfInBounds_toArray, List.set_cons_zero, List.set_cons_succ]
  refine wpAnyH_ready (rs := [23]) (by kernel_rfl) (by simp) ?_
  refine AllReadyH.cons (pickS (pickS (pickS (pickS (pickS (pickS (pickS (pickS (pickS (pickS (pickS (pickS (pickS (pickS (pickS (pickS (pickS (pickS (pickS (pickS (pickS (pickS (pickS pick0))))))))))))))))))))))) (fun K hK => ?_) AllReadyH.nil
  go_simp
  refine (o_text _ ⟨cb, 6, none⟩).mono ?_
  rintro e w6 ⟨p5, rfl, hp, hl, hc⟩
  have HC6 : Hid (Chg nob w0 w6) := HC5.out.thenNew hc
  have HX6 : Hid (Boxes w6 cb w0.heap.size [p0, p1, p2, p3, p4, p5]) := HX5.out.snoc hc hp (Nat.le_trans HC5.out.size hl)
  clear hp hl hc hHeld HX5 HC5
  go_wp2_with fail
  refine hK.out _ _ (trivial) (fun hHeld => ?_)
  clear hK K
  try simp only [Act.put, List.setIfInBounds_toArray, List.set_cons_zero, List.set_cons_succ]
  refine wpAnyH_ready (rs := [27]) (by kernel_rfl) (by simp) ?_
  refine AllReadyH.cons (pickS (pickS (pickS (pickS (pickS (pickS (pickS (pickS (pickS (pickS (pickS (pickS (pickS (pickS (pickS (pickS (pickS (pickS (pickS (pickS (pickS (pickS (pickS (pickS (pickS (pickS (pickS pick0))))))))))))))))))))))))))) (fun K hK => ?_) AllReadyH.nil
  go_simp
  refine (o_text _ ⟨cb, 7, none⟩).mono ?_
  rintro e w7 ⟨p6, rfl, hp, hl, hc⟩
  have HC7 : Hid (Chg nob w0 w7) := HC6.out.thenNew hc
  have HX7 : Hid (Boxes w7 cb w0.heap.size [p0, p1, p2, p3, p4, p5, p6]) := HX6.out.snoc hc hp (Nat.le_trans HC6.out.size hl)
  clear hp hl hc hHeld HX6 HC6
  go_wp2_with fail
  refine hK.out _ _ (trivial) (fun hHeld => ?_)
  clear hK K
  try simp only [Act.put, List.setIfInBounds_toArray, List.set_cons_zero, List.set_cons_succ]
  refine wpAnyH_ready (rs := [31]) (by kernel_rfl) (by simp) ?_
  refine AllReadyH.cons (pickS (pickS (pickS (pickS (pickS (pickS (pickS (pickS (pickS (pickS (pickS (pickS (pickS (pickS (pickS (pickS (pickS (pickS (pickS (pickS (pickS (pickS (pickS (pickS (pickS (pickS (pickS (pickS (pickS (pickS (pickS pick0))))))))))))))))))))))))))))))) (fun K hK => ?_) AllReadyH.nil
  go_simp
  refine (o_text _ ⟨cb, 8, none⟩).mono ?_
  rintro e w8 ⟨p7, rfl, hp, hl, hc⟩
  have HC8 : Hid (Chg nob w0 w8) := HC7.out.thenNew hc
  have HX8 : Hid (Boxes w8 cb w0.heap.size [p0, p1, p2, p3, p4, p5, p6, p7]) := HX7.out.snoc hc hp (Nat.le_trans HC7.out.size hl)
  clear hp hl hc hHeld HX7 HC7
  go_wp2_with fail
  refine hK.out _ _ (trivial) (fun hHeld => ?_)
  clear hK K
  try simp only [Act.put, List.setIfInBounds_toArray, List.set_cons_zero, List.set_cons_succ]
  refine wpAnyH_ready (rs := [35]) (by kernel_rfl) (by simp) ?_
  refine AllReadyH.cons (pickS (pickS (pickS (pickS (pickS (pickS (pickS (pickS (pickS (pickS (pickS (pickS (pickS (pickS (pickS (pickS (pickS (pickS (pickS (pickS (pickS (pickS (pickS (pickS (pickS (pickS (pickS (pickS (pickS (pickS (pickS (pickS (pickS (pickS (pickS pick0))))))))))))))))))))))))))))))))))) (fun K hK => ?_) AllReadyH.nil
  go_simp
  refine (o_text _ ⟨cb, 9, none⟩).mono ?_
  rintro e w9 ⟨p8, rfl, hp, hl, hc⟩
  have HC9 : Hid (Chg nob w0 w9) := HC8.out.thenNew hc
  have HX9 : Hid (Boxes w9 cb w0.heap.size [p0, p1, p2, p3, p4, p5, p6, p7, p8]) := HX8.out.snoc hc hp (Nat.le_trans HC8.out.size hl)
  clear hp hl hc hHeld HX8 HC8
  go_wp2_with fail
  refine hK.out _ _ (trivial) (fun hHeld => ?_)
  clear hK K
  try simp only [Act.put, List.setIfInBounds_toArray, List.set_cons_zero, List.set_cons_succ]
  refine wpAnyH_ready (rs := [39]) (by kernel_rfl) (by simp) ?_
  refine AllReadyH.cons (pickS (pickS (pickS (pickS (pickS (pickS (pickS (pickS (pickS (pickS (pickS (pickS (pickS (pickS (pickS (pickS (pickS (pickS (pickS (pickS (pickS (pickS (pickS (pickS (pickS (pickS (pickS (pickS (pickS (pickS (pickS (pickS (pickS (pickS (pickS (pickS (pickS (pickS (pickS pick0))))))))))))))))))))))))))))))))))))))) (fun K hK => ?_) AllReadyH.nil
  go_simp
  refine (o_text _ ⟨cb, 10, none⟩).mono ?_
  rintro e w10 ⟨p9, rfl, hp, hl, hc⟩
  have HC10 : Hid (Chg nob w0 w10) := HC9.out.thenNew hc
  have HX10 : Hid (Boxes w10 cb w0.heap.size [p0, p1, p2, p3, p4, p5, p6, p7, p8, p9]) := HX9.out.snoc hc hp (Nat.le_trans HC9.out.size hl)
  clear hp hl hc hHeld HX9 HC9
  go_wp2_with fail
  refine hK.out _ _ (trivial) (fun hHeld => ?_)
  clear hK K
  try simp only [Act.put, List.setIfInBounds_toArray, List.set_cons_zero, List.set_cons_succ]
  refine wpAnyH_ready (rs := [43]) (by kernel_rfl) (by simp) ?_
  refine AllReadyH.cons (pickS (pickS (pickS (pickS (pickS (pickS (pickS (pickS (pickS (pickS (pickS (pickS (pickS (pickS (pickS (pickS (pickS (pickS (pickS (pickS (pickS (pickS (pickS (pickS (pickS (pickS (pickS (pickS (pickS (pickS (pickS (pickS (pickS (pickS (pickS (pickS (pickS (pickS (pickS (pickS (pickS (pickS (pickS pick0))))))))))))))))))))))))))))))))))))))))))) (fun K hK => ?_) AllReadyH.nil
  go_simp
  refine (o_text _ ⟨cb, 11, none⟩).mono ?_
  rintro e w11 ⟨p10, rfl, hp, hl, hc⟩
  have HC11 : Hid (Chg nob w0 w11) := HC10.out.thenNew hc
  have HX11 : Hid (Boxes w11 cb w0.heap.size [p0, p1, p2, p3, p4, p5, p6, p7, p8, p9, p10]) := HX10.out.snoc hc hp (Nat.le_trans HC10.out.size hl)
  clear hp hl hc hHeld HX10 HC10
  go_wp2_with fail
  refine hK.out _ _ (trivial) (fun hHeld => ?_)
  clear hK K
  try simp only [Act.put, List.setIfInBounds_toArray, List.set_cons_zero, List.set_cons_succ]
  refine wpAnyH_ready (rs := [47]) (by kernel_rfl) (by simp) ?_
  refine AllReadyH.cons (pickS (pickS (pickS (pickS (pickS (pickS (pickS (pickS (pickS (pickS (pickS (pickS (pickS (pickS (pickS (pickS (pickS (pickS (pickS (pickS (pickS (pickS (pickS (pickS (pickS (pickS (pickS (pickS (pickS (pickS (pickS (pickS (pickS (pickS (pickS (pickS (pickS (pickS (pickS (pickS (pickS (pickS (pickS (pickS (pickS (pickS (pickS pick0))))))))))))))))))))))))))))))))))))))))))))))) (fun K hK => ?_) AllReadyH.nil
  go_simp
  refine (o_texts _ ⟨cb, 12, none⟩).mono ?_
  rintro e w12 ⟨p11, rfl, hp, hl, hc⟩
  have HC12 : Hid (Chg nob w0 w12) := HC11.out.thenNew hc
  have HX12 : Hid (Boxes w12 cb w0.heap.size [p0, p1, p2, p3, p4, p5, p6, p7, p8, p9, p10, p11]) := HX11.out.snoc hc hp (Nat.le_trans HC11.out.size hl)
  clear hp hl hc hHeld HX11 HC11
  go_wp2_with fail
  refine hK.out _ _ (trivial) (fun hHeld => ?_)
  clear hK K
  try simp only [Act.put, List.setIfInBounds_toArray, List.set_cons_zero, List.set_cons_succ]
  refine wpAnyH_ready (rs := [51]) (by kernel_rfl) (by simp) ?_
  refine AllReadyH.cons (pickS (pickS (pickS (pickS (pickS (pickS (pickS (pickS (pickS (pickS (pickS (pickS (pickS (pickS (pickS (pickS (pickS (pickS (pickS (pickS (pickS (pickS (pickS (pickS (pickS (pickS (pickS (pickS (pickS (pickS (pickS (pickS (pickS (pickS (pickS (pickS (pickS (pickS (pickS (pickS (pickS (pickS (pickS (pickS (pickS (pickS (pickS (pickS (pickS (pickS (pickS pick0))))))))))))))))))))))))))))))))))))))))))))))))))) (fun K hK => ?_) AllReadyH.nil
  go_simp
  refine (o_flag _ ⟨cb, 13, none⟩).mono ?_
  rintro e w13 ⟨p12, rfl, hp, hl, hc⟩
  have HC13 : Hid (Chg nob w0 w13) := HC12.out.thenNew hc
  have HX13 : Hid (Boxes w13 cb w0.heap.size [p0, p1, p2, p3, p4, p5, p6, p7, p8, p9, p10, p11, p12]) := HX12.out.snoc hc hp (Nat.le_trans HC12.out.size hl)
  clear hp hl hc hHeld HX12 HC12
  go_wp2_with fail
  refine hK.out _ _ (trivial) (fun hHeld => ?_)
  clear hK K
  try simp only [Act.put, List.setIfInBounds_toArray, List.set_cons_zero, List.set_cons_succ]
  refine wpAnyH_ready (rs := [55]) (by kernel_rfl) (by simp) ?_
  refine AllReadyH.cons (pickS (pickS (pickS (pickS (pickS (pickS (pickS (pickS (pickS (pickS (pickS (pickS (pickS (pickS (pickS (pickS (pickS (pickS (pickS (pickS (pickS (pickS (pickS (pickS (pickS (pickS (pickS (pickS (pickS (pickS (pickS (pickS (pickS (pickS (pickS (pickS (pickS (pickS (pickS (pickS (pickS (pickS (pickS (pickS (pickS (pickS (pickS (pickS (pickS (pickS (pickS (pickS (pickS (pickS (pickS pick0))))))))))))))))))))))))))))))))))))))))))))))))))))))) (fun K hK => ?_) AllReadyH.nil
  go_simp
  refine (o_long _ ⟨cb, 14, none⟩).mono ?_
  rintro e w14 ⟨p13, rfl, hp, hl, hc⟩
  have HC14 : Hid (Chg nob w0 w14) := HC13.out.thenNew hc
  have HX14 : Hid (Boxes w14 cb w0.heap.size [p0, p1, p2, p3, p4, p5, p6, p7, p8, p9, p10, p11, p12, p13]) := HX13.out.snoc hc hp (Nat.le_trans HC13.out.size hl)
  clear hp hl hc hHeld HX13 HC13
  go_wp2_with fail
  refine hK.out _ _ (trivial) (fun hHeld => ?_)
  clear hK K
  try simp only [Act.put, List.setIfInBounds_toArray, List.set_cons_zero, List.set_cons_succ]
  refine wpAnyH_ready (rs := [59]) (by kernel_rfl) (by simp) ?_
  refine AllReadyH.cons (pickS (pickS (pickS (pickS (pickS (pickS (pickS (pickS (pickS (pickS (pickS (pickS (pickS (pickS (pickS (pickS (pickS (pickS (pickS (pickS (pickS (pickS (pickS (pickS (pickS (pickS (pickS (pickS (pickS (pickS (pickS (pickS (pickS (pickS (pickS (pickS (pickS (pickS (pickS (pickS (pickS (pickS (pickS (pickS (pickS (pickS (pickS (pickS (pickS (pickS (pickS (pickS (pickS (pickS (pickS (pickS (pickS (pickS (pickS pick0))))))))))))))))))))))))))))))))))))))))))))))))))))))))))) (fun K hK => ?_) AllReadyH.nil
  go_simp
  refine (o_long _ ⟨cb, 15, none⟩).mono ?_
  rintro e w15 ⟨p14, rfl, hp, hl, hc⟩
  have HC15 : Hid (Chg nob w0 w15) := HC14.out.thenNew hc
  have HX15 : Hid (Boxes w15 cb w0.heap.size [p0, p1, p2, p3, p4, p5, p6, p7, p8, p9, p10, p11, p12, p13, p14]) := HX14.out.snoc hc hp (Nat.le_trans HC14.out.size hl)
  clear hp hl hc hHeld HX14 HC14
  go_wp2_with fail
  refine hK.out _ _ (trivial) (fun hHeld => ?_)
  clear hK K
  try simp only [Act.put, List.setIfInBounds_toArray, List.set_cons_zero, List.set_cons_succ]
  refine wpAnyH_ready (rs := [63]) (by kernel_rfl) (by simp) ?_
  refine AllReadyH.cons (pickS (pickS (pickS (pickS (pickS (pickS (pickS (pickS (pickS (pickS (pickS (pickS (pickS (pickS (pickS (pickS (pickS (pickS (pickS (pickS (pickS (pickS (pickS (pickS (pickS (pickS (pickS (pickS (pickS (pickS (pickS (pickS (pickS (pickS (pickS (pickS (pickS (pickS (pickS (pickS (pickS (pickS (pickS (pickS (pickS (pickS (pickS (pickS (pickS (pickS (pickS (pickS (pickS (pickS (pickS (pickS (pickS (pickS (pickS (pickS (pickS (pickS (pickS pick0))))))))))))))))))))))))))))))))))))))))))))))))))))))))))))))) (fun K hK => ?_) AllReadyH.nil
  go_simp
  refine (o_commands _ ⟨cb, 16, none⟩).mono ?_
  rintro e w16 ⟨p15, rfl, hp, hl, hc⟩
  have HC16 : Hid (Chg nob w0 w16) := HC15.out.thenNew hc
  have HX16 : Hid (Boxes w16 cb w0.heap.size [p0, p1, p2, p3, p4, p5, p6, p7, p8, p9, p10, p11, p12, p13, p14, p15]) := HX15.out.snoc hc hp (Nat.le_trans HC15.out.size hl)
  clear hp hl hc hHeld HX15 HC15
  go_wp2_with fail
  refine hK.out _ _ (trivial) (fun hHeld => ?_)
  clear hK K
  try simp only [Act.put, List.setIfInBounds_toArray, List.set_cons_zero, List.set_cons_succ]
  refine wpAnyH_take (i := 64) (v := ?_) (pickS (pickS (pickS (pickS (pickS (pickS (pickS (pickS (pickS (pickS (pickS (pickS (pickS (pickS (pickS (pickS (pickS (pickS (pickS (pickS (pickS (pickS (pickS (pickS (pickS (pickS (pickS (pickS (pickS (pickS (pickS (pickS (pickS (pickS (pickS (pickS (pickS (pickS (pickS (pickS (pickS (pickS (pickS (pickS (pickS (pickS (pickS (pickS (pickS (pickS (pickS (pickS (pickS (pickS (pickS (pickS (pickS (pickS (pickS (pickS (pickS (pickS (pickS (pickS pick0)))))))))))))))))))))))))))))))))))))))))))))))))))))))))))))))) (by kernel_rfl) (by kernel_rfl) (by kernel_rfl) (fun _ _ _ h => h) (Or.inl ⟨by rfl, ?_⟩) (by assumption) ?_
  rotate_left 1
  · (intro wx hSw; go_simp; try with_reducible rfl)
  try simp only [Act.put, List.setIfInBounds_toArray, List.set_cons_zero, List.set_cons_succ]
  refine wpAnyH_ready (rs := [65]) (by kernel_rfl) (by simp) ?_
  refine AllReadyH.cons (pickS (pickS (pickS (pickS (pickS (pickS (pickS (pickS (pickS (pickS (pickS (pickS (pickS (pickS (pickS (pickS (pickS (pickS (pickS (pickS (pickS (pickS (pickS (pickS (pickS (pickS (pickS (pickS (pickS (pickS (pickS (pickS (pickS (pickS (pickS (pickS (pickS (pickS (pickS (pickS (pickS (pickS (pickS (pickS (pickS (pickS (pickS (pickS (pickS (pickS (pickS (pickS (pickS (pickS (pickS (pickS (pickS (pickS (pickS (pickS (pickS (pickS (pickS (pickS (pickS pick0))))))))))))))))))))))))))))))))))))))))))))))))))))))))))))))))) (fun K hK => ?_) AllReadyH.nil
  obtain ⟨ps, hp0, hp1, hp2, hp3, hp4, hp5, hp6, hp7, hp8, hp9, hp10, hp11, hp12, hp13, hp14, hp15⟩ := @ps16 p0 p1 p2 p3 p4 p5 p6 p7 p8 p9 p10 p11 p12 p13 p14 p15
  subst hp0 hp1 hp2 hp3 hp4 hp5 hp6 hp7 hp8 hp9 hp10 hp11 hp12 hp13 hp14 hp15
  rw [if_pos (by rfl)]
  refine wp_store_mid 50 (.tmp 2) (.tmp 67) rfl g 0 (allV ps) rfl rfl ?_ (by kernel_rfl) (allV_one ps) ?_
  · exact (show w16.there g 0 64 from by simpa using there_row (HC16.out.heap HB0.out (not_nob _)))
  refine hK.out _ _ (trivial) (fun hHeld => ?_)
  clear hK K
  try simp only [Act.put, List.setIfInBounds_toArray, List.set_cons_zero, List.set_cons_succ]
  refine wpAnyH_done (by kernel_rfl) ?_ _
  have hrow := row_stored (vs := allV ps) (HC16.out.heap HB0.out (not_nob _)) rfl
  have hcS := chg_setCells (g := g) (allV ps).toList 0 w16
  obtain ⟨w17, hw17⟩ : ∃ w17, w16.setCells g 0 (allV ps).toList = w17 := ⟨_, rfl⟩
  rw [hw17] at hrow hcS ⊢
  have HR := Lib.hid hrow
  have HS := Lib.hid hcS
  clear hrow hcS hw17
  go_wp2
  try simp only [Exit.inBlock, Exit.then]
  refine bodyPost_ret (results_cell_row rfl _ _ g _ _ (0, 0) _ rfl HR.out Try.underlying50 rfl (by kernel_rfl)) rfl ?_
  refine ⟨ps, rfl, ⟨fun k hk => ?_, (HC0.out.thenNew HC16.out).trans HS.out (fun i hi => .inr (by rw [show i = g from hi, HG.out]; exact Nat.le_refl _))⟩⟩
  have hk2 : k = 0 ∨ k = 1 ∨ k = 2 ∨ k = 3 ∨ k = 4 ∨ k = 5 ∨ k = 6 ∨ k = 7 ∨ k = 8 ∨ k = 9 ∨ k = 10 ∨ k = 11 ∨ k = 12 ∨ k = 13 ∨ k = 14 ∨ k = 15 := by omega
  have hz : g < w0.heap.size := heap_lt HB0.out
  have hb : PtrBox w16 (ps k) ⟨cb, k + 1, none⟩ ∧ w0.heap.size ≤ ps k := by rcases hk2 with h | h | h | h | h | h | h | h | h | h | h | h | h | h | h | h <;> (subst h; exact HX16.out.at_ _ _ rfl)
  exact ⟨hb.1.chg HS.out (fun e => by have h1 : ps k = g := e; omega), by rw [HG.out]; omega⟩
end Go.Proofs.Ythleagjnhpjhiaa