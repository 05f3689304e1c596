/- Frames: what a call of Take does. -/
import Derived.Test.YtmahjeafoogamaaFramePut
import Derived.WalkMore
import Derived.Outline
import Derived.Laws.EntriesVeiled
namespace Go.Proofs.Ytmahjeafoogamaa
open Go.RowKit
set_option linter.unusedVariables false
set_option linter.unusedSimpArgs false
/-- The bytes' place bx, the question's place bx + 2, the result's place bx + 1. -/
structure FtSt (w0 : World) (bx : Nat) (ok : Nat → Prop) (A : Option Addr) (m c : Nat) (bs : List UInt8) (w : World) : Prop where
  box : w.cell? ⟨bx, 0, none⟩ = some (.slice A m c)
  fn : w.cell? ⟨bx + 1 + 1, 0, none⟩ = some (.func (.func 74) #[] #[.pointer (some ⟨bx, 0, none⟩)])
  res : w.heap[bx + 1]? = some (.cells #[.int .u8 0, .slice none 0 0] 28 (0, 0))
  b : Kd.byte.C w ok A bs
  chg : Chg nob w0 w
theorem FtSt.new {w0 w w' : World} {bx : Nat} {ok : Nat → Prop} {A : Option Addr} {m c : Nat} {bs : List UInt8} (h : FtSt w0 bx ok A m c bs w) (hc : Chg nob w w') : FtSt w0 bx ok A m c bs w' :=
  ⟨hc.cell h.box (not_nob _), hc.cell h.fn (not_nob _), hc.heap h.res (not_nob _), Kd.C_new h.b hc, h.chg.thenNew hc⟩
theorem byte_at {w : World} {ok : Nat → Prop} {A : Option Addr} {bs : List UInt8} (h : Kd.byte.C w ok A bs) {j : Nat} {x : UInt8} (hx : bs[j]? = some x) : ∃ b o, A = some ⟨b, o, none⟩ ∧ w.cell? ⟨b, o + j, none⟩ = some (.int .u8 x.toNat) := by
  obtain ⟨b, o, c, e, _, hk, hc⟩ := Kd.C_at' h hx
  have hk' : c = [.int .u8 x.toNat] := hk
  have := hc 0 (.int .u8 x.toNat) (by rw [hk']; rfl)
  rw [show Kd.byte.sz = 1 from rfl, Nat.mul_one, Nat.add_zero] at this
  exact ⟨b, o, e, this⟩
theorem told_or {y z : UInt8} : Go.bits .or .i64 ((y.toNat : Int) * 256) (z.toNat : Int) = ((y.toNat * 256 + z.toNat : Nat) : Int) := by
  have hy := y.toNat_lt
  have hz := z.toNat_lt
  have h1 : y.toNat * 256 ||| z.toNat = y.toNat * 256 + z.toNat := by
    have := Nat.two_pow_add_eq_or_of_lt (i := 8) (b := z.toNat) (by omega) y.toNat
    rw [Nat.mul_comm (2 ^ 8)] at this
    exact this.symm
  have e : ∀ a : Nat, a < 18446744073709551616 → (BitVec.ofInt 64 (a : Int)).toNat = a := fun a ha => by
    rw [BitVec.ofInt_natCast, BitVec.toNat_ofNat]
    omega
  show IntKind.i64.wrap ((BitVec.ofInt 64 ((y.toNat : Int) * 256) ||| BitVec.ofInt 64 (z.toNat : Int)).toNat : Int) = _
  rw [show ((y.toNat : Int) * 256) = ((y.toNat * 256 : Nat) : Int) from by omega, BitVec.toNat_or, e _ (by omega), e _ (by omega), h1, IntKind.wrap_i64]
  omega
theorem ft_told {w0 w : World} {bx : Nat} {ok : Nat → Prop} {A : Option Addr} {m c : Nat} {bs : List UInt8} (h : FtSt w0 bx ok A m c bs w) (hm : bs.length = m) (h3 : 3 ≤ m) :
    Calls Try.prog 74 #[.pointer (some ⟨bx, 0, none⟩)] w fun e w' => e = .returned (.int .i64 (told bs)) ∧ Chg nob w w' := by
  obtain ⟨y, hy⟩ : ∃ y, bs[1]? = some y := ⟨_, List.getElem?_eq_getElem (by omega)⟩
  obtain ⟨z, hz⟩ : ∃ z, bs[2]? = some z := ⟨_, List.getElem?_eq_getElem (by omega)⟩
  obtain ⟨ab, ao, rfl, c1⟩ := byte_at h.b hy
  obtain ⟨_, _, e, c2⟩ := byte_at h.b hz
  cases e
  have c0 := h.box
  have HT : Hid (told bs = y.toNat * 256 + z.toNat) := by show _ = _; rw [told, hy, hz]; rfl
  have HO := Lib.hid (told_or (y := y) (z := z))
  have b1 : (1 : Int) < (m : Int) := by omega
  have b2 : (2 : Int) < (m : Int) := by omega
  have hyl := y.toNat_lt
  have hzl := z.toNat_lt
  clear hy hz h hm
  go_enter Try.func74, Try.ntmps74
  go_wp2
  go_quiet (fail)
  go_wp2
  go_ret
  rw [HT.out]
  exact ⟨congrArg (fun x : Int => Ending.returned (.int .i64 x)) HO.out, (Chg.refl _ _).drewN _⟩
section
variable {w0 w : World} {bx : Nat} {ok : Nat → Prop} {A : Option Addr} {m c : Nat} {bs : List UInt8}
theorem ft_q1 (h : FtSt w0 bx ok A m c bs w) : Calls Try.prog 75 #[.pointer (some ⟨bx, 0, none⟩)] w fun e w' => e = .returned (.bool (decide (3 ≤ (m : Int)))) ∧ FtSt w0 bx ok A m c bs w' := by
  have c0 := h.box
  have HI := Lib.hid h
  clear h
  go_enter Try.func75, Try.ntmps75
  go_wp2
  go_ret
  exact ⟨rfl, HI.out⟩
theorem ft_q2 (h : FtSt w0 bx ok A m c bs w) {x : UInt8} (hx : bs[0]? = some x) (h1 : 1 ≤ m) : Calls Try.prog 76 #[.pointer (some ⟨bx, 0, none⟩)] w fun e w' => e = .returned (.bool (!((x.toNat : Int) == 0))) ∧ FtSt w0 bx ok A m c bs w' := by
  have c0 := h.box
  have HI := Lib.hid h
  obtain ⟨ab, ao, rfl, c1⟩ := byte_at h.b hx
  have b1 : (0 : Int) < (m : Int) := by omega
  have c1' : w.cell? ⟨ab, ao, none⟩ = some (.int .u8 x.toNat) := c1
  clear h hx c1
  go_enter Try.func76, Try.ntmps76
  go_wp2
  go_ret
  exact ⟨rfl, HI.out⟩
theorem ft_q3 (h : FtSt w0 bx ok A m c bs w) (hm : Hid (bs.length = m)) (h3 : 3 ≤ m) : Calls Try.prog 77 #[.pointer (some ⟨bx + 1 + 1, 0, none⟩)] w fun e w' => e = .returned (.bool (decide ((told bs : Int) ≤ 1000))) ∧ FtSt w0 bx ok A m c bs w' := by
  have c0 := h.fn
  have HI := Lib.hid h
  clear h
  go_enter Try.func77, Try.ntmps77
  go_wp2_with fail
  refine (ft_told HI.out hm.out h3).mono ?_
  rintro e w' ⟨rfl, hc⟩
  have H2 := Lib.hid (HI.out.new hc)
  clear hc
  go_wp2
  go_ret
  exact ⟨rfl, H2.out⟩
theorem ft_q4 (h : FtSt w0 bx ok A m c bs w) (hm : Hid (bs.length = m)) (h3 : 3 ≤ m) (ht : told bs ≤ 1000) : Calls Try.prog 78 #[.pointer (some ⟨bx, 0, none⟩), .pointer (some ⟨bx + 1 + 1, 0, none⟩)] w fun e w' => e = .returned (.bool (decide ((told bs : Int) + 7 ≤ (m : Int)))) ∧ FtSt w0 bx ok A m c bs w' := by
  have HI := Lib.hid h
  have HW : Hid (IntKind.i64.wrap ((told bs : Int) + 7) = (told bs : Int) + 7) := IntWalk.i64_in _ (by omega)
  clear h
  go_enter Try.func78, Try.ntmps78
  go_wp2
  refine wp_region_held_drew (S := fun wx => FtSt w0 bx ok A m c bs wx) (by kernel_rfl) (HI.out.new ((Chg.refl _ _).drew)) (fun hHeld => ?_)
  refine wpAnyH_take (i := 0) (v := ?_) pick0 (by kernel_rfl) (by kernel_rfl) (by kernel_rfl) (fun _ _ _ h => h) (Or.inl ⟨by rfl, ?_⟩) (by assumption) ?_
  rotate_left 1
  · (intro wx hSw; have q := hSw.box; go_simp; try with_reducible rfl)
  try simp only [Act.put, List.setIfInBounds_toArray, List.set_cons_zero, List.set_cons_succ]
  refine wpAnyH_take (i := 1) (v := ?_) (pickS pick0) (by kernel_rfl) (by kernel_rfl) (by kernel_rfl) (fun _ _ _ h => h) (Or.inl ⟨by rfl, ?_⟩) (by assumption) ?_
  rotate_left 1
  · (intro wx hSw; go_simp; try with_reducible rfl)
  try simp only [Act.put, List.setIfInBounds_toArray, List.set_cons_zero, List.set_cons_succ]
  refine wpAnyH_take (i := 2) (v := ?_) (pickS (pickS pick0)) (by kernel_rfl) (by kernel_rfl) (by kernel_rfl) (fun _ _ _ h => h) (Or.inl ⟨by rfl, ?_⟩) (by assumption) ?_
  rotate_left 1
  · (intro wx hSw; have q := hSw.fn; go_simp; try with_reducible rfl)
  try simp only [Act.put, List.setIfInBounds_toArray, List.set_cons_zero, List.set_cons_succ]
  refine wpAnyH_ready (rs := [3]) (by kernel_rfl) (by simp) ?_
  refine AllReadyH.cons (pickS (pickS (pickS pick0))) (fun K hK => ?_) AllReadyH.nil
  go_simp
  refine (ft_told hHeld hm.out h3).mono ?_
  rintro e w2 ⟨rfl, hc2⟩
  have HN := Lib.hid (hHeld.new hc2)
  clear hc2
  go_wp2_with fail
  refine hK.out _ _ (HN.out) (fun hHeld => ?_)
  clear hK K
  try simp only [Act.put, List.setIfInBounds_toArray, List.set_cons_zero, List.set_cons_succ]
  refine wpAnyH_take (i := 4) (v := ?_) (pickS (pickS (pickS (pickS pick0)))) (by kernel_rfl) (by kernel_rfl) (by kernel_rfl) (fun _ _ _ h => h) (Or.inl ⟨by rfl, ?_⟩) (by assumption) ?_
  rotate_left 1
  · (intro wx hSw; have wp := HW.out; go_simp; try with_reducible rfl)
  try simp only [Act.put, List.setIfInBounds_toArray, List.set_cons_zero, List.set_cons_succ]
  refine wpAnyH_take (i := 5) (v := ?_) (pickS (pickS (pickS (pickS (pickS pick0))))) (by kernel_rfl) (by kernel_rfl) (by kernel_rfl) (fun _ _ _ h => h) (Or.inl ⟨by rfl, ?_⟩) (by assumption) ?_
  rotate_left 1
  · (intro wx hSw; go_simp; try with_reducible rfl)
  try simp only [Act.put, List.setIfInBounds_toArray, List.set_cons_zero, List.set_cons_succ]
  refine wpAnyH_take (i := 6) (v := ?_) (pickS (pickS (pickS (pickS (pickS (pickS pick0)))))) (by kernel_rfl) (by kernel_rfl) (by kernel_rfl) (fun _ _ _ h => h) (Or.inl ⟨by rfl, ?_⟩) (by assumption) ?_
  rotate_left 1
  · (intro wx hSw; go_simp; try with_reducible rfl)
  try simp only [Act.put, List.setIfInBounds_toArray, List.set_cons_zero, List.set_cons_succ]
  refine wpAnyH_done (by kernel_rfl) ?_ _
  go_wp2
  go_ret
  exact ⟨rfl, HN.out⟩
theorem ft_q5 (h : FtSt w0 bx ok A m c bs w) (hm : Hid (bs.length = m)) (hmc : m ≤ c) (h3 : 3 ≤ m) (ht : told bs ≤ 1000) (h7 : told bs + 7 ≤ m) : Calls Try.prog 79 #[.pointer (some ⟨bx, 0, none⟩), .pointer (some ⟨bx + 1 + 1, 0, none⟩)] w fun e w' => e = .returned (.bool (decide (sealedL (bs.take (told bs + 7))))) ∧ FtSt w0 bx ok A m c bs w' := by
  have HI := Lib.hid h
  have g1 : (0 : Int) ≤ (told bs : Int) + 7 := by omega
  have g2 : (told bs : Int) + 7 ≤ (c : Int) := by omega
  have g3 : told bs + 7 ≤ c := by omega
  have g4 : 4 ≤ told bs + 7 := by omega
  have HTL : Hid ((bs.take (told bs + 7)).length = told bs + 7) := by show _ = _; rw [List.length_take, hm.out]; omega
  have HTB : Hid (told bs + 7 ≤ bs.length) := by show _ ≤ _; rw [hm.out]; exact h7
  have HW : Hid (IntKind.i64.wrap ((told bs : Int) + 7) = (told bs : Int) + 7) := IntWalk.i64_in _ (by omega)
  clear h
  go_enter Try.func79, Try.ntmps79
  go_wp2
  refine wp_region_held_drew (S := fun wx => FtSt w0 bx ok A m c bs wx) (by kernel_rfl) (HI.out.new ((Chg.refl _ _).drew)) (fun hHeld => ?_)
  refine wpAnyH_take (i := 0) (v := ?_) pick0 (by kernel_rfl) (by kernel_rfl) (by kernel_rfl) (fun _ _ _ h => h) (Or.inl ⟨by rfl, ?_⟩) (by assumption) ?_
  rotate_left 1
  · (intro wx hSw; have q := hSw.box; go_simp; try with_reducible rfl)
  try simp only [Act.put, List.setIfInBounds_toArray, List.set_cons_zero, List.set_cons_succ]
  refine wpAnyH_take (i := 1) (v := ?_) (pickS pick0) (by kernel_rfl) (by kernel_rfl) (by kernel_rfl) (fun _ _ _ h => h) (Or.inl ⟨by rfl, ?_⟩) (by assumption) ?_
  rotate_left 1
  · (intro wx hSw; have q := hSw.fn; go_simp; try with_reducible rfl)
  try simp only [Act.put, List.setIfInBounds_toArray, List.set_cons_zero, List.set_cons_succ]
  refine wpAnyH_ready (rs := [2]) (by kernel_rfl) (by simp) ?_
  refine AllReadyH.cons (pickS (pickS pick0)) (fun K hK => ?_) AllReadyH.nil
  go_simp
  refine (ft_told hHeld hm.out h3).mono ?_
  rintro e w2 ⟨rfl, hc2⟩
  have HN := Lib.hid (hHeld.new hc2)
  clear hc2
  go_wp2_with fail
  refine hK.out _ _ (HN.out) (fun hHeld => ?_)
  clear hK K
  try simp only [Act.put, List.setIfInBounds_toArray, List.set_cons_zero, List.set_cons_succ]
  refine wpAnyH_take (i := 3) (v := ?_) (pickS (pickS (pickS pick0))) (by kernel_rfl) (by kernel_rfl) (by kernel_rfl) (fun _ _ _ h => h) (Or.inl ⟨by rfl, ?_⟩) (by assumption) ?_
  rotate_left 1
  · (intro wx hSw; have wp := HW.out; go_simp; try with_reducible rfl)
  try simp only [Act.put, List.setIfInBounds_toArray, List.set_cons_zero, List.set_cons_succ]
  refine wpAnyH_take (i := 4) (v := ?_) (pickS (pickS (pickS (pickS pick0)))) (by kernel_rfl) (by kernel_rfl) (by kernel_rfl) (fun _ _ _ h => h) (Or.inl ⟨by rfl, ?_⟩) (by assumption) ?_
  rotate_left 1
  · (intro wx hSw; go_simp; try with_reducible rfl)
  try simp only [Act.put, List.setIfInBounds_toArray, List.set_cons_zero, List.set_cons_succ]
  refine wpAnyH_ready (rs := [5]) (by kernel_rfl) (by simp) ?_
  refine AllReadyH.cons (pickS (pickS (pickS (pickS (pickS pick0))))) (fun K hK => ?_) AllReadyH.nil
  go_simp
  refine (m_sealed (Kd.C_take hHeld.b _ HTB.out) HTL.out g3 g4).mono ?_
  rintro e w3 ⟨rfl, hc3⟩
  have HN2 := Lib.hid (hHeld.new hc3)
  clear hc3
  go_wp2_with fail
  refine hK.out _ _ (HN2.out) (fun hHeld => ?_)
  clear hK K
  try simp only [Act.put, List.setIfInBounds_toArray, List.set_cons_zero, List.set_cons_succ]
  refine wpAnyH_take (i := 6) (v := ?_) (pickS (pickS (pickS (pickS (pickS (pickS pick0)))))) (by kernel_rfl) (by kernel_rfl) (by kernel_rfl) (fun _ _ _ h => h) (Or.inl ⟨by rfl, ?_⟩) (by assumption) ?_
  rotate_left 1
  · (intro wx hSw; go_simp; try with_reducible rfl)
  try simp only [Act.put, List.setIfInBounds_toArray, List.set_cons_zero, List.set_cons_succ]
  refine wpAnyH_done (by kernel_rfl) ?_ _
  go_wp2
  go_ret
  exact ⟨rfl, HN2.out⟩
end
theorem FtSt.here {w0 w : World} {bx : Nat} {ok : Nat → Prop} {A : Option Addr} {m c : Nat} {bs : List UInt8} (h : FtSt w0 bx ok A m c bs w) : FtSt w bx ok A m c bs w := ⟨h.box, h.fn, h.res, h.b, Chg.refl _ _⟩
theorem ft_new {P : Program} {n : Nat} {av : Array Value} {w : World} {bx : Nat} {ok : Nat → Prop} {A : Option Addr} {m c : Nat} {bs : List UInt8} {v : Value} (h : Calls P n av w fun e w' => e = .returned v ∧ FtSt w bx ok A m c bs w') : Calls P n av w fun e w' => e = .returned v ∧ Chg nob w w' :=
  h.mono fun e w' ⟨he, hk⟩ => ⟨he, hk.chg⟩
theorem ft_idx0 (f0 f1 f2 f3 f4 : Fn) (b0 b1 b2 b3 b4 : Array Value) (wx : World) : (Instr.index 124 (.agg #[.func f0 #[] b0, .int .i64 30, .func f1 #[] b1, .int .i64 31, .func f2 #[] b2, .int .i64 3, .func f3 #[] b3, .int .i64 30, .func f4 #[] b4, .int .i64 32]) (.int .i64 0)).run Try.prog wx = .ok (.agg #[.func f0 #[] b0, .int .i64 30]) wx := by
  have u := Try.underlying124
  have z := Try.sizeOf123
  have g := Try.isAgg123
  simp [Instr.index, run_underlying u, asIntOf, go_sem, part, z, g]
theorem ft_idx1 (f0 f1 f2 f3 f4 : Fn) (b0 b1 b2 b3 b4 : Array Value) (wx : World) : (Instr.index 124 (.agg #[.func f0 #[] b0, .int .i64 30, .func f1 #[] b1, .int .i64 31, .func f2 #[] b2, .int .i64 3, .func f3 #[] b3, .int .i64 30, .func f4 #[] b4, .int .i64 32]) (.int .i64 1)).run Try.prog wx = .ok (.agg #[.func f1 #[] b1, .int .i64 31]) wx := by
  have u := Try.underlying124
  have z := Try.sizeOf123
  have g := Try.isAgg123
  simp [Instr.index, run_underlying u, asIntOf, go_sem, part, z, g]
theorem ft_idx2 (f0 f1 f2 f3 f4 : Fn) (b0 b1 b2 b3 b4 : Array Value) (wx : World) : (Instr.index 124 (.agg #[.func f0 #[] b0, .int .i64 30, .func f1 #[] b1, .int .i64 31, .func f2 #[] b2, .int .i64 3, .func f3 #[] b3, .int .i64 30, .func f4 #[] b4, .int .i64 32]) (.int .i64 2)).run Try.prog wx = .ok (.agg #[.func f2 #[] b2, .int .i64 3]) wx := by
  have u := Try.underlying124
  have z := Try.sizeOf123
  have g := Try.isAgg123
  simp [Instr.index, run_underlying u, asIntOf, go_sem, part, z, g]
theorem ft_idx3 (f0 f1 f2 f3 f4 : Fn) (b0 b1 b2 b3 b4 : Array Value) (wx : World) : (Instr.index 124 (.agg #[.func f0 #[] b0, .int .i64 30, .func f1 #[] b1, .int .i64 31, .func f2 #[] b2, .int .i64 3, .func f3 #[] b3, .int .i64 30, .func f4 #[] b4, .int .i64 32]) (.int .i64 3)).run Try.prog wx = .ok (.agg #[.func f3 #[] b3, .int .i64 30]) wx := by
  have u := Try.underlying124
  have z := Try.sizeOf123
  have g := Try.isAgg123
  simp [Instr.index, run_underlying u, asIntOf, go_sem, part, z, g]
theorem ft_idx4 (f0 f1 f2 f3 f4 : Fn) (b0 b1 b2 b3 b4 : Array Value) (wx : World) : (Instr.index 124 (.agg #[.func f0 #[] b0, .int .i64 30, .func f1 #[] b1, .int .i64 31, .func f2 #[] b2, .int .i64 3, .func f3 #[] b3, .int .i64 30, .func f4 #[] b4, .int .i64 32]) (.int .i64 4)).run Try.prog wx = .ok (.agg #[.func f4 #[] b4, .int .i64 32]) wx := by
  have u := Try.underlying124
  have z := Try.sizeOf123
  have g := Try.isAgg123
  simp [Instr.index, run_underlying u, asIntOf, go_sem, part, z, g]
attribute [local go_sem] ft_idx0 ft_idx1 ft_idx2 ft_idx3 ft_idx4
def zeroF : Array Value := #[.int .u8 0, .slice none 0 0]
theorem ft_start {w : World} {ok : Nat → Prop} {A : Option Addr} {m c : Nat} {bs : List UInt8} (hb : Kd.byte.C w ok A bs) :
    FtSt w w.heap.size ok A m c bs (((w.alloc (.cells #[.slice A m c] 26)).alloc (.cells #[.int .u8 0, .slice none 0 0] 28)).alloc (.cells #[.func (.func 74) #[] #[.pointer (some ⟨w.heap.size, 0, none⟩)]] 76)) := by
  have h1 := heap_alloc_new w (.cells #[.slice A m c] 26)
  obtain ⟨w1, hw1⟩ : ∃ w1, w.alloc (.cells #[.slice A m c] 26) = w1 := ⟨_, rfl⟩
  have z1 : w1.heap.size = w.heap.size + 1 := by rw [← hw1]; simp
  have c1 : Chg nob w w1 := by rw [← hw1]; exact (Chg.refl _ _).alloc _
  rw [hw1] at h1 ⊢
  have h2 := heap_alloc_new w1 (.cells #[.int .u8 0, .slice none 0 0] 28)
  obtain ⟨w2, hw2⟩ : ∃ w2, w1.alloc (.cells #[.int .u8 0, .slice none 0 0] 28) = w2 := ⟨_, rfl⟩
  have z2 : w2.heap.size = w.heap.size + 1 + 1 := by rw [← hw2, World.size_alloc, z1]
  have c2 : Chg nob w1 w2 := by rw [← hw2]; exact (Chg.refl _ _).alloc _
  rw [hw2, z1] at h2
  rw [hw2]
  have h3 := heap_alloc_new w2 (.cells #[.func (.func 74) #[] #[.pointer (some ⟨w.heap.size, 0, none⟩)]] 76)
  have c3 : Chg nob w2 (w2.alloc (.cells #[.func (.func 74) #[] #[.pointer (some ⟨w.heap.size, 0, none⟩)]] 76)) := (Chg.refl _ _).alloc _
  rw [z2] at h3
  refine ⟨?_, ?_, c3.heap h2 (not_nob _), Kd.C_new hb ((c1.thenNew c2).thenNew c3), (c1.thenNew c2).thenNew c3⟩
  · rw [cell_of_row _ _ 0 _ _ _ (c3.heap (c2.heap h1 (not_nob _)) (not_nob _))]; rfl
  · rw [cell_of_row _ _ 0 _ _ _ h3]; rfl
/-- What Take gives. -/
def Taken (w : World) (bs : List UInt8) (e : Ending) (w' : World) : Prop :=
  Chg nob w w' ∧ ((takeE bs ≠ 0 ∧ e = .returned (.tuple #[.agg zeroF, .int .i64 0, .int .i64 (takeE bs)])) ∨
    (takeE bs = 0 ∧ ∃ A c, e = .returned (.tuple #[.agg #[.int .u8 (frOf bs).1.toNat, .slice A (told bs) c], .int .i64 (((told bs + 7 : Nat)) : Int), .int .i64 0]) ∧ told bs ≤ c ∧ Kd.byte.C w' (fun b => w.heap.size ≤ b) A (frOf bs).2))
/-- So many questions are answered with yes. -/
def asked (bs : List UInt8) : Nat → Prop
  | 0 => True
  | 1 => 3 ≤ bs.length
  | 2 => 3 ≤ bs.length ∧ bs[0]?.getD 0 ≠ 0
  | 3 => 3 ≤ bs.length ∧ bs[0]?.getD 0 ≠ 0 ∧ told bs ≤ 1000
  | 4 => 3 ≤ bs.length ∧ bs[0]?.getD 0 ≠ 0 ∧ told bs ≤ 1000 ∧ told bs + 7 ≤ bs.length
  | _ => 3 ≤ bs.length ∧ bs[0]?.getD 0 ≠ 0 ∧ told bs ≤ 1000 ∧ told bs + 7 ≤ bs.length ∧ sealedL (bs.take (told bs + 7))
theorem asked0 {bs : List UInt8} (h : ¬ 3 ≤ bs.length) : takeE bs = 30 := by rw [takeE, if_pos (by omega)]
theorem asked1 {bs : List UInt8} (h : asked bs 1) (hx : bs[0]?.getD 0 = 0) : takeE bs = 31 := by
  have h1 : 3 ≤ bs.length := h
  rw [takeE, if_neg (by omega), if_pos hx]
theorem asked2 {bs : List UInt8} (h : asked bs 2) (hx : ¬ told bs ≤ 1000) : takeE bs = 3 := by
  obtain ⟨h1, h2⟩ : 3 ≤ bs.length ∧ bs[0]?.getD 0 ≠ 0 := h
  rw [takeE, if_neg (by omega), if_neg h2, if_pos (by omega)]
theorem asked3 {bs : List UInt8} (h : asked bs 3) (hx : ¬ told bs + 7 ≤ bs.length) : takeE bs = 30 := by
  obtain ⟨h1, h2, h3⟩ : 3 ≤ bs.length ∧ bs[0]?.getD 0 ≠ 0 ∧ told bs ≤ 1000 := h
  rw [takeE, if_neg (by omega), if_neg h2, if_neg (by omega), if_pos (by omega)]
theorem asked4 {bs : List UInt8} (h : asked bs 4) (hx : ¬ sealedL (bs.take (told bs + 7))) : takeE bs = 32 := by
  obtain ⟨h1, h2, h3, h4⟩ : 3 ≤ bs.length ∧ bs[0]?.getD 0 ≠ 0 ∧ told bs ≤ 1000 ∧ told bs + 7 ≤ bs.length := h
  rw [takeE, if_neg (by omega), if_neg h2, if_neg (by omega), if_neg (by omega), if_neg hx]
theorem asked5 {bs : List UInt8} (h : asked bs 5) : takeE bs = 0 ∧ 3 ≤ bs.length ∧ told bs ≤ 1000 ∧ told bs + 7 ≤ bs.length := by
  obtain ⟨h1, h2, h3, h4, h5⟩ : 3 ≤ bs.length ∧ bs[0]?.getD 0 ≠ 0 ∧ told bs ≤ 1000 ∧ told bs + 7 ≤ bs.length ∧ sealedL (bs.take (told bs + 7)) := h
  rw [takeE, if_neg (by omega), if_neg h2, if_neg (by omega), if_neg (by omega), if_pos h5]
  exact ⟨rfl, h1, h3, h4⟩
def set2 (w : World) (r : Nat) (a b : Value) : World := (w.setCell ⟨r, 0, none⟩ a).setCell ⟨r, 1, none⟩ b
theorem set2_row {w : World} {r t : Nat} {c0 c1 : Value} (h : w.heap[r]? = some (.cells #[c0, c1] t (0, 0))) (a b : Value) : (set2 w r a b).heap[r]? = some (.cells #[a, b] t (0, 0)) := by
  simp [set2, World.setCell, Array.getElem?_modify, h]
theorem set2_chg {w0 w : World} {S : Nat → Prop} {r : Nat} (h : Chg S w0 w) (hr : S r ∨ w0.heap.size ≤ r) (a b : Value) : Chg S w0 (set2 w r a b) :=
  (h.setCell (p := ⟨r, 0, none⟩) hr a).setCell (p := ⟨r, 1, none⟩) hr b
theorem row2_loose {w : World} {g t : Nat} {a b : Value} (h : w.heap[g]? = some (.cells #[a, b] t (0, 0))) (j : Nat) : w.frozen? ⟨g, j, none⟩ = false := by simp [World.frozen?, h]
set_option maxRecDepth 100000 in
set_option maxHeartbeats 4000000 in
theorem f_take {w : World} {ok : Nat → Prop} {A : Option Addr} {m c : Nat} {bs : List UInt8} (hb : Kd.byte.C w ok A bs) (hm : bs.length = m) (hmc : m ≤ c) (hl : m ≤ 9223372036854775807) :
    Calls Try.prog 71 #[.slice A m c] w (Taken w bs) := by
  replace hb := Kd.C_mono (Kd.C_bound hb) (ok' := fun b => b < w.heap.size) (fun b hb => hb.2)
  have HOK : Hid (∀ b, b < w.heap.size → b < w.heap.size) := fun _ h => h
  obtain ⟨ok, hok⟩ : ∃ ok : Nat → Prop, (fun b => b < w.heap.size) = ok := ⟨_, rfl⟩
  replace HOK : Hid (∀ b, ok b → b < w.heap.size) := by subst hok; exact HOK
  rw [hok] at hb
  clear hok
  have HST0 := Lib.hid (ft_start (m := m) (c := c) hb)
  have HM := Lib.hid hm
  clear hb hm
  go_enter Try.func71, Try.ntmps71
  go_wp2
  go_step3
  go_wp2
  go_step3
  go_wp2
  generalize World.alloc (World.alloc (World.alloc w _) _) _ = w1 at HST0 ⊢
  go_loopw [6, 22] (fun v i wr => ∃ j : Nat, j ≤ 5 ∧ v = .int .i64 0 ∧ i = .int .i64 j ∧ Hid (FtSt w w.heap.size ok A m c bs wr) ∧ Hid (asked bs j)) (fun _ i _ => 5 - (intOf i).toNat)
  case atStart => exact ⟨0, by decide, rfl, rfl, HST0, trivial⟩
  case round =>
    obtain ⟨j, hj, rfl, rfl, HST, HA⟩ := hrel
    clear HST0
    have hj6 : j = 5 ∨ j = 0 ∨ j = 1 ∨ j = 2 ∨ j = 3 ∨ j = 4 := by omega
    rcases hj6 with rfl | rfl | rfl | rfl | rfl | rfl
    · rw [show (((5 : Nat)) : Int) = 5 from rfl]
      obtain ⟨hE, h3', h1000, h7'⟩ := asked5 HA.out
      have HE := Lib.hid hE
      rw [HM.out] at h3' h7'
      obtain ⟨x, hx⟩ : ∃ x, bs[0]? = some x := ⟨_, List.getElem?_eq_getElem (by rw [HM.out]; omega)⟩
      have HX := Lib.hid hx
      obtain ⟨ab, ao, rfl, _⟩ := byte_at HST.out.b hx
      have c5 := HST.out.fn
      clear hx hE HA
      go_wp2_with fail
      refine (ft_told HST.out HM.out h3').mono ?_
      rintro e w5 ⟨rfl, hc5⟩
      have HS5 := Lib.hid (HST.out.new hc5)
      have HX0 : Hid ((frOf bs).1 = x) := by show bs[0]?.getD 0 = x; rw [HX.out]; rfl
      have HX2 : Hid ((frOf bs).2 = (bs.drop 3).take (told bs)) := rfl
      have HSL : Hid (∀ wx, Kd.byte.C wx ok (some ⟨ab, ao, none⟩) bs → Kd.byte.C wx ok (if told bs = 0 then some ⟨ab, ao, none⟩ else some ⟨ab, ao + 3, none⟩) ((bs.drop 3).take (told bs))) := by
        intro wx hwx
        by_cases h0 : told bs = 0
        · rw [h0, List.take_zero]; exact Kd.C_nil _ _ _ _
        · rw [if_neg h0]
          have := C_dropB hwx 3 (3 + 1 + m) (by rw [HM.out]; omega) (by rw [HM.out]; omega)
          rw [if_neg (by omega), Option.map_some, add_at] at this
          exact Kd.C_take this _ (by rw [List.length_drop, HM.out]; omega)
      have HSLL : Hid (((bs.drop 3).take (told bs)).length = told bs) := by show _ = _; rw [List.length_take, List.length_drop, HM.out]; omega
      obtain ⟨T, hT⟩ : ∃ T, told bs = T := ⟨_, rfl⟩
      rw [hT] at HX2 HSL HSLL h7' h1000 ⊢
      have HT := Lib.hid hT
      have hWa : IntKind.i64.wrap (3 + (T : Int)) = 3 + (T : Int) := IntWalk.i64_in _ (by omega)
      have HWA := Lib.hid hWa
      have hWb : IntKind.i64.wrap ((T : Int) + 7) = (T : Int) + 7 := IntWalk.i64_in _ (by omega)
      have HWB := Lib.hid hWb
      have gg1 : (3 : Int) ≤ 3 + (T : Int) := by omega
      have gg2 : 3 + (T : Int) ≤ (c : Int) := by omega
      obtain ⟨r0, r1⟩ := row2c HS5.out.res
      clear hc5 hT hWa hWb c5 HST
      go_wp2
      refine wp_region_held_drew (S := fun wx => wx.cell? ⟨w.heap.size, 0, none⟩ = some (.slice (some ⟨ab, ao, none⟩) m c) ∧ Kd.byte.C wx ok (some ⟨ab, ao, none⟩) bs) (by kernel_rfl) (⟨HS5.out.box, Kd.C_new HS5.out.b ((Chg.refl _ _).drew)⟩) (fun hHeld => ?_)
      refine wpAnyH_take (i := 0) (v := ?_) pick0 (by kernel_rfl) (by kernel_rfl) (by kernel_rfl) (fun _ _ _ h => h) (Or.inl ⟨by rfl, ?_⟩) (by assumption) ?_
      rotate_left 1
      · (intro wx hSw; have q := hSw.1; go_simp; try with_reducible rfl)
      try simp only [Act.put, List.setIfInBounds_toArray, List.set_cons_zero, List.set_cons_succ]
      refine wpAnyH_take (i := 1) (v := ?_) (pickS pick0) (by kernel_rfl) (by kernel_rfl) (by kernel_rfl) (fun _ _ _ h => h) (Or.inl ⟨by rfl, ?_⟩) (by assumption) ?_
      rotate_left 1
      · (intro wx hSw; have gm : 0 < m := (by omega); go_simp; try with_reducible rfl)
      try simp only [Act.put, List.setIfInBounds_toArray, List.set_cons_zero, List.set_cons_succ]
      refine wpAnyH_take (i := 2) (v := ?_) (pickS (pickS pick0)) (by kernel_rfl) (by kernel_rfl) (by kernel_rfl) (fun _ _ _ h => h) (Or.inl ⟨by rfl, ?_⟩) (by assumption) ?_
      rotate_left 1
      · (intro wx hSw; obtain ⟨_, _, e, c1⟩ := byte_at hSw.2 HX.out; cases e; rw [Nat.add_zero] at c1; go_simp; try with_reducible rfl)
      try simp only [Act.put, List.setIfInBounds_toArray, List.set_cons_zero, List.set_cons_succ]
      refine wpAnyH_take (i := 4) (v := ?_) (pickS (pickS (pickS (pickS pick0)))) (by kernel_rfl) (by kernel_rfl) (by kernel_rfl) (fun _ _ _ h => h) (Or.inl ⟨by rfl, ?_⟩) (by assumption) ?_
      rotate_left 1
      · (intro wx hSw; have q := hSw.1; go_simp; try with_reducible rfl)
      try simp only [Act.put, List.setIfInBounds_toArray, List.set_cons_zero, List.set_cons_succ]
      refine wpAnyH_take (i := 5) (v := ?_) (pickS (pickS (pickS (pickS (pickS pick0))))) (by kernel_rfl) (by kernel_rfl) (by kernel_rfl) (fun _ _ _ h => h) (Or.inl ⟨by rfl, ?_⟩) (by assumption) ?_
      rotate_left 1
      · (intro wx hSw; go_simp; try with_reducible rfl)
      try simp only [Act.put, List.setIfInBounds_toArray, List.set_cons_zero, List.set_cons_succ]
      refine wpAnyH_take (i := 6) (v := ?_) (pickS (pickS (pickS (pickS (pickS (pickS pick0)))))) (by kernel_rfl) (by kernel_rfl) (by kernel_rfl) (fun _ _ _ h => h) (Or.inl ⟨by rfl, ?_⟩) (by assumption) ?_
      rotate_left 1
      · (intro wx hSw; have wp := HWA.out; go_simp; try with_reducible rfl)
      try simp only [Act.put, List.setIfInBounds_toArray, List.set_cons_zero, List.set_cons_succ]
      refine wpAnyH_take (i := 7) (v := ?_) (pickS (pickS (pickS (pickS (pickS (pickS (pickS pick0))))))) (by kernel_rfl) (by kernel_rfl) (by kernel_rfl) (fun _ _ _ h => h) (Or.inl ⟨by rfl, ?_⟩) (by assumption) ?_
      rotate_left 1
      · (intro wx hSw; go_simp; try with_reducible rfl)
      try simp only [Act.put, List.setIfInBounds_toArray, List.set_cons_zero, List.set_cons_succ]
      refine wpAnyH_take (i := 8) (v := ?_) (pickS (pickS (pickS (pickS (pickS (pickS (pickS (pickS pick0)))))))) (by kernel_rfl) (by kernel_rfl) (by kernel_rfl) (fun _ _ _ h => h) (Or.inl ⟨by rfl, ?_⟩) (by assumption) ?_
      rotate_left 1
      · (intro wx hSw; have wp := HWA.out; go_simp; try with_reducible rfl)
      try simp only [Act.put, List.setIfInBounds_toArray, List.set_cons_zero, List.set_cons_succ]
      refine wpAnyH_take (i := 9) (v := ?_) (pickS (pickS (pickS (pickS (pickS (pickS (pickS (pickS (pickS pick0))))))))) (by kernel_rfl) (by kernel_rfl) (by kernel_rfl) (fun _ _ _ h => h) (Or.inl ⟨by rfl, ?_⟩) (by assumption) ?_
      rotate_left 1
      · (intro wx hSw; have e1 : (3 + (T : Int)).toNat = T + 3 := (by omega); go_simp; try with_reducible rfl)
      try simp only [Act.put, List.setIfInBounds_toArray, List.set_cons_zero, List.set_cons_succ]
      refine wpAnyH_take (i := 12) (v := ?_) (pickS (pickS (pickS (pickS (pickS (pickS (pickS (pickS (pickS (pickS (pickS (pickS pick0)))))))))))) (by kernel_rfl) (by kernel_rfl) (by kernel_rfl) (fun _ _ _ h => h) (Or.inl ⟨by rfl, ?_⟩) (by assumption) ?_
      rotate_left 1
      · (intro wx hSw; go_simp; try with_reducible rfl)
      try simp only [Act.put, List.setIfInBounds_toArray, List.set_cons_zero, List.set_cons_succ]
      refine wpAnyH_take (i := 13) (v := ?_) (pickS (pickS (pickS (pickS (pickS (pickS (pickS (pickS (pickS (pickS (pickS (pickS (pickS pick0))))))))))))) (by kernel_rfl) (by kernel_rfl) (by kernel_rfl) (fun _ _ _ h => h) (Or.inl ⟨by rfl, ?_⟩) (by assumption) ?_
      rotate_left 1
      · (intro wx hSw; have wp := HWB.out; go_simp; try with_reducible rfl)
      try simp only [Act.put, List.setIfInBounds_toArray, List.set_cons_zero, List.set_cons_succ]
      refine wpAnyH_ready (rs := [3]) (by kernel_rfl) (by simp) ?_
      refine AllReadyH.cons (pickS (pickS (pickS pick0))) (fun K hK => ?_) AllReadyH.nil
      go_simp
      have HN3 : Hid (Chg nob w5 (w5.alloc (.cells #[] 5)).drew) := ((Chg.refl nob w5).alloc _).drew
      have HE3 : Hid (Kd.byte.R 5 (w5.alloc (.cells #[] 5)).drew w5.heap.size (fun b => w5.heap.size ≤ b) (.slice (some ⟨w5.heap.size, 0, none⟩) 0 0) ([] : List UInt8)) := Kd.R_new (byte_ge (empty_own w5 w5.heap.size 5 Kd.byte (Nat.le_refl _))) ((Chg.refl _ _).drew)
      refine hK.out _ _ (⟨HN3.out.cell HS5.out.box (not_nob _), Kd.C_new HS5.out.b HN3.out⟩) (fun hHeld => ?_)
      clear hK K
      try simp only [Act.put, List.setIfInBounds_toArray, List.set_cons_zero, List.set_cons_succ]
      refine wpAnyH_ready (rs := [10]) (by kernel_rfl) (by simp) ?_
      refine AllReadyH.cons (pickS (pickS (pickS (pickS (pickS (pickS (pickS (pickS (pickS (pickS pick0)))))))))) (fun K hK => ?_) AllReadyH.nil
      refine step_appB rfl _ _ rfl w5.heap.size _ _ (.slice (some ⟨w5.heap.size, 0, none⟩) 0 0) ([] : List UInt8) ((bs.drop 3).take T) _ T _ rfl rfl HSLL.out HE3.out (HSL.out _ hHeld.2) HN3.out.size T (by simp) (by omega) ?_
      intro A6 c6 w6 hR6 hC6 _
      have HN6 : Hid (Chg nob w5 w6) := HN3.out.trans hC6 (fun i hi => .inr (Kd.R_own HE3.out i hi.symm).1)
      have HR6 := Lib.hid (byte_ge hR6)
      clear hR6 hC6 HE3
      refine hK.out _ _ (⟨HN6.out.cell HS5.out.box (not_nob _), Kd.C_new HS5.out.b HN6.out⟩) (fun hHeld => ?_)
      clear hK K
      try simp only [Act.put, List.setIfInBounds_toArray, List.set_cons_zero, List.set_cons_succ]
      refine wpAnyH_take (i := 11) (v := ?_) (pickS (pickS (pickS (pickS (pickS (pickS (pickS (pickS (pickS (pickS (pickS pick0))))))))))) (by kernel_rfl) (by kernel_rfl) (by kernel_rfl) (fun _ _ _ h => h) (Or.inl ⟨by rfl, ?_⟩) (by assumption) ?_
      rotate_left 1
      · (intro wx hSw; go_simp; try with_reducible rfl)
      try simp only [Act.put, List.setIfInBounds_toArray, List.set_cons_zero, List.set_cons_succ]
      refine wpAnyH_ready (rs := [14]) (by kernel_rfl) (by simp) ?_
      refine AllReadyH.cons (pickS (pickS (pickS (pickS (pickS (pickS (pickS (pickS (pickS (pickS (pickS (pickS (pickS (pickS pick0)))))))))))))) (fun K hK => ?_) AllReadyH.nil
      have hres := (HS5.out.new HN6.out).res
      obtain ⟨r0, r1⟩ := row2c hres
      have f0 := row2_loose hres 0
      have f1 := row2_loose hres 1
      have hC7 : Chg (fun b => b = w.heap.size + 1) w6 (set2 w6 (w.heap.size + 1) (.int .u8 x.toNat) (.slice A6 T c6)) := set2_chg (S := fun b => b = w.heap.size + 1) (Chg.refl _ _) (.inl rfl) _ _
      have HC7 := Lib.hid hC7
      clear hC7
      have HROW := Lib.hid (set2_row hres (.int .u8 x.toNat) (.slice A6 T c6))
      go_simp
      refine hK.out _ _ (⟨HC7.out.cell (HN6.out.cell HS5.out.box (not_nob _)) (by show ¬ _ = _; exact Nat.ne_of_lt (Nat.lt_succ_self _)), Kd.C_chg hHeld.2 HC7.out (fun b hb e => by have := HOK.out b hb; omega)⟩) (fun hHeld => ?_)
      clear hK K
      try simp only [Act.put, List.setIfInBounds_toArray, List.set_cons_zero, List.set_cons_succ]
      refine wpAnyH_take (i := 15) (v := ?_) (pickS (pickS (pickS (pickS (pickS (pickS (pickS (pickS (pickS (pickS (pickS (pickS (pickS (pickS (pickS pick0))))))))))))))) (by kernel_rfl) (by kernel_rfl) (by kernel_rfl) (fun _ _ _ h => h) (Or.inl ⟨by rfl, ?_⟩) (by assumption) ?_
      rotate_left 1
      · (intro wx hSw; go_simp; try with_reducible rfl)
      try simp only [Act.put, List.setIfInBounds_toArray, List.set_cons_zero, List.set_cons_succ]
      refine wpAnyH_take (i := 16) (v := ?_) (pickS (pickS (pickS (pickS (pickS (pickS (pickS (pickS (pickS (pickS (pickS (pickS (pickS (pickS (pickS (pickS pick0)))))))))))))))) (by kernel_rfl) (by kernel_rfl) (by kernel_rfl) (fun _ _ _ h => h) (Or.inl ⟨by rfl, ?_⟩) (by assumption) ?_
      rotate_left 1
      · (intro wx hSw; go_simp; try with_reducible rfl)
      try simp only [Act.put, List.setIfInBounds_toArray, List.set_cons_zero, List.set_cons_succ]
      refine wpAnyH_done (by kernel_rfl) ?_ _
      clear hHeld
      have HFIN : Hid (∀ e w', w' = set2 w6 (w.heap.size + 1) (.int .u8 x.toNat) (.slice A6 T c6) → e = .returned (.tuple #[.agg #[.int .u8 x.toNat, .slice A6 T c6], .int .i64 ((T : Int) + 7), .int .i64 0]) → Taken w bs e w') := by
        rintro e w' rfl rfl
        obtain ⟨k1, k2, k3⟩ := Kd.R_read HR6.out
        have hlt := heap_lt HS5.out.res
        refine ⟨(HS5.out.chg.thenNew HN6.out).trans HC7.out (fun i hi => .inr (by have : i = w.heap.size + 1 := hi; omega)), .inr ⟨HE.out, A6, c6, ?_, ?_, ?_⟩⟩
        · rw [HX0.out, HT.out]
          rfl
        · rw [HT.out]; exact k3
        · rw [HX2.out]
          rw [List.nil_append] at k1
          exact Kd.C_mono (Kd.C_chg k1 HC7.out (fun b hb e => by have : b = w.heap.size + 1 := e; omega)) (fun b hb => by have := HS5.out.chg.size; omega)
      generalize (if T = 0 then (some ⟨ab, ao, none⟩ : Option Addr) else some ⟨ab, ao + 3, none⟩) = AA
      go_wp2
      have hrow := HROW.out
      have hfin := HFIN.out
      unfold set2 at hrow hfin
      generalize (World.setCell _ (⟨w.heap.size + 1, 1, none⟩ : Addr) _) = w9 at hrow hfin ⊢
      obtain ⟨q0, q1⟩ := row2c hrow
      try simp only [Exit.inBlock, Exit.then]
      try rw [Exit.noGoto_ret]
      refine bodyPost_ret (by simp [results, Try.results71, go_sem, q0, q1]; rfl) rfl ?_
      exact hfin _ _ rfl rfl
    · rw [show (((0 : Nat)) : Int) = 0 from rfl]
      have HS1 : Hid (FtSt w w.heap.size ok A m c bs (wr.alloc (.cells #[.func (.func 75) #[] #[.pointer (some ⟨w.heap.size, 0, none⟩)], .int .i64 30] 123))) := HST.out.new ((Chg.refl _ _).alloc _)
      have hrow8 := row2c (heap_alloc_new wr (.cells #[.func (.func 75) #[] #[.pointer (some ⟨w.heap.size, 0, none⟩)], .int .i64 30] 123))
      go_wp2_with fail
      refine (ft_new (ft_q1 HS1.out.here)).mono ?_
      rintro e w5 ⟨rfl, hc5⟩
      have h5 := HS1.out.new hc5
      have e8 := hc5.cell hrow8.2 (not_nob _)
      clear hc5 hrow8
      by_cases ht : 3 ≤ m
      · have HA2 : Hid (asked bs 1) := by show 3 ≤ bs.length; rw [HM.out]; exact ht
        rw [show decide ((3 : Int) ≤ (m : Int)) = true from by simp; omega]
        have H5 := Lib.hid h5
        clear h5 HS1 e8
        go_wp2
        exact ⟨⟨1, by decide, rfl, rfl, H5, HA2⟩, by decide⟩
      · have HE : Hid (takeE bs = 30) := asked0 (by rw [HM.out]; exact ht)
        rw [show decide ((3 : Int) ≤ (m : Int)) = false from by simp; omega]
        have hres := h5.res
        obtain ⟨r0, r1⟩ := row2c hres
        have f0 := row2_loose hres 0
        have f1 := row2_loose hres 1
        have HROW := Lib.hid (set2_row hres (.int .u8 0) (.slice none 0 0))
        have HCHG := Lib.hid (set2_chg h5.chg (r := w.heap.size + 1) (.inr (Nat.le_succ _)) (.int .u8 0) (.slice none 0 0))
        clear h5 hres HS1
        go_wp2
        have hrow := HROW.out
        have hchg := HCHG.out
        unfold set2 at hrow hchg
        generalize (World.setCell _ (⟨w.heap.size + 1, 1, none⟩ : Addr) _) = w9 at hrow hchg ⊢
        obtain ⟨q0, q1⟩ := row2c hrow
        try simp only [Exit.inBlock, Exit.then]
        try rw [Exit.noGoto_ret]
        refine bodyPost_ret (by simp [results, Try.results71, go_sem, q0, q1]; rfl) rfl ?_
        exact ⟨hchg, .inl ⟨by rw [HE.out]; decide, by rw [HE.out]; rfl⟩⟩
    · rw [show (((1 : Nat)) : Int) = 1 from rfl]
      have h3 : 3 ≤ m := by have h : 3 ≤ bs.length := HA.out; rw [HM.out] at h; exact h
      obtain ⟨x, hx⟩ : ∃ x, bs[0]? = some x := ⟨_, List.getElem?_eq_getElem (by rw [HM.out]; omega)⟩
      have HX := Lib.hid hx
      clear hx
      have HS1 : Hid (FtSt w w.heap.size ok A m c bs (wr.alloc (.cells #[.func (.func 76) #[] #[.pointer (some ⟨w.heap.size, 0, none⟩)], .int .i64 31] 123))) := HST.out.new ((Chg.refl _ _).alloc _)
      have hrow8 := row2c (heap_alloc_new wr (.cells #[.func (.func 76) #[] #[.pointer (some ⟨w.heap.size, 0, none⟩)], .int .i64 31] 123))
      go_wp2_with fail
      refine (ft_new (ft_q2 HS1.out.here HX.out (by omega))).mono ?_
      rintro e w5 ⟨rfl, hc5⟩
      have h5 := HS1.out.new hc5
      have e8 := hc5.cell hrow8.2 (not_nob _)
      clear hc5 hrow8
      by_cases hxz : x = 0
      · have HE : Hid (takeE bs = 31) := asked1 HA.out (by rw [HX.out]; exact hxz)
        rw [show (!((x.toNat : Int) == 0)) = false from by subst hxz; rfl]
        have hres := h5.res
        obtain ⟨r0, r1⟩ := row2c hres
        have f0 := row2_loose hres 0
        have f1 := row2_loose hres 1
        have HROW := Lib.hid (set2_row hres (.int .u8 0) (.slice none 0 0))
        have HCHG := Lib.hid (set2_chg h5.chg (r := w.heap.size + 1) (.inr (Nat.le_succ _)) (.int .u8 0) (.slice none 0 0))
        clear h5 hres HS1
        go_wp2
        have hrow := HROW.out
        have hchg := HCHG.out
        unfold set2 at hrow hchg
        generalize (World.setCell _ (⟨w.heap.size + 1, 1, none⟩ : Addr) _) = w9 at hrow hchg ⊢
        obtain ⟨q0, q1⟩ := row2c hrow
        try simp only [Exit.inBlock, Exit.then]
        try rw [Exit.noGoto_ret]
        refine bodyPost_ret (by simp [results, Try.results71, go_sem, q0, q1]; rfl) rfl ?_
        exact ⟨hchg, .inl ⟨by rw [HE.out]; decide, by rw [HE.out]; rfl⟩⟩
      · have ht : x ≠ 0 := hxz
        have HA2 : Hid (asked bs 2) := ⟨HA.out, by rw [HX.out]; exact ht⟩
        have hx0 : x.toNat ≠ 0 := fun h => ht (UInt8.toNat_inj.1 h)
        rw [show (!((x.toNat : Int) == 0)) = true from by simp; omega]
        have H5 := Lib.hid h5
        clear h5 HS1 e8
        go_wp2
        exact ⟨⟨2, by decide, rfl, rfl, H5, HA2⟩, by decide⟩
    · rw [show (((2 : Nat)) : Int) = 2 from rfl]
      have h3 : 3 ≤ m := by have h : 3 ≤ bs.length := HA.out.1; rw [HM.out] at h; exact h
      have HS1 : Hid (FtSt w w.heap.size ok A m c bs (wr.alloc (.cells #[.func (.func 77) #[] #[.pointer (some ⟨w.heap.size + 1 + 1, 0, none⟩)], .int .i64 3] 123))) := HST.out.new ((Chg.refl _ _).alloc _)
      have hrow8 := row2c (heap_alloc_new wr (.cells #[.func (.func 77) #[] #[.pointer (some ⟨w.heap.size + 1 + 1, 0, none⟩)], .int .i64 3] 123))
      go_wp2_with fail
      refine (ft_new (ft_q3 HS1.out.here HM h3)).mono ?_
      rintro e w5 ⟨rfl, hc5⟩
      have h5 := HS1.out.new hc5
      have e8 := hc5.cell hrow8.2 (not_nob _)
      clear hc5 hrow8
      by_cases ht : told bs ≤ 1000
      · have HA2 : Hid (asked bs 3) := ⟨HA.out.1, HA.out.2, ht⟩
        rw [show decide ((told bs : Int) ≤ 1000) = true from by simp; omega]
        have H5 := Lib.hid h5
        clear h5 HS1 e8
        go_wp2
        exact ⟨⟨3, by decide, rfl, rfl, H5, HA2⟩, by decide⟩
      · have HE : Hid (takeE bs = 3) := asked2 HA.out ht
        rw [show decide ((told bs : Int) ≤ 1000) = false from by simp; omega]
        have hres := h5.res
        obtain ⟨r0, r1⟩ := row2c hres
        have f0 := row2_loose hres 0
        have f1 := row2_loose hres 1
        have HROW := Lib.hid (set2_row hres (.int .u8 0) (.slice none 0 0))
        have HCHG := Lib.hid (set2_chg h5.chg (r := w.heap.size + 1) (.inr (Nat.le_succ _)) (.int .u8 0) (.slice none 0 0))
        clear h5 hres HS1
        go_wp2
        have hrow := HROW.out
        have hchg := HCHG.out
        unfold set2 at hrow hchg
        generalize (World.setCell _ (⟨w.heap.size + 1, 1, none⟩ : Addr) _) = w9 at hrow hchg ⊢
        obtain ⟨q0, q1⟩ := row2c hrow
        try simp only [Exit.inBlock, Exit.then]
        try rw [Exit.noGoto_ret]
        refine bodyPost_ret (by simp [results, Try.results71, go_sem, q0, q1]; rfl) rfl ?_
        exact ⟨hchg, .inl ⟨by rw [HE.out]; decide, by rw [HE.out]; rfl⟩⟩
    · rw [show (((3 : Nat)) : Int) = 3 from rfl]
      have h3 : 3 ≤ m := by have h : 3 ≤ bs.length := HA.out.1; rw [HM.out] at h; exact h
      have h1000 : told bs ≤ 1000 := HA.out.2.2
      have HS1 : Hid (FtSt w w.heap.size ok A m c bs (wr.alloc (.cells #[.func (.func 78) #[] #[.pointer (some ⟨w.heap.size, 0, none⟩), .pointer (some ⟨w.heap.size + 1 + 1, 0, none⟩)], .int .i64 30] 123))) := HST.out.new ((Chg.refl _ _).alloc _)
      have hrow8 := row2c (heap_alloc_new wr (.cells #[.func (.func 78) #[] #[.pointer (some ⟨w.heap.size, 0, none⟩), .pointer (some ⟨w.heap.size + 1 + 1, 0, none⟩)], .int .i64 30] 123))
      go_wp2_with fail
      refine (ft_new (ft_q4 HS1.out.here HM h3 h1000)).mono ?_
      rintro e w5 ⟨rfl, hc5⟩
      have h5 := HS1.out.new hc5
      have e8 := hc5.cell hrow8.2 (not_nob _)
      clear hc5 hrow8
      by_cases ht : told bs + 7 ≤ m
      · have HA2 : Hid (asked bs 4) := ⟨HA.out.1, HA.out.2.1, HA.out.2.2, by rw [HM.out]; exact ht⟩
        rw [show decide ((told bs : Int) + 7 ≤ (m : Int)) = true from by simp; omega]
        have H5 := Lib.hid h5
        clear h5 HS1 e8
        go_wp2
        exact ⟨⟨4, by decide, rfl, rfl, H5, HA2⟩, by decide⟩
      · have HE : Hid (takeE bs = 30) := asked3 HA.out (by rw [HM.out]; exact ht)
        rw [show decide ((told bs : Int) + 7 ≤ (m : Int)) = false from by simp; omega]
        have hres := h5.res
        obtain ⟨r0, r1⟩ := row2c hres
        have f0 := row2_loose hres 0
        have f1 := row2_loose hres 1
        have HROW := Lib.hid (set2_row hres (.int .u8 0) (.slice none 0 0))
        have HCHG := Lib.hid (set2_chg h5.chg (r := w.heap.size + 1) (.inr (Nat.le_succ _)) (.int .u8 0) (.slice none 0 0))
        clear h5 hres HS1
        go_wp2
        have hrow := HROW.out
        have hchg := HCHG.out
        unfold set2 at hrow hchg
        generalize (World.setCell _ (⟨w.heap.size + 1, 1, none⟩ : Addr) _) = w9 at hrow hchg ⊢
        obtain ⟨q0, q1⟩ := row2c hrow
        try simp only [Exit.inBlock, Exit.then]
        try rw [Exit.noGoto_ret]
        refine bodyPost_ret (by simp [results, Try.results71, go_sem, q0, q1]; rfl) rfl ?_
        exact ⟨hchg, .inl ⟨by rw [HE.out]; decide, by rw [HE.out]; rfl⟩⟩
    · rw [show (((4 : Nat)) : Int) = 4 from rfl]
      have h3 : 3 ≤ m := by have h : 3 ≤ bs.length := HA.out.1; rw [HM.out] at h; exact h
      have h1000 : told bs ≤ 1000 := HA.out.2.2.1
      have h7 : told bs + 7 ≤ m := by have h : told bs + 7 ≤ bs.length := HA.out.2.2.2; rw [HM.out] at h; exact h
      have HS1 : Hid (FtSt w w.heap.size ok A m c bs (wr.alloc (.cells #[.func (.func 79) #[] #[.pointer (some ⟨w.heap.size, 0, none⟩), .pointer (some ⟨w.heap.size + 1 + 1, 0, none⟩)], .int .i64 32] 123))) := HST.out.new ((Chg.refl _ _).alloc _)
      have hrow8 := row2c (heap_alloc_new wr (.cells #[.func (.func 79) #[] #[.pointer (some ⟨w.heap.size, 0, none⟩), .pointer (some ⟨w.heap.size + 1 + 1, 0, none⟩)], .int .i64 32] 123))
      go_wp2_with fail
      refine (ft_new (ft_q5 HS1.out.here HM hmc h3 h1000 h7)).mono ?_
      rintro e w5 ⟨rfl, hc5⟩
      have h5 := HS1.out.new hc5
      have e8 := hc5.cell hrow8.2 (not_nob _)
      clear hc5 hrow8
      by_cases ht : sealedL (bs.take (told bs + 7))
      · have HA2 : Hid (asked bs 5) := ⟨HA.out.1, HA.out.2.1, HA.out.2.2.1, HA.out.2.2.2, ht⟩
        rw [decide_eq_true ht]
        have H5 := Lib.hid h5
        clear h5 HS1 e8
        go_wp2
        exact ⟨⟨5, by decide, rfl, rfl, H5, HA2⟩, by decide⟩
      · have HE : Hid (takeE bs = 32) := asked4 HA.out ht
        rw [decide_eq_false ht]
        have hres := h5.res
        obtain ⟨r0, r1⟩ := row2c hres
        have f0 := row2_loose hres 0
        have f1 := row2_loose hres 1
        have HROW := Lib.hid (set2_row hres (.int .u8 0) (.slice none 0 0))
        have HCHG := Lib.hid (set2_chg h5.chg (r := w.heap.size + 1) (.inr (Nat.le_succ _)) (.int .u8 0) (.slice none 0 0))
        clear h5 hres HS1
        go_wp2
        have hrow := HROW.out
        have hchg := HCHG.out
        unfold set2 at hrow hchg
        generalize (World.setCell _ (⟨w.heap.size + 1, 1, none⟩ : Addr) _) = w9 at hrow hchg ⊢
        obtain ⟨q0, q1⟩ := row2c hrow
        try simp only [Exit.inBlock, Exit.then]
        try rw [Exit.noGoto_ret]
        refine bodyPost_ret (by simp [results, Try.results71, go_sem, q0, q1]; rfl) rfl ?_
        exact ⟨hchg, .inl ⟨by rw [HE.out]; decide, by rw [HE.out]; rfl⟩⟩
end Go.Proofs.Ytmahjeafoogamaa
