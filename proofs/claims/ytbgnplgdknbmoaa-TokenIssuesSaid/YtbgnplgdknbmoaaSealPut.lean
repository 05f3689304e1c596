/- Bytes and their sum: what a call of Put does. -/
import Derived.Test.YtbgnplgdknbmoaaSealLaid
import Derived.Test.YtbgnplgdknbmoaaAppend
namespace Go.Proofs.Ytbgnplgdknbmoaa
open Go.RowKit
set_option linter.unusedVariables false
set_option linter.unusedSimpArgs false
/-- A call has told new bytes. -/
def Tells (w : World) (l : List UInt8) (m : Nat) (e : Ending) (w' : World) : Prop := ∃ A c, e = .returned (.slice A m c) ∧ l.length = m ∧ m ≤ c ∧ Kd.byte.C w' (fun b => w.heap.size ≤ b) A l ∧ Chg nob w w'
theorem s_put {w : World} {k0 k1 : Nat} (h0 : k0 < 18446744073709551616) (h1 : k1 < 18446744073709551616) {ok : Nat → Prop} {A : Option Addr} {m c : Nat} {bs : List UInt8} (hb : Kd.byte.C w ok A bs) (hok : ∀ b, ok b → b < w.heap.size) (hm : bs.length = m) (hmc : m ≤ c) (hl : m ≤ 1000000000) :
    Calls Try.prog 18 #[.agg #[.int .u64 k0, .int .u64 k1], .slice A m c] w (Tells w (sealed k0 k1 bs) (m + 8)) := by
  have HB := Lib.hid hb
  have HM := Lib.hid hm
  have HOK := Lib.hid hok
  clear hb hm hok
  have c0 : Chg nob w (w.alloc (.cells #[.int .u64 k0, .int .u64 k1] 42)) := (Chg.refl _ _).alloc _
  go_enter Try.func18, Try.ntmps18
  go_wp2_with fail
  refine (s_sum h0 h1 (Kd.C_new HB.out c0) (fun b hb => Nat.lt_of_lt_of_le (HOK.out b hb) c0.size) HM.out hmc).mono ?_
  rintro e w2 ⟨rfl, hc2⟩
  have hn2 := c0.thenNew hc2
  have hS := sumN_lt h0 h1 bs
  go_wp2_with fail
  refine (s_laid _ hS).mono ?_
  rintro e w3 ⟨rfl, hc3⟩
  have hn3 := hn2.thenNew hc3
  obtain ⟨a0, a1, a2, a3, a4, a5, a6, a7, hbe⟩ : ∃ a0 a1 a2 a3 a4 a5 a6 a7, beB (sumN k0 k1 bs) = [a0, a1, a2, a3, a4, a5, a6, a7] := ⟨_, _, _, _, _, _, _, _, rfl⟩
  rw [show ((beB (sumN k0 k1 bs)).map encB).toArray = #[Value.int .u8 (a0.toNat : Int), Value.int .u8 (a1.toNat : Int), Value.int .u8 (a2.toNat : Int), Value.int .u8 (a3.toNat : Int), Value.int .u8 (a4.toNat : Int), Value.int .u8 (a5.toNat : Int), Value.int .u8 (a6.toNat : Int), Value.int .u8 (a7.toNat : Int)] from by rw [hbe]; rfl]
  have HBE := Lib.hid hbe
  clear hc2 hc3 hbe hn2 c0
  go_wp2
  have hn4 := hn3.alloc (.cells #[Value.int .u8 (a0.toNat : Int), Value.int .u8 (a1.toNat : Int), Value.int .u8 (a2.toNat : Int), Value.int .u8 (a3.toNat : Int), Value.int .u8 (a4.toNat : Int), Value.int .u8 (a5.toNat : Int), Value.int .u8 (a6.toNat : Int), Value.int .u8 (a7.toNat : Int)] 62)
  have hC8 : Kd.byte.C (w3.alloc (.cells #[Value.int .u8 (a0.toNat : Int), Value.int .u8 (a1.toNat : Int), Value.int .u8 (a2.toNat : Int), Value.int .u8 (a3.toNat : Int), Value.int .u8 (a4.toNat : Int), Value.int .u8 (a5.toNat : Int), Value.int .u8 (a6.toNat : Int), Value.int .u8 (a7.toNat : Int)] 62)) (fun b => b = w3.heap.size) (some ⟨w3.heap.size, 0, none⟩) (beB (sumN k0 k1 bs)) := C_block (heap_alloc_new w3 _) (by rw [HBE.out]; rfl) (by rw [beB_len]; decide)
  have hs3 := hn3.size
  generalize hg : w3.heap.size = g at hC8 hs3 ⊢
  have hsz : (w3.alloc (.cells #[Value.int .u8 (a0.toNat : Int), Value.int .u8 (a1.toNat : Int), Value.int .u8 (a2.toNat : Int), Value.int .u8 (a3.toNat : Int), Value.int .u8 (a4.toNat : Int), Value.int .u8 (a5.toNat : Int), Value.int .u8 (a6.toNat : Int), Value.int .u8 (a7.toNat : Int)] 62)).heap.size = g + 1 := by rw [← hg]; simp
  generalize w3.alloc _ = w4 at hn4 hC8 hsz ⊢
  have HC8 := Lib.hid (Kd.C_new hC8 ((Chg.refl _ w4).drew))
  have HB5 := Lib.hid (Kd.C_new HB.out (hn4.drew))
  have HN5 : Hid (Chg nob w w4.drew) := hn4.drew
  have hsz5 : w4.drew.heap.size = g + 1 := hsz
  clear hn3 hn4 hC8 hg hsz
  refine wp_region_held_drew (S := fun _ => True) (by kernel_rfl) trivial (fun hHeld => ?_)
  generalize w4.drew = w5 at HC8 HB5 HN5 hsz5 ⊢
  refine wpAnyH_take (i := 1) (v := ?_) (pickS pick0) (by kernel_rfl) (by kernel_rfl) (by kernel_rfl) (fun _ _ _ h => h) (Or.inl ⟨by rfl, ?_⟩) (by assumption) ?_
  rotate_left 1
  · (intro w hSw; go_simp; try with_reducible rfl)
  try simp only [Act.put, List.setIfInBounds_toArray, List.set_cons_zero, List.set_cons_succ]
  refine wpAnyH_take (i := 3) (v := .slice (some ⟨g, 0, none⟩) 8 8) (pickS (pickS (pickS pick0))) (by kernel_rfl) (by kernel_rfl) (by kernel_rfl) (fun _ _ _ h => h) (Or.inl ⟨by rfl, ?_⟩) (by assumption) ?_
  · (intro w hSw; go_simp; try with_reducible rfl)
  try simp only [Act.put, List.setIfInBounds_toArray, List.set_cons_zero, List.set_cons_succ]
  refine wpAnyH_ready (rs := [0]) (by kernel_rfl) (by simp) ?_
  refine AllReadyH.cons pick0 (fun K hK => ?_) AllReadyH.nil
  go_simp
  refine hK.out _ _ trivial (fun _ => ?_)
  clear hK K
  try simp only [Act.put, List.setIfInBounds_toArray, List.set_cons_zero, List.set_cons_succ]
  have HE : Hid (Kd.byte.R 5 (w5.alloc (.cells #[] 5)) w5.heap.size (fun k => k = w5.heap.size) (.slice (some ⟨w5.heap.size, 0, none⟩) 0 0) ([] : List UInt8)) := empty_own w5 w5.heap.size 5 Kd.byte (Nat.le_refl _)
  rw [hsz5] at HE
  have c6 : Chg nob w5 (w5.alloc (.cells #[] 5)) := (Chg.refl _ _).alloc _
  refine wpAnyH_ready (rs := [2]) (by kernel_rfl) (by simp) ?_
  refine AllReadyH.cons (pickS (pickS pick0)) (fun K hK => ?_) AllReadyH.nil
  refine step_appB rfl _ _ rfl (g + 1) _ _ (.slice (some ⟨g + 1, 0, none⟩) 0 0) ([] : List UInt8) bs A m c rfl rfl HM.out HE.out (Kd.C_new HB5.out c6) (by rw [← hsz5]; exact c6.size) m (by simp) (by omega) ?_
  intro A6 c6' w6 hR6 hC6 _
  have hn6 : Chg nob w5 w6 := c6.trans hC6 (fun i hi => .inr (by
    have : some i = some (g + 1) := hi
    cases this
    rw [hsz5]
    exact Nat.le_refl _))
  have HR6 := Lib.hid (byte_ge hR6)
  have hs6 := hn6.size
  refine hK.out _ _ trivial (fun _ => ?_)
  clear hK K hR6 hC6 HE
  try simp only [Act.put, List.setIfInBounds_toArray, List.set_cons_zero, List.set_cons_succ]
  refine wpAnyH_ready (rs := [4]) (by kernel_rfl) (by simp) ?_
  refine AllReadyH.cons (pickS (pickS (pickS (pickS pick0)))) (fun K hK => ?_) AllReadyH.nil
  refine step_appB rfl _ _ rfl (g + 1) _ _ (.slice A6 m c6') ([] ++ bs) (beB (sumN k0 k1 bs)) (some ⟨g, 0, none⟩) 8 8 rfl rfl (beB_len _) HR6.out (Kd.C_new HC8.out hn6) (by rw [← hsz5]; exact hs6) (m + 8) (by rw [List.nil_append, HM.out]) (by omega) ?_
  intro A7 c7 w7 hR7 hC7 _
  have hn7 : Chg nob w5 w7 := hn6.trans hC7 (fun i hi => .inr (by have := (Kd.R_own HR6.out i hi.symm).1; omega))
  have HN7 : Hid (Chg nob w w7) := HN5.out.thenNew hn7
  have HR7 := Lib.hid (byte_ge hR7)
  refine hK.out _ _ trivial (fun _ => ?_)
  clear hK K hR7 hC7 HR6
  try simp only [Act.put, List.setIfInBounds_toArray, List.set_cons_zero, List.set_cons_succ]
  refine wpAnyH_take (i := 5) (v := ?_) (pickS (pickS (pickS (pickS (pickS pick0))))) (by kernel_rfl) (by kernel_rfl) (by kernel_rfl) (fun _ _ _ h => h) (Or.inl ⟨by rfl, ?_⟩) (by assumption) ?_
  rotate_left 1
  · (intro w hSw; go_simp; try with_reducible rfl)
  try simp only [Act.put, List.setIfInBounds_toArray, List.set_cons_zero, List.set_cons_succ]
  refine wpAnyH_done (by kernel_rfl) ?_ _
  go_wp2
  go_ret
  obtain ⟨k1', k2', k3'⟩ := Kd.R_read HR7.out
  refine ⟨A7, c7, rfl, ?_, k3', Kd.C_mono k1' (fun b hb => by omega), HN7.out⟩
  rw [sealed, List.length_append, beB_len, HM.out]
end Go.Proofs.Ytbgnplgdknbmoaa
