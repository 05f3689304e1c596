/- Tokens: what a call of Issue does. -/
import Derived.Test.YtbgnplgdknbmoaaToken
import Derived.Test.YtbgnplgdknbmoaaSealPut
import Derived.Test.YtbgnplgdknbmoaaFieldRef
import Derived.Deep.RegionHeld3
import Derived.Deep.DrawnRows
namespace Go.Proofs.Ytbgnplgdknbmoaa
open Go.RowKit
set_option linter.unusedVariables false
set_option linter.unusedSimpArgs false
def tokB (s : ByteArray) (nd inc idx : Nat) : List UInt8 := txtB s ++ numB nd ++ numB inc ++ numB idx
/-- The key in block n, the token in block n + 1. -/
structure IssSt (w0 : World) (n k0 k1 : Nat) (s : ByteArray) (nd inc idx : Nat) (w : World) : Prop where
  c : (w.cell? ⟨n, 0, none⟩ = some (.int .u64 k0) ∧ w.cell? ⟨n, 1, none⟩ = some (.int .u64 k1)) ∧ (w.cell? ⟨n + 1, 0, none⟩ = some (.string s) ∧ w.cell? ⟨n + 1, 1, none⟩ = some (.int .i64 nd) ∧ w.cell? ⟨n + 1, 2, none⟩ = some (.int .u32 inc) ∧ w.cell? ⟨n + 1, 3, none⟩ = some (.int .u64 idx))
  chg : Chg nob w0 w
/-- A slice that the call has made so far. -/
def Got (w0 w : World) (A : Option Addr) (m c : Nat) (l : List UInt8) : Prop := Hid (l.length = m) ∧ m ≤ c ∧ Kd.byte.C w (fun b => w0.heap.size ≤ b) A l
section
variable {w0 w w' : World} {n k0 k1 : Nat} {s : ByteArray} {nd inc idx : Nat}
theorem IssSt.new (h : IssSt w0 n k0 k1 s nd inc idx w) (hc : Chg nob w w') : IssSt w0 n k0 k1 s nd inc idx w' := by
  obtain ⟨⟨⟨a0, a1⟩, b0, b1, b2, b3⟩, h2⟩ := h
  exact ⟨⟨⟨hc.cell a0 (not_nob _), hc.cell a1 (not_nob _)⟩, hc.cell b0 (not_nob _), hc.cell b1 (not_nob _), hc.cell b2 (not_nob _), hc.cell b3 (not_nob _)⟩, h2.thenNew hc⟩
theorem Laid.got {l : List UInt8} {e : Ending} (h : Laid w l e w') (hb : w0.heap.size ≤ w.heap.size) {m : Nat} (hm : Hid (l.length = m)) : ∃ A c, e = .returned (.slice A m c) ∧ Got w0 w' A m c l ∧ Chg nob w w' := by
  obtain ⟨A, c, he, h1, hR, hC⟩ := h.slice
  have h3 := hm.out
  subst h3
  obtain ⟨k1, _, k3⟩ := Kd.R_read hR
  exact ⟨A, c, he, ⟨hm, k3, Kd.C_mono k1 (fun b hb' => Nat.le_trans hb hb')⟩, hC⟩
theorem iss_text (h : IssSt w0 n k0 k1 s nd inc idx w) (hs : s.size ≤ 24) {m : Nat} (hm : Hid ((txtB s).length = m)) :
    Calls Try.prog 17 #[.slice none 0 0, .string s] w fun e w' => ∃ A c, e = .returned (.slice A m c) ∧ IssSt w0 n k0 k1 s nd inc idx w' ∧ Got w0 w' A m c (txtB s) := by
  refine (field_text (Kd.C_nil _ _ (fun _ => False) none) rfl (Nat.zero_le _) s (by omega)).mono ?_
  intro e w' hL
  rw [show ([] : List UInt8) ++ (numB s.size ++ strB s) = txtB s from rfl] at hL
  obtain ⟨A, c, he, hG, hC⟩ := Laid.got (w0 := w0) hL h.chg.size hm
  exact ⟨A, c, he, h.new hC, hG⟩
theorem iss_num (h : IssSt w0 n k0 k1 s nd inc idx w) {A : Option Addr} {m m2 c v : Nat} {l : List UInt8} (hG : Got w0 w A m c l) (hm2 : m ≤ 1000000) (hv : v < 18446744073709551616) (hm : Hid ((l ++ numB v).length = m2)) :
    Calls Try.prog 16 #[.slice A m c, .int .u64 v] w fun e w' => ∃ A c, e = .returned (.slice A m2 c) ∧ IssSt w0 n k0 k1 s nd inc idx w' ∧ Got w0 w' A m2 c (l ++ numB v) := by
  refine (field_num hG.2.2 hG.1.out (by omega) v (by omega) (by omega)).mono ?_
  intro e w' hL
  rw [Int.toNat_natCast] at hL
  obtain ⟨A, c, he, hG', hC⟩ := Laid.got (w0 := w0) hL h.chg.size hm
  exact ⟨A, c, he, h.new hC, hG'⟩
theorem iss_put (h : IssSt w0 n k0 k1 s nd inc idx w) (h0 : k0 < 18446744073709551616) (h1 : k1 < 18446744073709551616) {A : Option Addr} {m c : Nat} {l : List UInt8} (hG : Got w0 w A m c l) (hm2 : m ≤ 1000000) :
    Calls Try.prog 18 #[.agg #[.int .u64 k0, .int .u64 k1], .slice A m c] w fun e w' => ∃ A c, e = .returned (.slice A (m + 8) c) ∧ IssSt w0 n k0 k1 s nd inc idx w' ∧ Got w0 w' A (m + 8) c (sealed k0 k1 l) := by
  refine (s_put h0 h1 (Kd.C_bound hG.2.2) (fun b hb => hb.2) hG.1.out hG.2.1 (by omega)).mono ?_
  rintro e w' ⟨A, c, he, hl, hmc, hC, hc⟩
  exact ⟨A, c, he, h.new hc, hl, hmc, Kd.C_mono hC (fun b hb => Nat.le_trans h.chg.size hb)⟩
end
theorem iss_start {w : World} (t1 t2 k0 k1 : Nat) (s : ByteArray) (nd inc idx : Nat) : IssSt w w.heap.size k0 k1 s nd inc idx ((w.alloc (.cells #[.int .u64 k0, .int .u64 k1] t1)).alloc (.cells #[.string s, .int .i64 nd, .int .u32 inc, .int .u64 idx] t2)) := by
  have h5 := heap_alloc_new w (.cells #[.int .u64 k0, .int .u64 k1] t1)
  have h6 := ((Chg.refl nob (w.alloc (.cells #[.int .u64 k0, .int .u64 k1] t1))).alloc (.cells #[.string s, .int .i64 nd, .int .u32 inc, .int .u64 idx] t2)).heap h5 (not_nob _)
  have h7 := heap_alloc_new (w.alloc (.cells #[.int .u64 k0, .int .u64 k1] t1)) (.cells #[.string s, .int .i64 nd, .int .u32 inc, .int .u64 idx] t2)
  rw [show (w.alloc (.cells #[.int .u64 k0, .int .u64 k1] t1)).heap.size = w.heap.size + 1 from by simp] at h7
  exact ⟨⟨⟨by rw [cell_of_row _ _ 0 _ _ _ h6]; rfl, by rw [cell_of_row _ _ 1 _ _ _ h6]; rfl⟩, t_cells h7⟩, ((Chg.refl _ _).alloc _).alloc _⟩
theorem tok_len {s : ByteArray} {nd inc idx : Nat} (hs : s.size ≤ 24) (h1 : nd < 18446744073709551616) (h2 : inc < 18446744073709551616) (h3 : idx < 18446744073709551616) : (txtB s).length ≤ 33 ∧ (txtB s ++ numB nd).length ≤ 42 ∧ (txtB s ++ numB nd ++ numB inc).length ≤ 51 ∧ (tokB s nd inc idx).length ≤ 60 := by
  have q0 := numB_len (n := s.size) (by omega)
  have q1 := numB_len h1
  have q2 := numB_len h2
  have q3 := numB_len h3
  simp only [tokB, txtB, List.length_append, strB_len]
  omega
set_option maxRecDepth 100000 in
set_option maxHeartbeats 4000000 in
theorem t_issue {w : World} {k0 k1 : Nat} (h0 : k0 < 18446744073709551616) (h1 : k1 < 18446744073709551616) (s : ByteArray) (nd inc idx : Nat) (hok : tokOk s nd = true) (h3 : inc < 4294967296) (h4 : idx < 18446744073709551616) {m : Nat} (hm : (tokB s nd inc idx).length = m) :
    Calls Try.prog 7 #[.agg #[.int .u64 k0, .int .u64 k1], .agg #[.string s, .int .i64 nd, .int .u32 inc, .int .u64 idx]] w fun e w' => ∃ A c, e = .returned (.tuple #[.slice A (m + 8) c, .int .i64 0]) ∧ Got w w' A (m + 8) c (sealed k0 k1 (tokB s nd inc idx)) ∧ Chg nob w w' := by
  have hok' := hok
  unfold tokOk nameB at hok'
  rw [Bool.and_eq_true, Bool.and_eq_true, decide_eq_true_iff, decide_eq_true_iff, strL_len] at hok'
  have hs : s.size ≤ 24 := hok'.1.1.2.1
  have hnd : nd ≤ 7 := by have := hok'.2; omega
  have HOK := Lib.hid hok
  obtain ⟨l1, l2, l3, l4⟩ := tok_len (s := s) (nd := nd) (inc := inc) (idx := idx) hs (by omega) (by omega) h4
  obtain ⟨p1, hp1⟩ : ∃ q, (txtB s).length = q := ⟨_, rfl⟩
  obtain ⟨p2, hp2⟩ : ∃ q, (txtB s ++ numB nd).length = q := ⟨_, rfl⟩
  obtain ⟨p3, hp3⟩ : ∃ q, (txtB s ++ numB nd ++ numB inc).length = q := ⟨_, rfl⟩
  rw [hp1] at l1
  rw [hp2] at l2
  rw [hp3] at l3
  rw [hm] at l4
  have HP1 := Lib.hid hp1
  have HP2 := Lib.hid hp2
  have HP3 := Lib.hid hp3
  have HM : Hid ((txtB s ++ numB nd ++ numB inc ++ numB idx).length = m) := hm
  have g1 : p1 ≤ 1000000 := by omega
  have g2 : p2 ≤ 1000000 := by omega
  have g3 : p3 ≤ 1000000 := by omega
  have g4 : m ≤ 1000000 := by omega
  have n1 : nd < 18446744073709551616 := by omega
  have n2 : inc < 18446744073709551616 := by omega
  have hst := iss_start (w := w) 42 26 k0 k1 s nd inc idx
  obtain ⟨⟨d0, d1⟩, d2, d3, d4, d5⟩ := hst.c
  clear hok hok' hp1 hp2 hp3 hm l1 l2 l3 l4
  go_enter Try.func7, Try.ntmps7
  go_wp2_with fail
  refine (t_right s (by omega) nd inc idx).mono ?_
  rintro e w2 ⟨rfl, hc2⟩
  rw [HOK.out]
  have hst2 := hst.new hc2
  have hst3 := hst2.new ((Chg.refl _ _).drew)
  clear hst hc2 d0 d1 d2 d3 d4 d5
  have wn : IntKind.u64.wrap (nd : Int) = (nd : Int) := by rw [wrap_u64, Nat.mod_eq_of_lt n1]
  have wi : IntKind.u64.wrap (inc : Int) = (inc : Int) := by rw [wrap_u64, Nat.mod_eq_of_lt n2]
  go_wp2
  go_region_held3 (fun w' => (w'.cell? ⟨w.heap.size, 0, none⟩ = some (.int .u64 k0) ∧ w'.cell? ⟨w.heap.size, 1, none⟩ = some (.int .u64 k1)) ∧ (w'.cell? ⟨w.heap.size + 1, 0, none⟩ = some (.string s) ∧ w'.cell? ⟨w.heap.size + 1, 1, none⟩ = some (.int .i64 nd) ∧ w'.cell? ⟨w.heap.size + 1, 2, none⟩ = some (.int .u32 inc) ∧ w'.cell? ⟨w.heap.size + 1, 3, none⟩ = some (.int .u64 idx))) (exact IssSt.c (by assumption))
    (first | (go_at_call 17; with_reducible refine (iss_text (by assumption) hs HP1).mono ?_; rintro e w' ⟨A1, c1, rfl, hq, hG⟩) | (go_at_call 16; with_reducible refine (iss_num (by assumption) (by assumption) g1 n1 HP2).mono ?_; rintro e w' ⟨A2, c2, rfl, hq2, hG2⟩))
  have hst4 := hq2.new ((Chg.refl _ _).drew)
  have hG4 : Got w _ A2 p2 c2 (txtB s ++ numB nd) := ⟨hG2.1, hG2.2.1, Kd.C_new hG2.2.2 ((Chg.refl _ _).drew)⟩
  clear hq hG hst2 hst3 hq2 hG2
  go_wp2
  go_region_held3 (fun w' => (w'.cell? ⟨w.heap.size, 0, none⟩ = some (.int .u64 k0) ∧ w'.cell? ⟨w.heap.size, 1, none⟩ = some (.int .u64 k1)) ∧ (w'.cell? ⟨w.heap.size + 1, 0, none⟩ = some (.string s) ∧ w'.cell? ⟨w.heap.size + 1, 1, none⟩ = some (.int .i64 nd) ∧ w'.cell? ⟨w.heap.size + 1, 2, none⟩ = some (.int .u32 inc) ∧ w'.cell? ⟨w.heap.size + 1, 3, none⟩ = some (.int .u64 idx))) (exact IssSt.c (by assumption))
    (first | (go_at_call 16; (first | (with_reducible refine (iss_num (by assumption) hG4 g2 n2 HP3).mono ?_; rintro e w' ⟨A3, c3, rfl, hq3, hG3⟩) | (with_reducible refine (iss_num (by assumption) hG3 g3 h4 HM).mono ?_; rintro e w' ⟨A5, c5, rfl, hq5, hG5⟩))) | (go_at_call 18; with_reducible refine (iss_put (by assumption) h0 h1 hG5 g4).mono ?_; rintro e w' ⟨A6, c6, rfl, hq6, hG6⟩))
  go_wp2
  all_goals
    go_ret2
    exact ⟨A6, c6, rfl, hG6, hq6.chg⟩
end Go.Proofs.Ytbgnplgdknbmoaa
