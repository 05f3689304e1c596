/- Tokens: a refused Issue; the reference's bytes. -/
import Derived.Test.YtbgnplgdknbmoaaTokenIssue
import Derived.Test.YtbgnplgdknbmoaaSealPutRef
namespace Go.Proofs.Ytbgnplgdknbmoaa
open Go.RowKit
set_option linter.unusedVariables false
set_option linter.unusedSimpArgs false
theorem t_refused {w : World} {k0 k1 : Nat} (s : ByteArray) (hs : s.size ≤ 9223372036854775807) (nd inc idx : Int) (hok : tokOk s nd = false) :
    Calls Try.prog 7 #[.agg #[.int .u64 k0, .int .u64 k1], .agg #[.string s, .int .i64 nd, .int .u32 inc, .int .u64 idx]] w fun e w' => e = .returned (.tuple #[.slice none 0 0, .int .i64 2]) ∧ Chg nob w w' := by
  have HOK := Lib.hid hok
  have hc0 : Chg nob w ((w.alloc (.cells #[.int .u64 k0, .int .u64 k1] 42)).alloc (.cells #[.string s, .int .i64 nd, .int .u32 inc, .int .u64 idx] 26)) := ((Chg.refl _ _).alloc _).alloc _
  clear hok
  go_enter Try.func7, Try.ntmps7
  go_wp2_with fail
  refine (t_right s hs nd inc idx).mono ?_
  rintro e w2 ⟨rfl, hc2⟩
  rw [HOK.out]
  have hc := hc0.thenNew hc2
  clear hc0 hc2
  go_wp2
  go_ret2
  exact ⟨rfl, hc⟩
theorem iss_move {w0 w w' : World} {n k0 k1 : Nat} {s : ByteArray} {nd inc idx : Nat} {S : Nat → Prop} (h : IssSt w0 n k0 k1 s nd inc idx w) (hc : Chg S w w') (hS : ∀ i, S i → n + 1 < i ∧ w0.heap.size ≤ i) : IssSt w0 n k0 k1 s nd inc idx w' := by
  obtain ⟨⟨⟨a0, a1⟩, b0, b1, b2, b3⟩, h2⟩ := h
  have e0 : ¬ S n := fun e => by have := hS n e; omega
  have e1 : ¬ S (n + 1) := fun e => by have := hS _ e; omega
  exact ⟨⟨⟨hc.cell a0 e0, hc.cell a1 e0⟩, hc.cell b0 e1, hc.cell b1 e1, hc.cell b2 e1, hc.cell b3 e1⟩, h2.trans hc (fun i hi => .inr (hS i hi).2)⟩
set_option maxHeartbeats 2000000 in
theorem tr_bytes {w : World} {k0 k1 : Nat} (h0 : k0 < 18446744073709551616) (h1 : k1 < 18446744073709551616) (s : ByteArray) (nd inc idx : Nat) (hs : s.size ≤ 24) (n1 : nd < 18446744073709551616) (n2 : inc < 18446744073709551616) (n3 : idx < 18446744073709551616) {m : Nat} (hm : (tokB s nd inc idx).length = m) :
    Calls Try.prog 11 #[.agg #[.int .u64 k0, .int .u64 k1], .agg #[.string s, .int .i64 nd, .int .u32 inc, .int .u64 idx]] w fun e w' => ∃ A c, e = .returned (.slice A (m + 8) c) ∧ Got w w' A (m + 8) c (sealed k0 k1 (tokB s nd inc idx)) ∧ Chg nob w w' := by
  obtain ⟨l1, l2, l3, l4⟩ := tok_len (s := s) (nd := nd) (inc := inc) (idx := idx) hs n1 n2 n3
  obtain ⟨p1, hp1⟩ : ∃ q, (txtB s).length = q := ⟨_, rfl⟩
  obtain ⟨p2, hp2⟩ : ∃ q, (txtB s ++ numB nd).length = q := ⟨_, rfl⟩
  obtain ⟨p3, hp3⟩ : ∃ q, (txtB s ++ numB nd ++ numB inc).length = q := ⟨_, rfl⟩
  rw [hp1] at l1
  rw [hp2] at l2
  rw [hp3] at l3
  rw [hm] at l4
  have HP1 := Lib.hid hp1
  have HP2 := Lib.hid hp2
  have HP3 := Lib.hid hp3
  have HM : Hid ((txtB s ++ numB nd ++ numB inc ++ numB idx).length = m) := hm
  have wn : IntKind.u64.wrap (nd : Int) = (nd : Int) := by rw [wrap_u64, Nat.mod_eq_of_lt n1]
  have wi : IntKind.u64.wrap (inc : Int) = (inc : Int) := by rw [wrap_u64, Nat.mod_eq_of_lt n2]
  have hst := iss_start (w := w) 23 26 k0 k1 s nd inc idx
  obtain ⟨⟨d0, d1⟩, d2, d3, d4, d5⟩ := hst.c
  have HST := Lib.hid hst
  clear hst hp1 hp2 hp3 hm
  go_enter Try.func11, Try.ntmps11
  go_wp2_with fail
  have hB2 : (World.alloc (World.alloc w (.cells #[.int .u64 k0, .int .u64 k1] 23)) (.cells #[.string s, .int .i64 nd, .int .u32 inc, .int .u64 idx] 26)).heap.size = w.heap.size + 2 := by simp
  have HB2 := Lib.hid hB2
  clear hB2
  generalize World.alloc (World.alloc w _) _ = w1 at HST HB2 d0 d1 d2 d3 d4 d5 ⊢
  refine (ref_text s (by omega)).mono ?_
  intro e w2 hL
  obtain ⟨A1, c1, rfl, _, hR, hC⟩ := hL.slice
  rw [show numB s.size ++ strB s = txtB s from rfl] at hR ⊢
  rw [HP1.out] at hR ⊢
  have HR1 := Lib.hid hR
  have HB := Lib.hid HST.out.chg.size
  have HZ1 := Lib.hid hC.size
  have HS1 := Lib.hid (HST.out.new hC)
  clear hR hC hL d0 d1 d2 d3 d4 d5
  obtain ⟨⟨d0, d1⟩, d2, d3, d4, d5⟩ := HS1.out.c
  go_wp2_with fail
  refine (ref_num (nd : Int) (by omega) (by omega)).mono ?_
  intro e x2 hL
  obtain ⟨Y2, y2, rfl, _, hY, hCy⟩ := hL.slice
  rw [Int.toNat_natCast] at hY ⊢
  obtain ⟨r2, hr2⟩ : ∃ q, (numB nd).length = q := ⟨_, rfl⟩
  rw [hr2] at hY ⊢
  have HL2 := Lib.hid hr2
  have HY := Lib.hid (Kd.R_read hY).1
  have HRn := Lib.hid (Kd.R_new HR1.out hCy)
  have hzn := Nat.le_trans HZ1.out hCy.size
  have HSn := Lib.hid (HS1.out.new hCy)
  have HPn : Hid ((txtB s).length + r2 = p2) := by show _ = _; rw [← HL2.out, ← List.length_append]; exact HP2.out
  clear hY hCy hL hr2 d0 d1 d2 d3 d4 d5 HR1 HS1
  go_wp2_with (at_builtin; refine wp_appB rfl _ _ rfl w1.heap.size _ _ (.slice A1 p1 c1) (txtB s) (numB nd) Y2 r2 y2 rfl rfl HL2.out HRn.out HY.out hzn p2 HPn.out (by omega) ?_)
  intro A2 c2 z2 hR hC _
  have HR2 : Hid (Kd.byte.R 5 z2 w1.heap.size (fun b => w1.heap.size ≤ b) (.slice A2 p2 c2) (txtB s ++ numB nd)) := by
    show Kd.byte.R _ _ _ _ _ _
    have := byte_ge hR
    simpa only [List.append_assoc] using this
  have HZ2 := Lib.hid (Nat.le_trans hzn hC.size)
  have HS2 : Hid (IssSt w w.heap.size k0 k1 s nd inc idx z2) := iss_move HSn.out hC (fun i hi => by have := (Kd.R_own HRn.out i hi.symm).1; have := HB2.out; omega)
  clear hR hC HRn HSn HPn HY hzn
  obtain ⟨⟨d0, d1⟩, d2, d3, d4, d5⟩ := HS2.out.c
  go_wp2_with fail
  refine (ref_num (inc : Int) (by omega) (by omega)).mono ?_
  intro e x3 hL
  obtain ⟨Y3, y3, rfl, _, hY, hCy⟩ := hL.slice
  rw [Int.toNat_natCast] at hY ⊢
  obtain ⟨r3, hr3⟩ : ∃ q, (numB inc).length = q := ⟨_, rfl⟩
  rw [hr3] at hY ⊢
  have HL3 := Lib.hid hr3
  have HY := Lib.hid (Kd.R_read hY).1
  have HRn := Lib.hid (Kd.R_new HR2.out hCy)
  have hzn := Nat.le_trans HZ2.out hCy.size
  have HSn := Lib.hid (HS2.out.new hCy)
  have HPn : Hid ((txtB s ++ numB nd).length + r3 = p3) := by show _ = _; rw [← HL3.out, ← List.length_append]; exact HP3.out
  clear hY hCy hL hr3 d0 d1 d2 d3 d4 d5 HR2 HS2
  go_wp2_with (at_builtin; refine wp_appB rfl _ _ rfl w1.heap.size _ _ (.slice A2 p2 c2) (txtB s ++ numB nd) (numB inc) Y3 r3 y3 rfl rfl HL3.out HRn.out HY.out hzn p3 HPn.out (by omega) ?_)
  intro A3 c3 z3 hR hC _
  have HR3 : Hid (Kd.byte.R 5 z3 w1.heap.size (fun b => w1.heap.size ≤ b) (.slice A3 p3 c3) (txtB s ++ numB nd ++ numB inc)) := by
    show Kd.byte.R _ _ _ _ _ _
    have := byte_ge hR
    simpa only [List.append_assoc] using this
  have HZ3 := Lib.hid (Nat.le_trans hzn hC.size)
  have HS3 : Hid (IssSt w w.heap.size k0 k1 s nd inc idx z3) := iss_move HSn.out hC (fun i hi => by have := (Kd.R_own HRn.out i hi.symm).1; have := HB2.out; omega)
  clear hR hC HRn HSn HPn HY hzn
  obtain ⟨⟨d0, d1⟩, d2, d3, d4, d5⟩ := HS3.out.c
  go_wp2_with fail
  refine (ref_num (idx : Int) (by omega) (by omega)).mono ?_
  intro e x4 hL
  obtain ⟨Y4, y4, rfl, _, hY, hCy⟩ := hL.slice
  rw [Int.toNat_natCast] at hY ⊢
  obtain ⟨r4, hr4⟩ : ∃ q, (numB idx).length = q := ⟨_, rfl⟩
  rw [hr4] at hY ⊢
  have HL4 := Lib.hid hr4
  have HY := Lib.hid (Kd.R_read hY).1
  have HRn := Lib.hid (Kd.R_new HR3.out hCy)
  have hzn := Nat.le_trans HZ3.out hCy.size
  have HSn := Lib.hid (HS3.out.new hCy)
  have HPn : Hid ((txtB s ++ numB nd ++ numB inc).length + r4 = m) := by show _ = _; rw [← HL4.out, ← List.length_append]; exact HM.out
  clear hY hCy hL hr4 d0 d1 d2 d3 d4 d5 HR3 HS3
  go_wp2_with (at_builtin; refine wp_appB rfl _ _ rfl w1.heap.size _ _ (.slice A3 p3 c3) (txtB s ++ numB nd ++ numB inc) (numB idx) Y4 r4 y4 rfl rfl HL4.out HRn.out HY.out hzn m HPn.out (by omega) ?_)
  intro A4 c4 z4 hR hC _
  have HR4 : Hid (Kd.byte.R 5 z4 w1.heap.size (fun b => w1.heap.size ≤ b) (.slice A4 m c4) (txtB s ++ numB nd ++ numB inc ++ numB idx)) := by
    show Kd.byte.R _ _ _ _ _ _
    have := byte_ge hR
    simpa only [List.append_assoc] using this
  have HZ4 := Lib.hid (Nat.le_trans hzn hC.size)
  have HS4 : Hid (IssSt w w.heap.size k0 k1 s nd inc idx z4) := iss_move HSn.out hC (fun i hi => by have := (Kd.R_own HRn.out i hi.symm).1; have := HB2.out; omega)
  clear hR hC HRn HSn HPn HY hzn
  obtain ⟨⟨d0, d1⟩, d2, d3, d4, d5⟩ := HS4.out.c
  go_wp2_with fail
  have HF := Lib.hid (Kd.R_read HR4.out)
  refine (r_put h0 h1 (Kd.C_bound HF.out.1) (fun b hb => hb.2) HM.out (by omega)).mono ?_
  rintro e w9 ⟨A9, c9, rfl, hl9, hmc9, hC9, hc9⟩
  have HG : Hid (Got w w9 A9 (m + 8) c9 (sealed k0 k1 (tokB s nd inc idx)) ∧ Chg nob w w9) := ⟨⟨hl9, hmc9, Kd.C_mono hC9 (fun b hb => Nat.le_trans HS4.out.chg.size hb)⟩, HS4.out.chg.thenNew hc9⟩
  clear hC9 hc9 hl9 hmc9 HF
  go_wp2
  go_ret
  exact ⟨A9, c9, rfl, HG.out⟩
end Go.Proofs.Ytbgnplgdknbmoaa
