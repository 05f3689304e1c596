/- Messages: the bytes that the reference's Body tells. -/
import Derived.Test.YtmahjeafoogamaaSpeechPut
namespace Go.Proofs.Ytmahjeafoogamaa
open Go.RowKit
set_option linter.unusedVariables false
set_option linter.unusedSimpArgs false
/-- A flag's bytes. -/
def flagB (b : Bool) : List UInt8 := numB (if b then 1 else 0)
/-- The message in its place, and the bytes so far, which were made since. -/
structure BdSt (w0 w1 : World) (m : Ms) (ok : Nat → Prop) (B : Option Addr) (n d : Nat) (L : List UInt8) (Y : Option Addr) (Z y : Nat) (w : World) : Prop where
  ms : MsSt w0 w0.heap.size m ok B n d w
  laid : Laid w1 L (.returned (.slice Y Z y)) w
  sz : w1.heap.size = w0.heap.size + 1
  ok : ∀ b, ok b → b < w0.heap.size
theorem BdSt.new {w0 w1 w w' : World} {m : Ms} {ok : Nat → Prop} {B : Option Addr} {n d : Nat} {L : List UInt8} {Y : Option Addr} {Z y : Nat} (h : BdSt w0 w1 m ok B n d L Y Z y w) (hc : Chg nob w w') : BdSt w0 w1 m ok B n d L Y Z y w' :=
  ⟨h.ms.new hc, laid_new h.laid hc, h.sz, h.ok⟩
theorem BdSt.app {w0 w1 w w' : World} {m : Ms} {ok ok2 : Nat → Prop} {B : Option Addr} {n d : Nat} {L l L' : List UInt8} {Y A : Option Addr} {Z y a c : Nat} (h : BdSt w0 w1 m ok B n d L Y Z y w) (hR : Kd.byte.R 5 w' w1.heap.size ok2 (.slice A a c) L') (he : L' = L ++ l) (hC : Chg (fun k => some k = (Value.slice Y Z y).ownBlock) w w') : BdSt w0 w1 m ok B n d (L ++ l) A a c w' := by
  subst he
  obtain ⟨_, _, _, hR0, hc⟩ := laid_C h.laid
  have own : ∀ i, some i = (Value.slice Y Z y).ownBlock → w1.heap.size ≤ i := fun i hi => (Kd.R_own hR0 i hi.symm).1
  have hs := h.sz
  refine ⟨⟨hC.heap h.ms.row (fun hi => by have := own _ hi; omega), Kd.C_chg h.ms.us hC (fun b hb hi => by have := own _ hi; have := h.ok b hb; omega), ?_⟩, ⟨_, rfl, byte_ge hR, ?_⟩, h.sz, h.ok⟩
  · exact ((h.ms.chg.ofNew (S := fun k => some k = (Value.slice Y Z y).ownBlock)).trans hC (fun i hi => .inl hi)).mono (fun i hi => .inr (by have := own i hi; omega))
  · exact ((hc.ofNew (S := fun k => some k = (Value.slice Y Z y).ownBlock)).trans hC (fun i hi => .inl hi)).mono (fun i hi => .inr (own i hi))
set_option maxRecDepth 100000 in
set_option maxHeartbeats 2000000 in
theorem r_body {w : World} {m : Ms} {ok : Nat → Prop} {B : Option Addr} {n d : Nat} (hb : updK.C w ok B m.2.2.2.2.2) (hok : ∀ b, ok b → b < w.heap.size) (hn : m.2.2.2.2.2.length = n) (hr : rightM m = true) (hw : wfM m) :
    Calls Try.prog 13 #[.agg (msV m B n d)] w (Laid w (bodyL m)) := by
  have hst := ms_start (n := n) (d := d) hb
  have hrow := row6c hst.row
  obtain ⟨mv, hmv⟩ : ∃ mv, msV m B n d = mv := ⟨_, rfl⟩
  rw [hmv] at hst hrow ⊢
  clear hmv
  obtain ⟨kd, sq, fr, tg, rp, us⟩ := m
  obtain ⟨⟨k1, k6⟩, _⟩ := rightM_parts hr
  obtain ⟨⟨s0, s1⟩, ⟨f0, f1⟩, ⟨t0, t1⟩, hl16, hus⟩ := inM_of hr hw
  dsimp only at k1 k6 s0 s1 f0 f1 t0 t1 hl16 hus hn
  rw [hn] at hl16
  have HN := Lib.hid hn
  have HUS := Lib.hid hus
  have ws := u64_same s0 s1
  have wf := u64_same f0 (by omega)
  have wt := u64_same t0 (by omega)
  have wn : IntKind.u64.wrap (n : Int) = (n : Int) := u64_same (by omega) (by omega)
  have zs := numB_len (n := sq.toNat) (by omega)
  have zf := numB_len (n := fr.toNat) (by omega)
  have zt := numB_len (n := tg.toNat) (by omega)
  have zn := numB_len (n := n) (by omega)
  have zp : (numB (if rp then 1 else 0)).length ≤ 9 := numB_len (by split <;> omega)
  have HZ := Lib.hid (And.intro zs (And.intro zf (And.intro zt (And.intro zn zp))))
  have HB := Lib.hid (And.intro (And.intro s0 s1) (And.intro (And.intro f0 f1) (And.intro t0 t1)))
  obtain ⟨w1, hw1⟩ : ∃ w1, w.alloc (.cells mv 25) = w1 := ⟨_, rfl⟩
  have HC1 : Hid (Chg nob w w1) := by rw [← hw1]; exact (Chg.refl nob w).alloc _
  have HS0 : Hid (BdSt w w1 (kd, sq, fr, tg, rp, us) ok B n d [] none 0 0 w1) := ⟨by rw [← hw1]; exact hst, ⟨_, rfl, Kd.R_nil _ _ _ _ _, Chg.refl _ _⟩, by rw [← hw1]; simp, hok⟩
  have HW1 := Lib.hid hw1
  obtain ⟨q0, q1, q2, q3, q4, q5⟩ := hrow
  have hk : kd = 1 ∨ kd = 2 ∨ kd = 3 ∨ kd = 4 ∨ kd = 5 ∨ kd = 6 := by omega
  clear hst hb hn hus hr hw hok k1 k6 s0 s1 f0 f1 t0 t1 zs zf zt zn zp hw1
  rcases hk with rfl | rfl | rfl | rfl | rfl | rfl
  · go_enter Try.func13, Try.ntmps13
    go_wp2_with fail
    rw [HW1.out]
    refine (ref_num sq HB.out.1.1 (by have := HB.out.1.2; omega)).mono ?_
    intro e wa2 hLa
    obtain ⟨E2, x2, rfl, hLb⟩ := laid_slice hLa
    have zl := HZ.out.1
    obtain ⟨l2, hl2⟩ : ∃ l2, (numB sq.toNat).length = l2 := ⟨_, rfl⟩
    rw [hl2] at hLb zl ⊢
    have HE2 := Lib.hid hl2
    have HD2 := Lib.hid (laid_C hLb).1
    have HA2 := Lib.hid (HS0.out.new (laid_C hLb).2.2.2.2)
    have HR2 := Lib.hid (laid_C HA2.out.laid).2.2.2.1
    have HG2 := Lib.hid (laid_C HA2.out.laid).2.2.2.2.size
    have HT2 := Lib.hid (laid_C HA2.out.laid).2.1
    clear hLa hLb hl2 q0 q1 q2 q3 q4 q5
    obtain ⟨q0, q1, q2, q3, q4, q5⟩ := row6c HA2.out.ms.row
    obtain ⟨Z2, hZ2⟩ : ∃ Z2, 0 + l2 = Z2 := ⟨_, rfl⟩
    have bz2 : Z2 ≤ 18 := by omega
    have HY2 := Lib.hid hZ2
    clear hZ2
    go_wp2_with (at_builtin; refine wp_appB rfl _ _ rfl w1.heap.size _ _ (.slice none 0 0) ([]) (numB sq.toNat) E2 l2 x2 rfl rfl HE2.out HR2.out HD2.out HG2.out Z2 (by rw [HT2.out]; exact HY2.out) (by omega) ?_)
    intro A2 c2 w3 hR hC hO
    have HS2 := Lib.hid (HA2.out.app (l := numB sq.toNat) hR (by simp only [List.append_assoc, List.nil_append]) hC)
    clear hR hC hO q0 q1 q2 q3 q4 q5
    obtain ⟨q0, q1, q2, q3, q4, q5⟩ := row6c HS2.out.ms.row
    go_wp2_with fail
    refine (ref_num fr HB.out.2.1.1 (by have := HB.out.2.1.2; omega)).mono ?_
    intro e wa3 hLa
    obtain ⟨E3, x3, rfl, hLb⟩ := laid_slice hLa
    have zl := HZ.out.2.1
    obtain ⟨l3, hl3⟩ : ∃ l3, (numB fr.toNat).length = l3 := ⟨_, rfl⟩
    rw [hl3] at hLb zl ⊢
    have HE3 := Lib.hid hl3
    have HD3 := Lib.hid (laid_C hLb).1
    have HA3 := Lib.hid (HS2.out.new (laid_C hLb).2.2.2.2)
    have HR3 := Lib.hid (laid_C HA3.out.laid).2.2.2.1
    have HG3 := Lib.hid (laid_C HA3.out.laid).2.2.2.2.size
    have HT3 := Lib.hid (laid_C HA3.out.laid).2.1
    clear hLa hLb hl3 q0 q1 q2 q3 q4 q5
    obtain ⟨q0, q1, q2, q3, q4, q5⟩ := row6c HA3.out.ms.row
    obtain ⟨Z3, hZ3⟩ : ∃ Z3, Z2 + l3 = Z3 := ⟨_, rfl⟩
    have bz3 : Z3 ≤ 27 := by omega
    have HY3 := Lib.hid hZ3
    clear hZ3
    go_wp2_with (at_builtin; refine wp_appB rfl _ _ rfl w1.heap.size _ _ (.slice A2 Z2 c2) (([] ++ numB sq.toNat)) (numB fr.toNat) E3 l3 x3 rfl rfl HE3.out HR3.out HD3.out HG3.out Z3 (by rw [HT3.out]; exact HY3.out) (by omega) ?_)
    intro A3 c3 w4 hR hC hO
    have HS3 := Lib.hid (HA3.out.app (l := numB fr.toNat) hR (by simp only [List.append_assoc, List.nil_append]) hC)
    clear hR hC hO q0 q1 q2 q3 q4 q5
    obtain ⟨q0, q1, q2, q3, q4, q5⟩ := row6c HS3.out.ms.row
    go_wp2_with fail
    refine (ref_num tg HB.out.2.2.1 (by have := HB.out.2.2.2; omega)).mono ?_
    intro e wa4 hLa
    obtain ⟨E4, x4, rfl, hLb⟩ := laid_slice hLa
    have zl := HZ.out.2.2.1
    obtain ⟨l4, hl4⟩ : ∃ l4, (numB tg.toNat).length = l4 := ⟨_, rfl⟩
    rw [hl4] at hLb zl ⊢
    have HE4 := Lib.hid hl4
    have HD4 := Lib.hid (laid_C hLb).1
    have HA4 := Lib.hid (HS3.out.new (laid_C hLb).2.2.2.2)
    have HR4 := Lib.hid (laid_C HA4.out.laid).2.2.2.1
    have HG4 := Lib.hid (laid_C HA4.out.laid).2.2.2.2.size
    have HT4 := Lib.hid (laid_C HA4.out.laid).2.1
    clear hLa hLb hl4 q0 q1 q2 q3 q4 q5
    obtain ⟨q0, q1, q2, q3, q4, q5⟩ := row6c HA4.out.ms.row
    obtain ⟨Z4, hZ4⟩ : ∃ Z4, Z3 + l4 = Z4 := ⟨_, rfl⟩
    have bz4 : Z4 ≤ 36 := by omega
    have HY4 := Lib.hid hZ4
    clear hZ4
    go_wp2_with (at_builtin; refine wp_appB rfl _ _ rfl w1.heap.size _ _ (.slice A3 Z3 c3) ((([] ++ numB sq.toNat) ++ numB fr.toNat)) (numB tg.toNat) E4 l4 x4 rfl rfl HE4.out HR4.out HD4.out HG4.out Z4 (by rw [HT4.out]; exact HY4.out) (by omega) ?_)
    intro A4 c4 w5 hR hC hO
    have HS4 := Lib.hid (HA4.out.app (l := numB tg.toNat) hR (by simp only [List.append_assoc, List.nil_append]) hC)
    clear hR hC hO q0 q1 q2 q3 q4 q5
    obtain ⟨q0, q1, q2, q3, q4, q5⟩ := row6c HS4.out.ms.row
    have HF : Hid (Laid w (bodyL (1, sq, fr, tg, rp, us)) (.returned (.slice A4 Z4 c4)) w5) := by
      have := laid_up HS4.out.laid HC1.out
      show Laid _ _ _ _
      simpa [bodyL, layL, fieldsL, fieldB, HN.out] using this
    go_wp2
    go_ret
    exact HF.out
  · go_enter Try.func13, Try.ntmps13
    go_wp2_with fail
    rw [HW1.out]
    refine (ref_num sq HB.out.1.1 (by have := HB.out.1.2; omega)).mono ?_
    intro e wa2 hLa
    obtain ⟨E2, x2, rfl, hLb⟩ := laid_slice hLa
    have zl := HZ.out.1
    obtain ⟨l2, hl2⟩ : ∃ l2, (numB sq.toNat).length = l2 := ⟨_, rfl⟩
    rw [hl2] at hLb zl ⊢
    have HE2 := Lib.hid hl2
    have HD2 := Lib.hid (laid_C hLb).1
    have HA2 := Lib.hid (HS0.out.new (laid_C hLb).2.2.2.2)
    have HR2 := Lib.hid (laid_C HA2.out.laid).2.2.2.1
    have HG2 := Lib.hid (laid_C HA2.out.laid).2.2.2.2.size
    have HT2 := Lib.hid (laid_C HA2.out.laid).2.1
    clear hLa hLb hl2 q0 q1 q2 q3 q4 q5
    obtain ⟨q0, q1, q2, q3, q4, q5⟩ := row6c HA2.out.ms.row
    obtain ⟨Z2, hZ2⟩ : ∃ Z2, 0 + l2 = Z2 := ⟨_, rfl⟩
    have bz2 : Z2 ≤ 18 := by omega
    have HY2 := Lib.hid hZ2
    clear hZ2
    go_wp2_with (at_builtin; refine wp_appB rfl _ _ rfl w1.heap.size _ _ (.slice none 0 0) ([]) (numB sq.toNat) E2 l2 x2 rfl rfl HE2.out HR2.out HD2.out HG2.out Z2 (by rw [HT2.out]; exact HY2.out) (by omega) ?_)
    intro A2 c2 w3 hR hC hO
    have HS2 := Lib.hid (HA2.out.app (l := numB sq.toNat) hR (by simp only [List.append_assoc, List.nil_append]) hC)
    clear hR hC hO q0 q1 q2 q3 q4 q5
    obtain ⟨q0, q1, q2, q3, q4, q5⟩ := row6c HS2.out.ms.row
    go_wp2_with fail
    refine (ref_num fr HB.out.2.1.1 (by have := HB.out.2.1.2; omega)).mono ?_
    intro e wa3 hLa
    obtain ⟨E3, x3, rfl, hLb⟩ := laid_slice hLa
    have zl := HZ.out.2.1
    obtain ⟨l3, hl3⟩ : ∃ l3, (numB fr.toNat).length = l3 := ⟨_, rfl⟩
    rw [hl3] at hLb zl ⊢
    have HE3 := Lib.hid hl3
    have HD3 := Lib.hid (laid_C hLb).1
    have HA3 := Lib.hid (HS2.out.new (laid_C hLb).2.2.2.2)
    have HR3 := Lib.hid (laid_C HA3.out.laid).2.2.2.1
    have HG3 := Lib.hid (laid_C HA3.out.laid).2.2.2.2.size
    have HT3 := Lib.hid (laid_C HA3.out.laid).2.1
    clear hLa hLb hl3 q0 q1 q2 q3 q4 q5
    obtain ⟨q0, q1, q2, q3, q4, q5⟩ := row6c HA3.out.ms.row
    obtain ⟨Z3, hZ3⟩ : ∃ Z3, Z2 + l3 = Z3 := ⟨_, rfl⟩
    have bz3 : Z3 ≤ 27 := by omega
    have HY3 := Lib.hid hZ3
    clear hZ3
    go_wp2_with (at_builtin; refine wp_appB rfl _ _ rfl w1.heap.size _ _ (.slice A2 Z2 c2) (([] ++ numB sq.toNat)) (numB fr.toNat) E3 l3 x3 rfl rfl HE3.out HR3.out HD3.out HG3.out Z3 (by rw [HT3.out]; exact HY3.out) (by omega) ?_)
    intro A3 c3 w4 hR hC hO
    have HS3 := Lib.hid (HA3.out.app (l := numB fr.toNat) hR (by simp only [List.append_assoc, List.nil_append]) hC)
    clear hR hC hO q0 q1 q2 q3 q4 q5
    obtain ⟨q0, q1, q2, q3, q4, q5⟩ := row6c HS3.out.ms.row
    have HF : Hid (Laid w (bodyL (2, sq, fr, tg, rp, us)) (.returned (.slice A3 Z3 c3)) w4) := by
      have := laid_up HS3.out.laid HC1.out
      show Laid _ _ _ _
      simpa [bodyL, layL, fieldsL, fieldB, HN.out] using this
    go_wp2
    go_ret
    exact HF.out
  · go_enter Try.func13, Try.ntmps13
    go_wp2_with fail
    rw [HW1.out]
    refine (ref_num sq HB.out.1.1 (by have := HB.out.1.2; omega)).mono ?_
    intro e wa2 hLa
    obtain ⟨E2, x2, rfl, hLb⟩ := laid_slice hLa
    have zl := HZ.out.1
    obtain ⟨l2, hl2⟩ : ∃ l2, (numB sq.toNat).length = l2 := ⟨_, rfl⟩
    rw [hl2] at hLb zl ⊢
    have HE2 := Lib.hid hl2
    have HD2 := Lib.hid (laid_C hLb).1
    have HA2 := Lib.hid (HS0.out.new (laid_C hLb).2.2.2.2)
    have HR2 := Lib.hid (laid_C HA2.out.laid).2.2.2.1
    have HG2 := Lib.hid (laid_C HA2.out.laid).2.2.2.2.size
    have HT2 := Lib.hid (laid_C HA2.out.laid).2.1
    clear hLa hLb hl2 q0 q1 q2 q3 q4 q5
    obtain ⟨q0, q1, q2, q3, q4, q5⟩ := row6c HA2.out.ms.row
    obtain ⟨Z2, hZ2⟩ : ∃ Z2, 0 + l2 = Z2 := ⟨_, rfl⟩
    have bz2 : Z2 ≤ 18 := by omega
    have HY2 := Lib.hid hZ2
    clear hZ2
    go_wp2_with (at_builtin; refine wp_appB rfl _ _ rfl w1.heap.size _ _ (.slice none 0 0) ([]) (numB sq.toNat) E2 l2 x2 rfl rfl HE2.out HR2.out HD2.out HG2.out Z2 (by rw [HT2.out]; exact HY2.out) (by omega) ?_)
    intro A2 c2 w3 hR hC hO
    have HS2 := Lib.hid (HA2.out.app (l := numB sq.toNat) hR (by simp only [List.append_assoc, List.nil_append]) hC)
    clear hR hC hO q0 q1 q2 q3 q4 q5
    obtain ⟨q0, q1, q2, q3, q4, q5⟩ := row6c HS2.out.ms.row
    go_wp2_with fail
    refine (ref_num fr HB.out.2.1.1 (by have := HB.out.2.1.2; omega)).mono ?_
    intro e wa3 hLa
    obtain ⟨E3, x3, rfl, hLb⟩ := laid_slice hLa
    have zl := HZ.out.2.1
    obtain ⟨l3, hl3⟩ : ∃ l3, (numB fr.toNat).length = l3 := ⟨_, rfl⟩
    rw [hl3] at hLb zl ⊢
    have HE3 := Lib.hid hl3
    have HD3 := Lib.hid (laid_C hLb).1
    have HA3 := Lib.hid (HS2.out.new (laid_C hLb).2.2.2.2)
    have HR3 := Lib.hid (laid_C HA3.out.laid).2.2.2.1
    have HG3 := Lib.hid (laid_C HA3.out.laid).2.2.2.2.size
    have HT3 := Lib.hid (laid_C HA3.out.laid).2.1
    clear hLa hLb hl3 q0 q1 q2 q3 q4 q5
    obtain ⟨q0, q1, q2, q3, q4, q5⟩ := row6c HA3.out.ms.row
    obtain ⟨Z3, hZ3⟩ : ∃ Z3, Z2 + l3 = Z3 := ⟨_, rfl⟩
    have bz3 : Z3 ≤ 27 := by omega
    have HY3 := Lib.hid hZ3
    clear hZ3
    go_wp2_with (at_builtin; refine wp_appB rfl _ _ rfl w1.heap.size _ _ (.slice A2 Z2 c2) (([] ++ numB sq.toNat)) (numB fr.toNat) E3 l3 x3 rfl rfl HE3.out HR3.out HD3.out HG3.out Z3 (by rw [HT3.out]; exact HY3.out) (by omega) ?_)
    intro A3 c3 w4 hR hC hO
    have HS3 := Lib.hid (HA3.out.app (l := numB fr.toNat) hR (by simp only [List.append_assoc, List.nil_append]) hC)
    clear hR hC hO q0 q1 q2 q3 q4 q5
    obtain ⟨q0, q1, q2, q3, q4, q5⟩ := row6c HS3.out.ms.row
    go_wp2_with fail
    refine (ref_num tg HB.out.2.2.1 (by have := HB.out.2.2.2; omega)).mono ?_
    intro e wa4 hLa
    obtain ⟨E4, x4, rfl, hLb⟩ := laid_slice hLa
    have zl := HZ.out.2.2.1
    obtain ⟨l4, hl4⟩ : ∃ l4, (numB tg.toNat).length = l4 := ⟨_, rfl⟩
    rw [hl4] at hLb zl ⊢
    have HE4 := Lib.hid hl4
    have HD4 := Lib.hid (laid_C hLb).1
    have HA4 := Lib.hid (HS3.out.new (laid_C hLb).2.2.2.2)
    have HR4 := Lib.hid (laid_C HA4.out.laid).2.2.2.1
    have HG4 := Lib.hid (laid_C HA4.out.laid).2.2.2.2.size
    have HT4 := Lib.hid (laid_C HA4.out.laid).2.1
    clear hLa hLb hl4 q0 q1 q2 q3 q4 q5
    obtain ⟨q0, q1, q2, q3, q4, q5⟩ := row6c HA4.out.ms.row
    obtain ⟨Z4, hZ4⟩ : ∃ Z4, Z3 + l4 = Z4 := ⟨_, rfl⟩
    have bz4 : Z4 ≤ 36 := by omega
    have HY4 := Lib.hid hZ4
    clear hZ4
    go_wp2_with (at_builtin; refine wp_appB rfl _ _ rfl w1.heap.size _ _ (.slice A3 Z3 c3) ((([] ++ numB sq.toNat) ++ numB fr.toNat)) (numB tg.toNat) E4 l4 x4 rfl rfl HE4.out HR4.out HD4.out HG4.out Z4 (by rw [HT4.out]; exact HY4.out) (by omega) ?_)
    intro A4 c4 w5 hR hC hO
    have HS4 := Lib.hid (HA4.out.app (l := numB tg.toNat) hR (by simp only [List.append_assoc, List.nil_append]) hC)
    clear hR hC hO q0 q1 q2 q3 q4 q5
    obtain ⟨q0, q1, q2, q3, q4, q5⟩ := row6c HS4.out.ms.row
    have HF : Hid (Laid w (bodyL (3, sq, fr, tg, rp, us)) (.returned (.slice A4 Z4 c4)) w5) := by
      have := laid_up HS4.out.laid HC1.out
      show Laid _ _ _ _
      simpa [bodyL, layL, fieldsL, fieldB, HN.out] using this
    go_wp2
    go_ret
    exact HF.out
  · go_enter Try.func13, Try.ntmps13
    go_wp2_with fail
    rw [HW1.out]
    refine (ref_num sq HB.out.1.1 (by have := HB.out.1.2; omega)).mono ?_
    intro e wa2 hLa
    obtain ⟨E2, x2, rfl, hLb⟩ := laid_slice hLa
    have zl := HZ.out.1
    obtain ⟨l2, hl2⟩ : ∃ l2, (numB sq.toNat).length = l2 := ⟨_, rfl⟩
    rw [hl2] at hLb zl ⊢
    have HE2 := Lib.hid hl2
    have HD2 := Lib.hid (laid_C hLb).1
    have HA2 := Lib.hid (HS0.out.new (laid_C hLb).2.2.2.2)
    have HR2 := Lib.hid (laid_C HA2.out.laid).2.2.2.1
    have HG2 := Lib.hid (laid_C HA2.out.laid).2.2.2.2.size
    have HT2 := Lib.hid (laid_C HA2.out.laid).2.1
    clear hLa hLb hl2 q0 q1 q2 q3 q4 q5
    obtain ⟨q0, q1, q2, q3, q4, q5⟩ := row6c HA2.out.ms.row
    obtain ⟨Z2, hZ2⟩ : ∃ Z2, 0 + l2 = Z2 := ⟨_, rfl⟩
    have bz2 : Z2 ≤ 18 := by omega
    have HY2 := Lib.hid hZ2
    clear hZ2
    go_wp2_with (at_builtin; refine wp_appB rfl _ _ rfl w1.heap.size _ _ (.slice none 0 0) ([]) (numB sq.toNat) E2 l2 x2 rfl rfl HE2.out HR2.out HD2.out HG2.out Z2 (by rw [HT2.out]; exact HY2.out) (by omega) ?_)
    intro A2 c2 w3 hR hC hO
    have HS2 := Lib.hid (HA2.out.app (l := numB sq.toNat) hR (by simp only [List.append_assoc, List.nil_append]) hC)
    clear hR hC hO q0 q1 q2 q3 q4 q5
    obtain ⟨q0, q1, q2, q3, q4, q5⟩ := row6c HS2.out.ms.row
    go_wp2_with fail
    refine (ref_num fr HB.out.2.1.1 (by have := HB.out.2.1.2; omega)).mono ?_
    intro e wa3 hLa
    obtain ⟨E3, x3, rfl, hLb⟩ := laid_slice hLa
    have zl := HZ.out.2.1
    obtain ⟨l3, hl3⟩ : ∃ l3, (numB fr.toNat).length = l3 := ⟨_, rfl⟩
    rw [hl3] at hLb zl ⊢
    have HE3 := Lib.hid hl3
    have HD3 := Lib.hid (laid_C hLb).1
    have HA3 := Lib.hid (HS2.out.new (laid_C hLb).2.2.2.2)
    have HR3 := Lib.hid (laid_C HA3.out.laid).2.2.2.1
    have HG3 := Lib.hid (laid_C HA3.out.laid).2.2.2.2.size
    have HT3 := Lib.hid (laid_C HA3.out.laid).2.1
    clear hLa hLb hl3 q0 q1 q2 q3 q4 q5
    obtain ⟨q0, q1, q2, q3, q4, q5⟩ := row6c HA3.out.ms.row
    obtain ⟨Z3, hZ3⟩ : ∃ Z3, Z2 + l3 = Z3 := ⟨_, rfl⟩
    have bz3 : Z3 ≤ 27 := by omega
    have HY3 := Lib.hid hZ3
    clear hZ3
    go_wp2_with (at_builtin; refine wp_appB rfl _ _ rfl w1.heap.size _ _ (.slice A2 Z2 c2) (([] ++ numB sq.toNat)) (numB fr.toNat) E3 l3 x3 rfl rfl HE3.out HR3.out HD3.out HG3.out Z3 (by rw [HT3.out]; exact HY3.out) (by omega) ?_)
    intro A3 c3 w4 hR hC hO
    have HS3 := Lib.hid (HA3.out.app (l := numB fr.toNat) hR (by simp only [List.append_assoc, List.nil_append]) hC)
    clear hR hC hO q0 q1 q2 q3 q4 q5
    obtain ⟨q0, q1, q2, q3, q4, q5⟩ := row6c HS3.out.ms.row
    have HF : Hid (Laid w (bodyL (4, sq, fr, tg, rp, us)) (.returned (.slice A3 Z3 c3)) w4) := by
      have := laid_up HS3.out.laid HC1.out
      show Laid _ _ _ _
      simpa [bodyL, layL, fieldsL, fieldB, HN.out] using this
    go_wp2
    go_ret
    exact HF.out
  · go_enter Try.func13, Try.ntmps13
    go_wp2_with fail
    rw [HW1.out]
    refine (ref_num fr HB.out.2.1.1 (by have := HB.out.2.1.2; omega)).mono ?_
    intro e wa2 hLa
    obtain ⟨E2, x2, rfl, hLb⟩ := laid_slice hLa
    have zl := HZ.out.2.1
    obtain ⟨l2, hl2⟩ : ∃ l2, (numB fr.toNat).length = l2 := ⟨_, rfl⟩
    rw [hl2] at hLb zl ⊢
    have HE2 := Lib.hid hl2
    have HD2 := Lib.hid (laid_C hLb).1
    have HA2 := Lib.hid (HS0.out.new (laid_C hLb).2.2.2.2)
    have HR2 := Lib.hid (laid_C HA2.out.laid).2.2.2.1
    have HG2 := Lib.hid (laid_C HA2.out.laid).2.2.2.2.size
    have HT2 := Lib.hid (laid_C HA2.out.laid).2.1
    clear hLa hLb hl2 q0 q1 q2 q3 q4 q5
    obtain ⟨q0, q1, q2, q3, q4, q5⟩ := row6c HA2.out.ms.row
    obtain ⟨Z2, hZ2⟩ : ∃ Z2, 0 + l2 = Z2 := ⟨_, rfl⟩
    have bz2 : Z2 ≤ 18 := by omega
    have HY2 := Lib.hid hZ2
    clear hZ2
    go_wp2_with (at_builtin; refine wp_appB rfl _ _ rfl w1.heap.size _ _ (.slice none 0 0) ([]) (numB fr.toNat) E2 l2 x2 rfl rfl HE2.out HR2.out HD2.out HG2.out Z2 (by rw [HT2.out]; exact HY2.out) (by omega) ?_)
    intro A2 c2 w3 hR hC hO
    have HS2 := Lib.hid (HA2.out.app (l := numB fr.toNat) hR (by simp only [List.append_assoc, List.nil_append]) hC)
    clear hR hC hO q0 q1 q2 q3 q4 q5
    obtain ⟨q0, q1, q2, q3, q4, q5⟩ := row6c HS2.out.ms.row
    go_wp2_with fail
    refine (ref_num (n : Int) (by omega) (by omega)).mono ?_
    intro e wa3 hLa
    rw [Int.toNat_natCast] at hLa
    obtain ⟨E3, x3, rfl, hLb⟩ := laid_slice hLa
    have zl := HZ.out.2.2.2.1
    obtain ⟨l3, hl3⟩ : ∃ l3, (numB n).length = l3 := ⟨_, rfl⟩
    rw [hl3] at hLb zl ⊢
    have HE3 := Lib.hid hl3
    have HD3 := Lib.hid (laid_C hLb).1
    have HA3 := Lib.hid (HS2.out.new (laid_C hLb).2.2.2.2)
    have HR3 := Lib.hid (laid_C HA3.out.laid).2.2.2.1
    have HG3 := Lib.hid (laid_C HA3.out.laid).2.2.2.2.size
    have HT3 := Lib.hid (laid_C HA3.out.laid).2.1
    clear hLa hLb hl3 q0 q1 q2 q3 q4 q5
    obtain ⟨q0, q1, q2, q3, q4, q5⟩ := row6c HA3.out.ms.row
    obtain ⟨Z3, hZ3⟩ : ∃ Z3, Z2 + l3 = Z3 := ⟨_, rfl⟩
    have bz3 : Z3 ≤ 27 := by omega
    have HY3 := Lib.hid hZ3
    clear hZ3
    go_wp2_with (at_builtin; refine wp_appB rfl _ _ rfl w1.heap.size _ _ (.slice A2 Z2 c2) (([] ++ numB fr.toNat)) (numB n) E3 l3 x3 rfl rfl HE3.out HR3.out HD3.out HG3.out Z3 (by rw [HT3.out]; exact HY3.out) (by omega) ?_)
    intro A3 c3 w4 hR hC hO
    have HS3 := Lib.hid (HA3.out.app (l := numB n) hR (by simp only [List.append_assoc, List.nil_append]) hC)
    clear hR hC hO q0 q1 q2 q3 q4 q5
    obtain ⟨q0, q1, q2, q3, q4, q5⟩ := row6c HS3.out.ms.row
    obtain ⟨L0, hL0⟩ : ∃ L0, (([] ++ numB fr.toNat) ++ numB n) = L0 := ⟨_, rfl⟩
    have HST := Lib.hid HS3.out
    rw [hL0] at HST
    have HL0 := Lib.hid hL0
    have HB0 : Hid (BdSt w w1 (5, sq, fr, tg, rp, us) ok B n d (L0 ++ updsB (us.take 0)) A3 Z3 c3 w4) := by
      show BdSt _ _ _ _ _ _ _ _ _ _ _ _
      rw [show updsB (us.take 0) = [] from rfl, List.append_nil]
      exact HST.out
    clear hL0
    go_wp2
    go_loopw [3, 4] (fun vb i wr => ∃ (k Z : Nat) (Y : Option Addr) (y : Nat), k ≤ n ∧ vb = .slice Y Z y ∧ i = .int .i64 k ∧ Z ≤ 40 + 27 * k ∧ Hid (BdSt w w1 (5, sq, fr, tg, rp, us) ok B n d (L0 ++ updsB (us.take k)) Y Z y wr)) (fun _ i _ => n - (intOf i).toNat)
    case atStart => exact ⟨0, Z3, A3, c3, Nat.zero_le _, rfl, rfl, by omega, HB0⟩
    case round =>
      obtain ⟨k, Z, Y, y, hk1, rfl, rfl, hZ, HS⟩ := hrel
      clear q0 q1 q2 q3 q4 q5 HB0 HST
      obtain ⟨q0, q1, q2, q3, q4, q5⟩ := row6c HS.out.ms.row
      by_cases hlt : k < n
      · have b1 : (k : Int) < (n : Int) := by omega
        have b3 : (0 : Int) ≤ (k : Int) := by omega
        obtain ⟨u, hu⟩ : ∃ u, us[k]? = some u := ⟨_, List.getElem?_eq_getElem (by rw [HN.out]; exact hlt)⟩
        obtain ⟨ub, uo, rfl, _, c0, c1, c2⟩ := upd_at HS.out.ms.us hu
        have HTK : Hid (us.take (k + 1) = us.take k ++ [u]) := by
          obtain ⟨hj, he⟩ := List.getElem?_eq_some_iff.1 hu
          show _ = _
          rw [List.take_succ_eq_append_getElem hj, he]
        obtain ⟨⟨u0, u1⟩, ⟨u2, u3⟩, ⟨u4', u5'⟩⟩ := HUS.out u (List.mem_of_getElem? hu)
        have x0 := u64_same u0 (by omega)
        have x1 := u64_same u2 u3
        have x2 := u64_same u4' (by omega)
        obtain ⟨ua, ui, ust⟩ := u
        have HU := Lib.hid hu
        dsimp only at u0 u1 u2 u3 u4' u5' x0 x1 x2 c0 c1 c2
        have zua := numB_len (n := ua.toNat) (by omega)
        have zui := numB_len (n := ui.toNat) (by omega)
        have zus := numB_len (n := ust.toNat) (by omega)
        have U := Lib.hid (And.intro (And.intro u0 u1) (And.intro (And.intro u2 u3) (And.intro u4' u5')))
        have UZ := Lib.hid (And.intro zua (And.intro zui zus))
        clear hu u0 u1 u2 u3 u4' u5' zua zui zus
        go_wp2_with fail
        refine (ref_num ua U.out.1.1 (by have := U.out.1.2; omega)).mono ?_
        intro e wa20 hLa
        obtain ⟨E20, x20, rfl, hLb⟩ := laid_slice hLa
        have zl := UZ.out.1
        obtain ⟨l20, hl20⟩ : ∃ l20, (numB ua.toNat).length = l20 := ⟨_, rfl⟩
        rw [hl20] at hLb zl ⊢
        have HE20 := Lib.hid hl20
        have HD20 := Lib.hid (laid_C hLb).1
        have HA20 := Lib.hid (HS.out.new (laid_C hLb).2.2.2.2)
        have HR20 := Lib.hid (laid_C HA20.out.laid).2.2.2.1
        have HG20 := Lib.hid (laid_C HA20.out.laid).2.2.2.2.size
        have HT20 := Lib.hid (laid_C HA20.out.laid).2.1
        clear hLa hLb hl20 q0 q1 q2 q3 q4 q5 c0 c1 c2
        obtain ⟨q0, q1, q2, q3, q4, q5⟩ := row6c HA20.out.ms.row
        obtain ⟨_, _, ee, _, c0, c1, c2⟩ := upd_at HA20.out.ms.us HU.out
        cases ee
        obtain ⟨Z20, hZ20⟩ : ∃ Z20, Z + l20 = Z20 := ⟨_, rfl⟩
        have bz20 : Z20 ≤ 40 + 27 * k + 9 := by omega
        have HY20 := Lib.hid hZ20
        clear hZ20
        go_wp2_with (at_builtin; refine wp_appB rfl _ _ rfl w1.heap.size _ _ (.slice Y Z y) ((L0 ++ updsB (us.take k))) (numB ua.toNat) E20 l20 x20 rfl rfl HE20.out HR20.out HD20.out HG20.out Z20 (by rw [HT20.out]; exact HY20.out) (by omega) ?_)
        intro A20 c20 w21 hR hC hO
        have HS20 := Lib.hid (HA20.out.app (l := numB ua.toNat) hR (by simp only [List.append_assoc, List.nil_append]) hC)
        clear hR hC hO q0 q1 q2 q3 q4 q5 c0 c1 c2
        obtain ⟨q0, q1, q2, q3, q4, q5⟩ := row6c HS20.out.ms.row
        obtain ⟨_, _, ee, _, c0, c1, c2⟩ := upd_at HS20.out.ms.us HU.out
        cases ee
        go_wp2_with fail
        refine (ref_num ui U.out.2.1.1 (by have := U.out.2.1.2; omega)).mono ?_
        intro e wa21 hLa
        obtain ⟨E21, x21, rfl, hLb⟩ := laid_slice hLa
        have zl := UZ.out.2.1
        obtain ⟨l21, hl21⟩ : ∃ l21, (numB ui.toNat).length = l21 := ⟨_, rfl⟩
        rw [hl21] at hLb zl ⊢
        have HE21 := Lib.hid hl21
        have HD21 := Lib.hid (laid_C hLb).1
        have HA21 := Lib.hid (HS20.out.new (laid_C hLb).2.2.2.2)
        have HR21 := Lib.hid (laid_C HA21.out.laid).2.2.2.1
        have HG21 := Lib.hid (laid_C HA21.out.laid).2.2.2.2.size
        have HT21 := Lib.hid (laid_C HA21.out.laid).2.1
        clear hLa hLb hl21 q0 q1 q2 q3 q4 q5 c0 c1 c2
        obtain ⟨q0, q1, q2, q3, q4, q5⟩ := row6c HA21.out.ms.row
        obtain ⟨_, _, ee, _, c0, c1, c2⟩ := upd_at HA21.out.ms.us HU.out
        cases ee
        obtain ⟨Z21, hZ21⟩ : ∃ Z21, Z20 + l21 = Z21 := ⟨_, rfl⟩
        have bz21 : Z21 ≤ 40 + 27 * k + 18 := by omega
        have HY21 := Lib.hid hZ21
        clear hZ21
        go_wp2_with (at_builtin; refine wp_appB rfl _ _ rfl w1.heap.size _ _ (.slice A20 Z20 c20) (((L0 ++ updsB (us.take k)) ++ numB ua.toNat)) (numB ui.toNat) E21 l21 x21 rfl rfl HE21.out HR21.out HD21.out HG21.out Z21 (by rw [HT21.out]; exact HY21.out) (by omega) ?_)
        intro A21 c21 w22 hR hC hO
        have HS21 := Lib.hid (HA21.out.app (l := numB ui.toNat) hR (by simp only [List.append_assoc, List.nil_append]) hC)
        clear hR hC hO q0 q1 q2 q3 q4 q5 c0 c1 c2
        obtain ⟨q0, q1, q2, q3, q4, q5⟩ := row6c HS21.out.ms.row
        obtain ⟨_, _, ee, _, c0, c1, c2⟩ := upd_at HS21.out.ms.us HU.out
        cases ee
        go_wp2_with fail
        refine (ref_num ust U.out.2.2.1 (by have := U.out.2.2.2; omega)).mono ?_
        intro e wa22 hLa
        obtain ⟨E22, x22, rfl, hLb⟩ := laid_slice hLa
        have zl := UZ.out.2.2
        obtain ⟨l22, hl22⟩ : ∃ l22, (numB ust.toNat).length = l22 := ⟨_, rfl⟩
        rw [hl22] at hLb zl ⊢
        have HE22 := Lib.hid hl22
        have HD22 := Lib.hid (laid_C hLb).1
        have HA22 := Lib.hid (HS21.out.new (laid_C hLb).2.2.2.2)
        have HR22 := Lib.hid (laid_C HA22.out.laid).2.2.2.1
        have HG22 := Lib.hid (laid_C HA22.out.laid).2.2.2.2.size
        have HT22 := Lib.hid (laid_C HA22.out.laid).2.1
        clear hLa hLb hl22 q0 q1 q2 q3 q4 q5 c0 c1 c2
        obtain ⟨q0, q1, q2, q3, q4, q5⟩ := row6c HA22.out.ms.row
        obtain ⟨_, _, ee, _, c0, c1, c2⟩ := upd_at HA22.out.ms.us HU.out
        cases ee
        obtain ⟨Z22, hZ22⟩ : ∃ Z22, Z21 + l22 = Z22 := ⟨_, rfl⟩
        have bz22 : Z22 ≤ 40 + 27 * k + 27 := by omega
        have HY22 := Lib.hid hZ22
        clear hZ22
        go_wp2_with (at_builtin; refine wp_appB rfl _ _ rfl w1.heap.size _ _ (.slice A21 Z21 c21) ((((L0 ++ updsB (us.take k)) ++ numB ua.toNat) ++ numB ui.toNat)) (numB ust.toNat) E22 l22 x22 rfl rfl HE22.out HR22.out HD22.out HG22.out Z22 (by rw [HT22.out]; exact HY22.out) (by omega) ?_)
        intro A22 c22 w23 hR hC hO
        have HS22 := Lib.hid (HA22.out.app (l := numB ust.toNat) hR (by simp only [List.append_assoc, List.nil_append]) hC)
        clear hR hC hO q0 q1 q2 q3 q4 q5 c0 c1 c2
        obtain ⟨q0, q1, q2, q3, q4, q5⟩ := row6c HS22.out.ms.row
        obtain ⟨_, _, ee, _, c0, c1, c2⟩ := upd_at HS22.out.ms.us HU.out
        cases ee
        have HBN : Hid (BdSt w w1 (5, sq, fr, tg, rp, us) ok (some ⟨ub, uo, none⟩) n d (L0 ++ updsB (us.take (k + 1))) A22 Z22 c22 w23) := by
          show BdSt _ _ _ _ _ _ _ _ _ _ _ _
          rw [show L0 ++ updsB (us.take (k + 1)) = ((((L0 ++ updsB (us.take k)) ++ numB ua.toNat) ++ numB ui.toNat) ++ numB ust.toNat) from by rw [HTK.out, updsB_snoc, updB]; simp only [List.append_assoc]]
          exact HS22.out
        clear c0 c1 c2
        go_wp2
        exact ⟨⟨k + 1, Z22, A22, c22, by omega, rfl, by go_num, by omega, HBN⟩, by simp [intOf]; omega⟩
      · obtain rfl : k = n := by omega
        have b1 : ¬ (k : Int) < (k : Int) := by omega
        have HF : Hid (Laid w (bodyL (5, sq, fr, tg, rp, us)) (.returned (.slice Y Z y)) wr) := by
          have h1 := laid_up HS.out.laid HC1.out
          rw [show us.take k = us from by rw [← HN.out, List.take_length], ← HL0.out] at h1
          show Laid _ _ _ _
          simpa [bodyL, layL, fieldsL, fieldB, flagB, HN.out] using h1
        go_wp2
        go_ret
        exact HF.out
  · go_enter Try.func13, Try.ntmps13
    go_wp2_with fail
    rw [HW1.out]
    refine (ref_num fr HB.out.2.1.1 (by have := HB.out.2.1.2; omega)).mono ?_
    intro e wa2 hLa
    obtain ⟨E2, x2, rfl, hLb⟩ := laid_slice hLa
    have zl := HZ.out.2.1
    obtain ⟨l2, hl2⟩ : ∃ l2, (numB fr.toNat).length = l2 := ⟨_, rfl⟩
    rw [hl2] at hLb zl ⊢
    have HE2 := Lib.hid hl2
    have HD2 := Lib.hid (laid_C hLb).1
    have HA2 := Lib.hid (HS0.out.new (laid_C hLb).2.2.2.2)
    have HR2 := Lib.hid (laid_C HA2.out.laid).2.2.2.1
    have HG2 := Lib.hid (laid_C HA2.out.laid).2.2.2.2.size
    have HT2 := Lib.hid (laid_C HA2.out.laid).2.1
    clear hLa hLb hl2 q0 q1 q2 q3 q4 q5
    obtain ⟨q0, q1, q2, q3, q4, q5⟩ := row6c HA2.out.ms.row
    obtain ⟨Z2, hZ2⟩ : ∃ Z2, 0 + l2 = Z2 := ⟨_, rfl⟩
    have bz2 : Z2 ≤ 18 := by omega
    have HY2 := Lib.hid hZ2
    clear hZ2
    go_wp2_with (at_builtin; refine wp_appB rfl _ _ rfl w1.heap.size _ _ (.slice none 0 0) ([]) (numB fr.toNat) E2 l2 x2 rfl rfl HE2.out HR2.out HD2.out HG2.out Z2 (by rw [HT2.out]; exact HY2.out) (by omega) ?_)
    intro A2 c2 w3 hR hC hO
    have HS2 := Lib.hid (HA2.out.app (l := numB fr.toNat) hR (by simp only [List.append_assoc, List.nil_append]) hC)
    clear hR hC hO q0 q1 q2 q3 q4 q5
    obtain ⟨q0, q1, q2, q3, q4, q5⟩ := row6c HS2.out.ms.row
    go_wp2_with fail
    refine (ref_flag rp).mono ?_
    intro e wa3 hLa
    replace hLa : Laid _ (flagB rp) _ _ := hLa
    obtain ⟨E3, x3, rfl, hLb⟩ := laid_slice hLa
    have zl := (show (flagB rp).length ≤ 9 from HZ.out.2.2.2.2)
    obtain ⟨l3, hl3⟩ : ∃ l3, (flagB rp).length = l3 := ⟨_, rfl⟩
    rw [hl3] at hLb zl ⊢
    have HE3 := Lib.hid hl3
    have HD3 := Lib.hid (laid_C hLb).1
    have HA3 := Lib.hid (HS2.out.new (laid_C hLb).2.2.2.2)
    have HR3 := Lib.hid (laid_C HA3.out.laid).2.2.2.1
    have HG3 := Lib.hid (laid_C HA3.out.laid).2.2.2.2.size
    have HT3 := Lib.hid (laid_C HA3.out.laid).2.1
    clear hLa hLb hl3 q0 q1 q2 q3 q4 q5
    obtain ⟨q0, q1, q2, q3, q4, q5⟩ := row6c HA3.out.ms.row
    obtain ⟨Z3, hZ3⟩ : ∃ Z3, Z2 + l3 = Z3 := ⟨_, rfl⟩
    have bz3 : Z3 ≤ 27 := by omega
    have HY3 := Lib.hid hZ3
    clear hZ3
    go_wp2_with (at_builtin; refine wp_appB rfl _ _ rfl w1.heap.size _ _ (.slice A2 Z2 c2) (([] ++ numB fr.toNat)) (flagB rp) E3 l3 x3 rfl rfl HE3.out HR3.out HD3.out HG3.out Z3 (by rw [HT3.out]; exact HY3.out) (by omega) ?_)
    intro A3 c3 w4 hR hC hO
    have HS3 := Lib.hid (HA3.out.app (l := flagB rp) hR (by simp only [List.append_assoc, List.nil_append]) hC)
    clear hR hC hO q0 q1 q2 q3 q4 q5
    obtain ⟨q0, q1, q2, q3, q4, q5⟩ := row6c HS3.out.ms.row
    go_wp2_with fail
    refine (ref_num (n : Int) (by omega) (by omega)).mono ?_
    intro e wa4 hLa
    rw [Int.toNat_natCast] at hLa
    obtain ⟨E4, x4, rfl, hLb⟩ := laid_slice hLa
    have zl := HZ.out.2.2.2.1
    obtain ⟨l4, hl4⟩ : ∃ l4, (numB n).length = l4 := ⟨_, rfl⟩
    rw [hl4] at hLb zl ⊢
    have HE4 := Lib.hid hl4
    have HD4 := Lib.hid (laid_C hLb).1
    have HA4 := Lib.hid (HS3.out.new (laid_C hLb).2.2.2.2)
    have HR4 := Lib.hid (laid_C HA4.out.laid).2.2.2.1
    have HG4 := Lib.hid (laid_C HA4.out.laid).2.2.2.2.size
    have HT4 := Lib.hid (laid_C HA4.out.laid).2.1
    clear hLa hLb hl4 q0 q1 q2 q3 q4 q5
    obtain ⟨q0, q1, q2, q3, q4, q5⟩ := row6c HA4.out.ms.row
    obtain ⟨Z4, hZ4⟩ : ∃ Z4, Z3 + l4 = Z4 := ⟨_, rfl⟩
    have bz4 : Z4 ≤ 36 := by omega
    have HY4 := Lib.hid hZ4
    clear hZ4
    go_wp2_with (at_builtin; refine wp_appB rfl _ _ rfl w1.heap.size _ _ (.slice A3 Z3 c3) ((([] ++ numB fr.toNat) ++ flagB rp)) (numB n) E4 l4 x4 rfl rfl HE4.out HR4.out HD4.out HG4.out Z4 (by rw [HT4.out]; exact HY4.out) (by omega) ?_)
    intro A4 c4 w5 hR hC hO
    have HS4 := Lib.hid (HA4.out.app (l := numB n) hR (by simp only [List.append_assoc, List.nil_append]) hC)
    clear hR hC hO q0 q1 q2 q3 q4 q5
    obtain ⟨q0, q1, q2, q3, q4, q5⟩ := row6c HS4.out.ms.row
    obtain ⟨L0, hL0⟩ : ∃ L0, ((([] ++ numB fr.toNat) ++ flagB rp) ++ numB n) = L0 := ⟨_, rfl⟩
    have HST := Lib.hid HS4.out
    rw [hL0] at HST
    have HL0 := Lib.hid hL0
    have HB0 : Hid (BdSt w w1 (6, sq, fr, tg, rp, us) ok B n d (L0 ++ updsB (us.take 0)) A4 Z4 c4 w5) := by
      show BdSt _ _ _ _ _ _ _ _ _ _ _ _
      rw [show updsB (us.take 0) = [] from rfl, List.append_nil]
      exact HST.out
    clear hL0
    go_wp2
    go_loopw [3, 4] (fun vb i wr => ∃ (k Z : Nat) (Y : Option Addr) (y : Nat), k ≤ n ∧ vb = .slice Y Z y ∧ i = .int .i64 k ∧ Z ≤ 40 + 27 * k ∧ Hid (BdSt w w1 (6, sq, fr, tg, rp, us) ok B n d (L0 ++ updsB (us.take k)) Y Z y wr)) (fun _ i _ => n - (intOf i).toNat)
    case atStart => exact ⟨0, Z4, A4, c4, Nat.zero_le _, rfl, rfl, by omega, HB0⟩
    case round =>
      obtain ⟨k, Z, Y, y, hk1, rfl, rfl, hZ, HS⟩ := hrel
      clear q0 q1 q2 q3 q4 q5 HB0 HST
      obtain ⟨q0, q1, q2, q3, q4, q5⟩ := row6c HS.out.ms.row
      by_cases hlt : k < n
      · have b1 : (k : Int) < (n : Int) := by omega
        have b3 : (0 : Int) ≤ (k : Int) := by omega
        obtain ⟨u, hu⟩ : ∃ u, us[k]? = some u := ⟨_, List.getElem?_eq_getElem (by rw [HN.out]; exact hlt)⟩
        obtain ⟨ub, uo, rfl, _, c0, c1, c2⟩ := upd_at HS.out.ms.us hu
        have HTK : Hid (us.take (k + 1) = us.take k ++ [u]) := by
          obtain ⟨hj, he⟩ := List.getElem?_eq_some_iff.1 hu
          show _ = _
          rw [List.take_succ_eq_append_getElem hj, he]
        obtain ⟨⟨u0, u1⟩, ⟨u2, u3⟩, ⟨u4', u5'⟩⟩ := HUS.out u (List.mem_of_getElem? hu)
        have x0 := u64_same u0 (by omega)
        have x1 := u64_same u2 u3
        have x2 := u64_same u4' (by omega)
        obtain ⟨ua, ui, ust⟩ := u
        have HU := Lib.hid hu
        dsimp only at u0 u1 u2 u3 u4' u5' x0 x1 x2 c0 c1 c2
        have zua := numB_len (n := ua.toNat) (by omega)
        have zui := numB_len (n := ui.toNat) (by omega)
        have zus := numB_len (n := ust.toNat) (by omega)
        have U := Lib.hid (And.intro (And.intro u0 u1) (And.intro (And.intro u2 u3) (And.intro u4' u5')))
        have UZ := Lib.hid (And.intro zua (And.intro zui zus))
        clear hu u0 u1 u2 u3 u4' u5' zua zui zus
        go_wp2_with fail
        refine (ref_num ua U.out.1.1 (by have := U.out.1.2; omega)).mono ?_
        intro e wa20 hLa
        obtain ⟨E20, x20, rfl, hLb⟩ := laid_slice hLa
        have zl := UZ.out.1
        obtain ⟨l20, hl20⟩ : ∃ l20, (numB ua.toNat).length = l20 := ⟨_, rfl⟩
        rw [hl20] at hLb zl ⊢
        have HE20 := Lib.hid hl20
        have HD20 := Lib.hid (laid_C hLb).1
        have HA20 := Lib.hid (HS.out.new (laid_C hLb).2.2.2.2)
        have HR20 := Lib.hid (laid_C HA20.out.laid).2.2.2.1
        have HG20 := Lib.hid (laid_C HA20.out.laid).2.2.2.2.size
        have HT20 := Lib.hid (laid_C HA20.out.laid).2.1
        clear hLa hLb hl20 q0 q1 q2 q3 q4 q5 c0 c1 c2
        obtain ⟨q0, q1, q2, q3, q4, q5⟩ := row6c HA20.out.ms.row
        obtain ⟨_, _, ee, _, c0, c1, c2⟩ := upd_at HA20.out.ms.us HU.out
        cases ee
        obtain ⟨Z20, hZ20⟩ : ∃ Z20, Z + l20 = Z20 := ⟨_, rfl⟩
        have bz20 : Z20 ≤ 40 + 27 * k + 9 := by omega
        have HY20 := Lib.hid hZ20
        clear hZ20
        go_wp2_with (at_builtin; refine wp_appB rfl _ _ rfl w1.heap.size _ _ (.slice Y Z y) ((L0 ++ updsB (us.take k))) (numB ua.toNat) E20 l20 x20 rfl rfl HE20.out HR20.out HD20.out HG20.out Z20 (by rw [HT20.out]; exact HY20.out) (by omega) ?_)
        intro A20 c20 w21 hR hC hO
        have HS20 := Lib.hid (HA20.out.app (l := numB ua.toNat) hR (by simp only [List.append_assoc, List.nil_append]) hC)
        clear hR hC hO q0 q1 q2 q3 q4 q5 c0 c1 c2
        obtain ⟨q0, q1, q2, q3, q4, q5⟩ := row6c HS20.out.ms.row
        obtain ⟨_, _, ee, _, c0, c1, c2⟩ := upd_at HS20.out.ms.us HU.out
        cases ee
        go_wp2_with fail
        refine (ref_num ui U.out.2.1.1 (by have := U.out.2.1.2; omega)).mono ?_
        intro e wa21 hLa
        obtain ⟨E21, x21, rfl, hLb⟩ := laid_slice hLa
        have zl := UZ.out.2.1
        obtain ⟨l21, hl21⟩ : ∃ l21, (numB ui.toNat).length = l21 := ⟨_, rfl⟩
        rw [hl21] at hLb zl ⊢
        have HE21 := Lib.hid hl21
        have HD21 := Lib.hid (laid_C hLb).1
        have HA21 := Lib.hid (HS20.out.new (laid_C hLb).2.2.2.2)
        have HR21 := Lib.hid (laid_C HA21.out.laid).2.2.2.1
        have HG21 := Lib.hid (laid_C HA21.out.laid).2.2.2.2.size
        have HT21 := Lib.hid (laid_C HA21.out.laid).2.1
        clear hLa hLb hl21 q0 q1 q2 q3 q4 q5 c0 c1 c2
        obtain ⟨q0, q1, q2, q3, q4, q5⟩ := row6c HA21.out.ms.row
        obtain ⟨_, _, ee, _, c0, c1, c2⟩ := upd_at HA21.out.ms.us HU.out
        cases ee
        obtain ⟨Z21, hZ21⟩ : ∃ Z21, Z20 + l21 = Z21 := ⟨_, rfl⟩
        have bz21 : Z21 ≤ 40 + 27 * k + 18 := by omega
        have HY21 := Lib.hid hZ21
        clear hZ21
        go_wp2_with (at_builtin; refine wp_appB rfl _ _ rfl w1.heap.size _ _ (.slice A20 Z20 c20) (((L0 ++ updsB (us.take k)) ++ numB ua.toNat)) (numB ui.toNat) E21 l21 x21 rfl rfl HE21.out HR21.out HD21.out HG21.out Z21 (by rw [HT21.out]; exact HY21.out) (by omega) ?_)
        intro A21 c21 w22 hR hC hO
        have HS21 := Lib.hid (HA21.out.app (l := numB ui.toNat) hR (by simp only [List.append_assoc, List.nil_append]) hC)
        clear hR hC hO q0 q1 q2 q3 q4 q5 c0 c1 c2
        obtain ⟨q0, q1, q2, q3, q4, q5⟩ := row6c HS21.out.ms.row
        obtain ⟨_, _, ee, _, c0, c1, c2⟩ := upd_at HS21.out.ms.us HU.out
        cases ee
        go_wp2_with fail
        refine (ref_num ust U.out.2.2.1 (by have := U.out.2.2.2; omega)).mono ?_
        intro e wa22 hLa
        obtain ⟨E22, x22, rfl, hLb⟩ := laid_slice hLa
        have zl := UZ.out.2.2
        obtain ⟨l22, hl22⟩ : ∃ l22, (numB ust.toNat).length = l22 := ⟨_, rfl⟩
        rw [hl22] at hLb zl ⊢
        have HE22 := Lib.hid hl22
        have HD22 := Lib.hid (laid_C hLb).1
        have HA22 := Lib.hid (HS21.out.new (laid_C hLb).2.2.2.2)
        have HR22 := Lib.hid (laid_C HA22.out.laid).2.2.2.1
        have HG22 := Lib.hid (laid_C HA22.out.laid).2.2.2.2.size
        have HT22 := Lib.hid (laid_C HA22.out.laid).2.1
        clear hLa hLb hl22 q0 q1 q2 q3 q4 q5 c0 c1 c2
        obtain ⟨q0, q1, q2, q3, q4, q5⟩ := row6c HA22.out.ms.row
        obtain ⟨_, _, ee, _, c0, c1, c2⟩ := upd_at HA22.out.ms.us HU.out
        cases ee
        obtain ⟨Z22, hZ22⟩ : ∃ Z22, Z21 + l22 = Z22 := ⟨_, rfl⟩
        have bz22 : Z22 ≤ 40 + 27 * k + 27 := by omega
        have HY22 := Lib.hid hZ22
        clear hZ22
        go_wp2_with (at_builtin; refine wp_appB rfl _ _ rfl w1.heap.size _ _ (.slice A21 Z21 c21) ((((L0 ++ updsB (us.take k)) ++ numB ua.toNat) ++ numB ui.toNat)) (numB ust.toNat) E22 l22 x22 rfl rfl HE22.out HR22.out HD22.out HG22.out Z22 (by rw [HT22.out]; exact HY22.out) (by omega) ?_)
        intro A22 c22 w23 hR hC hO
        have HS22 := Lib.hid (HA22.out.app (l := numB ust.toNat) hR (by simp only [List.append_assoc, List.nil_append]) hC)
        clear hR hC hO q0 q1 q2 q3 q4 q5 c0 c1 c2
        obtain ⟨q0, q1, q2, q3, q4, q5⟩ := row6c HS22.out.ms.row
        obtain ⟨_, _, ee, _, c0, c1, c2⟩ := upd_at HS22.out.ms.us HU.out
        cases ee
        have HBN : Hid (BdSt w w1 (6, sq, fr, tg, rp, us) ok (some ⟨ub, uo, none⟩) n d (L0 ++ updsB (us.take (k + 1))) A22 Z22 c22 w23) := by
          show BdSt _ _ _ _ _ _ _ _ _ _ _ _
          rw [show L0 ++ updsB (us.take (k + 1)) = ((((L0 ++ updsB (us.take k)) ++ numB ua.toNat) ++ numB ui.toNat) ++ numB ust.toNat) from by rw [HTK.out, updsB_snoc, updB]; simp only [List.append_assoc]]
          exact HS22.out
        clear c0 c1 c2
        go_wp2
        exact ⟨⟨k + 1, Z22, A22, c22, by omega, rfl, by go_num, by omega, HBN⟩, by simp [intOf]; omega⟩
      · obtain rfl : k = n := by omega
        have b1 : ¬ (k : Int) < (k : Int) := by omega
        have HF : Hid (Laid w (bodyL (6, sq, fr, tg, rp, us)) (.returned (.slice Y Z y)) wr) := by
          have h1 := laid_up HS.out.laid HC1.out
          rw [show us.take k = us from by rw [← HN.out, List.take_length], ← HL0.out] at h1
          show Laid _ _ _ _
          simpa [bodyL, layL, fieldsL, fieldB, flagB, HN.out] using h1
        go_wp2
        go_ret
        exact HF.out
end Go.Proofs.Ytmahjeafoogamaa
