/- The law FieldBack: the walk. -/
import Derived.Test.YticbffoclnjciaaFieldSame
import Derived.Test.YticbffoclnjciaaFieldItem
import Derived.Deep.DrawnRows
import Derived.Deep.RegionHeld3
namespace Go.Proofs.Yticbffoclnjciaa
open Go.RowKit
set_option linter.unusedVariables false
attribute [local go_sem ↓] Go.wp_at_zero Go.wp_at_succ
/-- The law's item, in block n. -/
structure ItemAt (n : Nat) (v0 v1 v2 v3 : Value) (w : World) : Prop where
  c0 : w.cell? ⟨n, 0, none⟩ = some v0
  c1 : w.cell? ⟨n, 1, none⟩ = some v1
  c2 : w.cell? ⟨n, 2, none⟩ = some v2
  c3 : w.cell? ⟨n, 3, none⟩ = some v3
/-- The reader, with what is left. -/
structure BackSt (w0 : World) (n g : Nat) (v0 v1 v2 v3 : Value) (R : List UInt8) (w : World) : Prop where
  rd : IsRdAt w (fun b => w0.heap.size < b) g true R 0
  it : ItemAt n v0 v1 v2 v3 w
  hn : n = w0.heap.size
  len : R.length ≤ 1000000000
  chg : Chg nob w0 w
section
variable {w0 w w' : World} {n g : Nat} {v0 v1 v2 v3 : Value} {R R' : List UInt8}
theorem BackSt.step (h : BackSt w0 n g v0 v1 v2 v3 R w) (hd : IsRd w' (fun b => w0.heap.size < b) (some ⟨g, 0, none⟩) true R' 0) (hc : Chg (At (some ⟨g, 0, none⟩)) w w') (hl : R'.length ≤ R.length) : BackSt w0 n g v0 v1 v2 v3 R' w' := by
  have hg : w0.heap.size < g := h.rd.1
  have hag : ∀ k, At (some ⟨g, 0, none⟩) k → k = g := fun k hk => by cases hk; rfl
  have hng : ¬ At (some ⟨g, 0, none⟩) n := fun e => by have := hag _ e; have := h.hn; omega
  rcases hd with ⟨g', e, hd⟩ | ⟨e, _⟩
  · cases e
    exact ⟨hd, ⟨hc.cell h.it.c0 hng, hc.cell h.it.c1 hng, hc.cell h.it.c2 hng, hc.cell h.it.c3 hng⟩, h.hn, Nat.le_trans hl h.len, h.chg.trans hc (fun k hk => .inr (by have := hag k hk; omega))⟩
  · cases e
theorem BackSt.new (h : BackSt w0 n g v0 v1 v2 v3 R w) (hc : Chg nob w w') : BackSt w0 n g v0 v1 v2 v3 R w' :=
  ⟨h.rd.chg hc (fun b _ => not_nob b), ⟨hc.cell h.it.c0 (not_nob _), hc.cell h.it.c1 (not_nob _), hc.cell h.it.c2 (not_nob _), hc.cell h.it.c3 (not_nob _)⟩, h.hn, h.len, h.chg.thenNew hc⟩
theorem back_cell (h : BackSt w0 n g v0 v1 v2 v3 R w) : w.cell? ⟨n, 0, none⟩ = some v0 ∧ w.cell? ⟨n, 1, none⟩ = some v1 ∧ w.cell? ⟨n, 2, none⟩ = some v2 ∧ w.cell? ⟨n, 3, none⟩ = some v3 := ⟨h.it.c0, h.it.c1, h.it.c2, h.it.c3⟩
theorem back_num {m : Nat} (h : BackSt w0 n g v0 v1 v2 v3 R w) (e : Hid (R = numB m ++ R')) (hm : m < 18446744073709551616) :
    Calls Try.prog 19 #[.pointer (some ⟨g, 0, none⟩), .int .u64 m] w fun x w' => x = .returned (.int .u64 m) ∧ BackSt w0 n g v0 v1 v2 v3 R' w' := by
  refine (rd_num (.inl ⟨g, rfl, h.rd⟩) m hm).mono ?_
  rintro x w' ⟨rfl, hd, hc⟩
  rw [e.out, rNum_fwd hm (Nat.le_refl _)] at hd
  refine ⟨by rw [e.out, rNum_fwd hm (Nat.le_refl _)], h.step hd hc (by rw [e.out, List.length_append]; omega)⟩
theorem back_text {s : ByteArray} (h : BackSt w0 n g v0 v1 v2 v3 R w) (e : Hid (R = txtB s ++ R')) (hs : s.size ≤ 1000000000) :
    Calls Try.prog 20 #[.pointer (some ⟨g, 0, none⟩), .int .i64 s.size] w fun x w' => x = .returned (.string s) ∧ BackSt w0 n g v0 v1 v2 v3 R' w' := by
  refine (rd_text (.inl ⟨g, rfl, h.rd⟩) s.size (by omega) (by omega)).mono ?_
  rintro x w' ⟨rfl, hd, hc⟩
  have hf := rText_fwd (s := s) (most := s.size) (by omega) (Int.le_refl _) R'
  rw [e.out, hf] at hd
  exact ⟨by rw [e.out, hf], h.step hd hc (by rw [e.out, List.length_append]; omega)⟩
theorem back_flag {fl : Bool} (h : BackSt w0 n g v0 v1 v2 v3 R w) (e : Hid (R = numB (if fl then 1 else 0) ++ R')) :
    Calls Try.prog 21 #[.pointer (some ⟨g, 0, none⟩)] w fun x w' => x = .returned (.bool fl) ∧ BackSt w0 n g v0 v1 v2 v3 R' w' := by
  refine (rd_flag (.inl ⟨g, rfl, h.rd⟩)).mono ?_
  rintro x w' ⟨rfl, hd, hc⟩
  rw [e.out, rFlag_fwd] at hd
  exact ⟨by rw [e.out, rFlag_fwd], h.step hd hc (by rw [e.out, List.length_append]; omega)⟩
theorem back_texts {l : List ByteArray} {d : Nat} (h : BackSt w0 n g v0 v1 v2 v3 R w) (e : Hid (R = listB txtB l ++ R')) (hd1 : Hid (l.length = d)) (hl : ∀ x ∈ l, x.size ≤ 1000000000) (hd2 : d ≤ 1000000000) :
    Calls Try.prog 22 #[.pointer (some ⟨g, 0, none⟩), .int .i64 d, .int .i64 1099511627776] w fun x w' => ∃ A c, x = .returned (.slice A d c) ∧ BackSt w0 n g v0 v1 v2 v3 R' w' ∧ Kd.string.C w' (fun _ => True) A l := by
  refine (rd_texts (.inl ⟨g, rfl, h.rd⟩) d (by omega) (by omega) 1099511627776 (by omega) (by omega) h.len).mono ?_
  have hf := rList_fwd (f := rT 1099511627776) (lay := txtB) (many := d) l (by have := hd1.out; omega) (by have := hd1.out; omega) (fun x hx rest => rT_fwd (by have := hl x hx; omega) (by have := hl x hx; omega) rest) R'
  rintro x w' ⟨A, c, rfl, _, hC, hd, hc⟩
  rw [e.out, hf] at hd hC
  exact ⟨A, c, by rw [e.out, hf, ← hd1.out], h.step hd hc (by rw [e.out, List.length_append]; omega), Kd.C_mono hC (fun _ _ => trivial)⟩
theorem back_nums {l : List Int} {d : Nat} (h : BackSt w0 n g v0 v1 v2 v3 R w) (e : Hid (R = listB numX l ++ R')) (hd1 : Hid (l.length = d)) (hl : ∀ x ∈ l, 0 ≤ x ∧ x < 18446744073709551616) (hd2 : d ≤ 1000000000) :
    Calls Try.prog 23 #[.pointer (some ⟨g, 0, none⟩), .int .i64 d, .int .u64 18446744073709551615] w fun x w' => ∃ A c, x = .returned (.slice A d c) ∧ BackSt w0 n g v0 v1 v2 v3 R' w' ∧ (Kd.int .u64).C w' (fun _ => True) A l := by
  refine (rd_nums (.inl ⟨g, rfl, h.rd⟩) d (by omega) (by omega) 18446744073709551615 (by omega) h.len).mono ?_
  have hf := rList_fwd (f := rU 18446744073709551615) (lay := numX) (many := d) l (by have := hd1.out; omega) (by have := hd1.out; omega) (fun x hx rest => rU_fwd (hl x hx).1 (hl x hx).2 (by have := hl x hx; omega) rest) R'
  rintro x w' ⟨A, c, rfl, _, hC, hd, hc⟩
  rw [e.out, hf] at hd hC
  exact ⟨A, c, by rw [e.out, hf, ← hd1.out], h.step hd hc (by rw [e.out, List.length_append]; omega), Kd.C_mono hC (fun _ _ => trivial)⟩
theorem back_same_t {l : List ByteArray} {d c e : Nat} {A B : Option Addr} (h : BackSt w0 n g v0 v1 v2 v3 R w) (hA : Kd.string.C w (fun _ => True) A l) (hd : Hid (l.length = d)) (hB : Kd.string.C w0 (fun b => b < w0.heap.size) B l) :
    Calls Try.prog 30 #[.slice A d c, .slice B d e] w fun x w' => x = .returned (.bool true) ∧ BackSt w0 n g v0 v1 v2 v3 R w' :=
  (texts_true hd.out hA (Kd.C_new hB h.chg)).mono fun x w' ⟨he, hc⟩ => ⟨he, h.new hc⟩
theorem back_same_n {l : List Int} {d c e : Nat} {A B : Option Addr} (h : BackSt w0 n g v0 v1 v2 v3 R w) (hA : (Kd.int .u64).C w (fun _ => True) A l) (hd : Hid (l.length = d)) (hB : (Kd.int .u64).C w0 (fun b => b < w0.heap.size) B l) :
    Calls Try.prog 31 #[.slice A d c, .slice B d e] w fun x w' => x = .returned (.bool true) ∧ BackSt w0 n g v0 v1 v2 v3 R w' :=
  (nums_true hd.out hA (Kd.C_new hB h.chg)).mono fun x w' ⟨he, hc⟩ => ⟨he, h.new hc⟩
end
set_option maxRecDepth 100000 in
set_option maxHeartbeats 8000000 in
theorem fieldBack_walk {w : World} (n : Nat) (hn : n < 18446744073709551616)
    (s : ByteArray) (fl : Bool) {B1 B2 : Option Addr} {d1 e1 d2 e2 : Nat} {ts : List ByteArray} {ns : List Int} (ht : Kd.string.C w (fun b => b < w.heap.size) B1 ts) (hnn : (Kd.int .u64).C w (fun b => b < w.heap.size) B2 ns) (hd1 : ts.length = d1) (hd2 : ns.length = d2)
    (hns : ∀ x ∈ ns, 0 ≤ x ∧ x < 18446744073709551616) (hts : ∀ x ∈ ts, x.size ≤ 1000000000)
    {A : Option Addr} {m c : Nat} {bs : List UInt8} (hb : Kd.byte.C w (fun b => b < w.heap.size) A bs) (hm : bs.length = m)
    (hs : m + s.size + (listB txtB ts).length + (listB numX ns).length ≤ 500000000) :
    Calls Try.prog 6 #[.int .u64 n, .agg #[.string s, .bool fl, .slice B1 d1 e1, .slice B2 d2 e2], .slice A m c] w fun e w' => e = .returned (.bool true) ∧ Chg nob w w' := by
  have hsl : s.size ≤ 1000000000 := by omega
  have l1 := listB_le txtB txtB_pos ts
  have l2 := listB_le numX numX_pos ns
  have q1 := numB_len (n := n) hn
  have q2 := numB_len (n := s.size) (by omega)
  have q3 := numB_len (n := if fl then 1 else 0) (by split <;> omega)
  have q4 : (txtB s).length = (numB s.size).length + s.size := by rw [txtB, List.length_append, strB_len]
  have hd1l : d1 ≤ 1000000000 := by omega
  have hd2l : d2 ≤ 1000000000 := by omega
  have HB := Lib.hid hb
  have HM := Lib.hid hm
  have HT := ht
  have HN := hnn
  have HD1 := Lib.hid hd1
  have HD2 := Lib.hid hd2
  clear hb hm ht hnn hd1 hd2
  go_enter Try.func6, Try.ntmps6
  go_wp2_with fail
  obtain ⟨w1, hw1⟩ : ∃ w1, w1 = w.alloc (.cells #[.string s, .bool fl, .slice B1 d1 e1, .slice B2 d2 e2] 27) := ⟨_, rfl⟩
  have h0c : Chg nob w w1 := by rw [hw1]; exact (Chg.refl _ _).alloc _
  have z1 : w1.heap.size = w.heap.size + 1 := by rw [hw1]; simp
  have hcell : ∀ wx, Chg nob w1 wx → ItemAt w.heap.size (.string s) (.bool fl) (.slice B1 d1 e1) (.slice B2 d2 e2) wx := by
    intro wx hc
    have h9 : w1.heap[w.heap.size]? = some (.cells #[.string s, .bool fl, .slice B1 d1 e1, .slice B2 d2 e2] 27) := by rw [hw1]; exact heap_alloc_new w _
    have h9 := hc.heap h9 (not_nob _)
    refine ⟨?_, ?_, ?_, ?_⟩ <;> simp [World.cell?, h9]
  have HCELL := Lib.hid hcell
  rw [← hw1]
  clear hw1 hcell
  refine (field_num (Kd.C_nil _ _ (fun _ => False) none) rfl (Nat.zero_le _) n (by omega) (by omega)).mono ?_
  intro x w2 hY
  obtain ⟨Y1, y1, rfl, _, hR, hD⟩ := hY.slice
  rw [List.nil_append, Int.toNat_natCast] at hR ⊢
  obtain ⟨p1, hp1⟩ : ∃ q, (numB n).length = q := ⟨_, rfl⟩
  rw [hp1] at hR ⊢
  have HP1 := Lib.hid hp1
  have hp1l : p1 ≤ 900000000 := by rw [← hp1]; omega
  have HY1 := Lib.hid (Kd.R_read hR).1
  have C2 := (Chg.refl nob w1).thenNew hD
  obtain ⟨c0, _, _, _⟩ := HCELL.out _ C2
  clear hp1 hY hR hD
  go_wp2_with fail
  refine (field_text HY1.out HP1.out (by omega) s hsl).mono ?_
  intro x w3 hY
  obtain ⟨Y2, y2, rfl, _, hR, hD⟩ := hY.slice
  rw [show numB n ++ (numB s.size ++ strB s) = numB n ++ txtB s from rfl] at hR ⊢
  obtain ⟨p2, hp2⟩ : ∃ q, (numB n ++ txtB s).length = q := ⟨_, rfl⟩
  rw [hp2] at hR ⊢
  have HP2 := Lib.hid hp2
  have hp2l : p2 ≤ 900000000 := by rw [← hp2]; simp only [List.length_append]; omega
  have HY2 := Lib.hid (Kd.R_read hR).1
  have C3 := C2.thenNew hD
  obtain ⟨_, c1, _, _⟩ := HCELL.out _ C3
  clear hp2 hY hR hD c0
  go_wp2_with fail
  refine (field_flag HY2.out HP2.out (by omega) fl).mono ?_
  intro x w4 hY
  obtain ⟨Y3, y3, rfl, _, hR, hD⟩ := hY.slice
  obtain ⟨p3, hp3⟩ : ∃ q, (numB n ++ txtB s ++ numB (if fl then 1 else 0)).length = q := ⟨_, rfl⟩
  rw [hp3] at hR ⊢
  have HP3 := Lib.hid hp3
  have hp3l : p3 ≤ 900000000 := by rw [← hp3]; simp only [List.length_append]; omega
  have HY3 := Lib.hid (Kd.R_read hR).1
  have C4 := C3.thenNew hD
  obtain ⟨_, _, c2, _⟩ := HCELL.out _ C4
  clear hp3 hY hR hD c1
  go_wp2_with fail
  refine (field_texts HY3.out HP3.out (Kd.C_new HT (h0c.thenNew C4)) HD1.out (by simp only [List.length_append]; omega) _).mono ?_
  intro x w5 hY
  obtain ⟨Y4, y4, rfl, _, hR, hD⟩ := hY.slice
  obtain ⟨p4, hp4⟩ : ∃ q, (numB n ++ txtB s ++ numB (if fl then 1 else 0) ++ listB txtB ts).length = q := ⟨_, rfl⟩
  rw [hp4] at hR ⊢
  have HP4 := Lib.hid hp4
  have hp4l : p4 ≤ 900000000 := by rw [← hp4]; simp only [List.length_append]; omega
  have HY4 := Lib.hid (Kd.R_read hR).1
  have C5 := C4.thenNew hD
  obtain ⟨_, _, _, c3⟩ := HCELL.out _ C5
  clear hp4 hY hR hD c2
  go_wp2_with fail
  refine (field_nums HY4.out HP4.out (Kd.C_new HN (h0c.thenNew C5)) HD2.out hns (by simp only [List.length_append]; omega) _).mono ?_
  intro x w6 hY
  obtain ⟨Y5, y5, rfl, _, hR, hD⟩ := hY.slice
  have C6 := C5.thenNew hD
  have s56 := hD.size
  have hBm := Kd.C_new HB.out (h0c.thenNew C6)
  have s6 := C5.size
  have s6' := C6.size
  obtain ⟨L, hL⟩ : ∃ L, numB n ++ txtB s ++ numB (if fl then 1 else 0) ++ listB txtB ts ++ listB numX ns = L := ⟨_, rfl⟩
  have hLl : L.length + m ≤ 900000000 := by rw [← hL]; simp only [List.length_append]; omega
  have HL := Lib.hid hL
  rw [hL] at hR ⊢
  clear hY hD c3 hL
  go_wp2_with (at_builtin; refine wp_appB rfl _ _ rfl w5.heap.size _ _ (.slice Y5 L.length y5) L bs A m c rfl rfl HM.out hR hBm s56 (L.length + m) rfl (by omega) ?_)
  intro A7 c7 w7 hR7 hC7 _
  have C7 := C6.trans hC7 (fun k hk => .inr (by have := (Kd.R_own hR k hk.symm).1; omega))
  have HY7 := Lib.hid (Kd.R_read hR7).1
  have hl7 : (L ++ bs).length = L.length + m := by rw [List.length_append, HM.out]
  have HL7 := Lib.hid hl7
  have s7 := C7.size
  clear hR hR7 hC7 hBm hl7
  go_wp2_with fail
  refine (rd_read HY7.out HL7.out (by omega)).mono ?_
  rintro x w8 ⟨g, rfl, hA8, hC8⟩
  have C8 := C7.thenNew hC8
  obtain ⟨R4, hR4⟩ : ∃ R, listB numX ns ++ bs = R := ⟨_, rfl⟩
  obtain ⟨R3, hR3⟩ : ∃ R, listB txtB ts ++ R4 = R := ⟨_, rfl⟩
  obtain ⟨R2, hR2⟩ : ∃ R, numB (if fl then 1 else 0) ++ R3 = R := ⟨_, rfl⟩
  obtain ⟨R1, hR1⟩ : ∃ R, txtB s ++ R2 = R := ⟨_, rfl⟩
  have E0 : Hid (L ++ bs = numB n ++ R1) := by show _ = _; rw [← hR1, ← hR2, ← hR3, ← hR4, ← HL.out]; simp only [List.append_assoc]
  have E1 : Hid (R1 = txtB s ++ R2) := hR1.symm
  have E2 : Hid (R2 = numB (if fl then 1 else 0) ++ R3) := hR2.symm
  have E3 : Hid (R3 = listB txtB ts ++ R4) := hR3.symm
  have E4 : Hid (R4 = listB numX ns ++ bs) := hR4.symm
  have hst : BackSt w w.heap.size g (.string s) (.bool fl) (.slice B1 d1 e1) (.slice B2 d2 e2) (L ++ bs) w8 :=
    ⟨hA8.mono (fun b hb => by omega), HCELL.out _ C8, rfl, by rw [HL7.out]; omega, h0c.thenNew C8⟩
  have hst' : BackSt w w.heap.size g (.string s) (.bool fl) (.slice B1 d1 e1) (.slice B2 d2 e2) (L ++ bs) w8.drew := hst.new ((Chg.refl _ _).drew)
  clear hR1 hR2 hR3 hR4 hA8 hC8 C2 C3 C4 C5 C6 C7 C8
  go_wp2
  go_region_held3 (fun w' => w'.cell? ⟨w.heap.size, 0, none⟩ = some (.string s) ∧ w'.cell? ⟨w.heap.size, 1, none⟩ = some (.bool fl) ∧ w'.cell? ⟨w.heap.size, 2, none⟩ = some (.slice B1 d1 e1) ∧ w'.cell? ⟨w.heap.size, 3, none⟩ = some (.slice B2 d2 e2)) (exact back_cell (by assumption))
    (first | (go_at_call 19; refine (back_num (by assumption) (by assumption) hn).mono ?_; rintro e w' ⟨rfl, hq⟩) | (go_at_call 20; refine (back_text (by assumption) (by assumption) hsl).mono ?_; rintro e w' ⟨rfl, hq⟩) | (go_at_call 21; refine (back_flag (by assumption) (by assumption)).mono ?_; rintro e w' ⟨rfl, hq⟩) | (go_at_call 22; refine (back_texts (by assumption) (by assumption) (by assumption) hts hd1l).mono ?_; rintro e w' ⟨A9, c9, rfl, hq, hq2⟩) | (go_at_call 23; refine (back_nums (by assumption) (by assumption) (by assumption) hns hd2l).mono ?_; rintro e w' ⟨A9, c9, rfl, hq, hq2⟩) | (go_at_call 30; refine (back_same_t (by assumption) (by assumption) (by assumption) (by assumption)).mono ?_; rintro e w' ⟨rfl, hq⟩) | (go_at_call 31; refine (back_same_n (by assumption) (by assumption) (by assumption) (by assumption)).mono ?_; rintro e w' ⟨rfl, hq⟩))
  have hF := hq
  clear hst hst' hq2 HT HN HD1 HD2 HB HCELL HY1 HY2 HY3 HY4 HY7 E0 E1 E2 E3 E4
  by_cases h0 : m = 0
  · have HDN : Hid (rDone bs 0 = 0) := by show _ = _; rw [rDone, HM.out, h0]; rfl
    go_wp2_with fail
    refine (rd_wrong (.inl ⟨g, rfl, hF.rd⟩)).mono ?_
    rintro x w9 ⟨rfl, rfl⟩
    rw [show (((0 : Nat) : Int)) = (0 : Int) from rfl]
    go_wp2_with fail
    refine (rd_left (.inl ⟨g, rfl, hF.rd⟩)).mono ?_
    rintro x w9 ⟨rfl, rfl⟩
    rw [HM.out]
    go_wp2_with fail
    refine (rd_done (.inl ⟨g, rfl, hF.rd⟩)).mono ?_
    rintro x w9 ⟨rfl, rfl⟩
    rw [HDN.out, show (((0 : Nat) : Int)) = (0 : Int) from rfl]
    have b0 : ((m : Int) == 0) = true := by simp; omega
    go_wp2_with fail
    refine (field_works _).mono ?_
    rintro x wd ⟨rfl, hce⟩
    have D6 := hF.chg.thenNew hce
    clear hce
    go_wp2
    go_ret
    exact ⟨rfl, D6⟩
  · have HDN : Hid (rDone bs 0 = 41) := by show _ = _; rw [rDone, HM.out, if_neg (fun h => h rfl), if_pos (by omega)]
    go_wp2_with fail
    refine (rd_wrong (.inl ⟨g, rfl, hF.rd⟩)).mono ?_
    rintro x w9 ⟨rfl, rfl⟩
    rw [show (((0 : Nat) : Int)) = (0 : Int) from rfl]
    go_wp2_with fail
    refine (rd_left (.inl ⟨g, rfl, hF.rd⟩)).mono ?_
    rintro x w9 ⟨rfl, rfl⟩
    rw [HM.out]
    go_wp2_with fail
    refine (rd_done (.inl ⟨g, rfl, hF.rd⟩)).mono ?_
    rintro x w9 ⟨rfl, rfl⟩
    rw [HDN.out, show (((41 : Nat) : Int)) = (41 : Int) from rfl]
    have b0 : ((m : Int) == 0) = false := by simp; omega
    go_wp2_with fail
    refine (field_works _).mono ?_
    rintro x wd ⟨rfl, hce⟩
    have D6 := hF.chg.thenNew hce
    clear hce
    go_wp2
    go_ret
    exact ⟨rfl, D6⟩
end Go.Proofs.Yticbffoclnjciaa
