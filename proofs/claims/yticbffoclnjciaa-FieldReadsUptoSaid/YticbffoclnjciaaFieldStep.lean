/- The law FieldReads: one step. -/
import Derived.Test.YticbffoclnjciaaRefList
import Derived.Test.YticbffoclnjciaaFieldSame
import Derived.Deep.DrawnRows
import Derived.Deep.RegionHeld3
namespace Go.Proofs.Yticbffoclnjciaa
open Go.RowKit
set_option linter.unusedVariables false
attribute [local go_sem ↓] Go.wp_at_zero Go.wp_at_succ
/-- The two readers, alike. -/
structure ReadSt (w0 : World) (g g2 : Nat) (bs : List UInt8) (e : Nat) (w : World) : Prop where
  rd : IsRdAt w (fun b => w0.heap.size ≤ b ∧ b ≠ g2) g true bs e
  rr : IsRef w (fun b => b < w0.heap.size) g2 bs e
  hg2 : w0.heap.size ≤ g2
  len : bs.length ≤ 1000000000
  chg : Chg nob w0 w
/-- Within a step: the step itself lies in block s. -/
structure StepSt (w0 : World) (s g g2 : Nat) (v0 v1 v2 v3 : Value) (bs : List UInt8) (e : Nat) (bs2 : List UInt8) (e2 : Nat) (w : World) : Prop where
  rd : IsRdAt w (fun b => (w0.heap.size ≤ b ∧ b ≠ g2) ∧ b < s) g true bs e
  rr : IsRef w (fun b => b < w0.heap.size) g2 bs2 e2
  hg2 : w0.heap.size ≤ g2 ∧ g2 < s
  c0 : w.cell? ⟨s, 0, none⟩ = some v0
  c1 : w.cell? ⟨s, 1, none⟩ = some v1
  c2 : w.cell? ⟨s, 2, none⟩ = some v2
  c3 : w.cell? ⟨s, 3, none⟩ = some v3
  hs : s < w.heap.size
  len : bs.length ≤ 1000000000
  len2 : bs2.length ≤ 1000000000
  chg : Chg nob w0 w
section
variable {w0 w w' : World} {s g g2 : Nat} {v0 v1 v2 v3 : Value} {bs bs' bs2 bs2' : List UInt8} {e e' e2 e2' : Nat}
theorem StepSt.readst (h : StepSt w0 s g g2 v0 v1 v2 v3 bs e bs e w) : ReadSt w0 g g2 bs e w := ⟨h.rd.mono (fun b hb => hb.1), h.rr, h.hg2.1, h.len, h.chg⟩
theorem StepSt.gs (h : StepSt w0 s g g2 v0 v1 v2 v3 bs e bs2 e2 w) : w0.heap.size ≤ g ∧ g ≠ g2 ∧ g < s := ⟨h.rd.1.1.1, h.rd.1.1.2, h.rd.1.2⟩
theorem StepSt.new (h : StepSt w0 s g g2 v0 v1 v2 v3 bs e bs2 e2 w) (hc : Chg nob w w') : StepSt w0 s g g2 v0 v1 v2 v3 bs e bs2 e2 w' :=
  ⟨h.rd.chg hc (fun b _ => not_nob b), h.rr.new hc, h.hg2, hc.cell h.c0 (not_nob _), hc.cell h.c1 (not_nob _), hc.cell h.c2 (not_nob _), hc.cell h.c3 (not_nob _), Nat.lt_of_lt_of_le h.hs hc.size, h.len, h.len2, h.chg.thenNew hc⟩
theorem StepSt.one (h : StepSt w0 s g g2 v0 v1 v2 v3 bs e bs2 e2 w) (hd : IsRd w' (fun b => (w0.heap.size ≤ b ∧ b ≠ g2) ∧ b < s) (some ⟨g, 0, none⟩) true bs' e') (hc : Chg (At (some ⟨g, 0, none⟩)) w w') (hr : Rest bs bs') : StepSt w0 s g g2 v0 v1 v2 v3 bs' e' bs2 e2 w' := by
  obtain ⟨h1, h2, h3⟩ := h.gs
  have hg2 := h.hg2
  have hag : ∀ k, At (some ⟨g, 0, none⟩) k → k = g := fun k hk => by cases hk; rfl
  have hns : ¬ At (some ⟨g, 0, none⟩) s := fun e => by have := hag _ e; omega
  have hl := hr.len
  have hlen := h.len
  rcases hd with ⟨g', e, hd⟩ | ⟨e, _⟩
  · cases e
    exact ⟨hd, h.rr.chg hc (fun e => h2 (hag _ e).symm) (fun b hb e => by have := hag _ e; omega), hg2, hc.cell h.c0 hns, hc.cell h.c1 hns, hc.cell h.c2 hns, hc.cell h.c3 hns, Nat.lt_of_lt_of_le h.hs hc.size, by omega, h.len2, h.chg.trans hc (fun k hk => .inr (by have := hag k hk; omega))⟩
  · cases e
theorem StepSt.two (h : StepSt w0 s g g2 v0 v1 v2 v3 bs e bs2 e2 w) (hd : IsRef w' (fun b => b < w0.heap.size) g2 bs2' e2') (hc : Chg (At (some ⟨g2, 0, none⟩)) w w') (hr : Rest bs2 bs2') : StepSt w0 s g g2 v0 v1 v2 v3 bs e bs2' e2' w' := by
  obtain ⟨h1, h2, h3⟩ := h.gs
  have hg2 := h.hg2
  have hag : ∀ k, At (some ⟨g2, 0, none⟩) k → k = g2 := fun k hk => by cases hk; rfl
  have hns : ¬ At (some ⟨g2, 0, none⟩) s := fun e => by have := hag _ e; omega
  have hl := hr.len
  have hlen := h.len2
  exact ⟨h.rd.chg hc (fun b hb e => hb.1.2 (hag _ e)), hd, hg2, hc.cell h.c0 hns, hc.cell h.c1 hns, hc.cell h.c2 hns, hc.cell h.c3 hns, Nat.lt_of_lt_of_le h.hs hc.size, h.len, by omega, h.chg.trans hc (fun k hk => .inr (by have := hag k hk; omega))⟩
theorem StepSt.cells (h : StepSt w0 s g g2 v0 v1 v2 v3 bs e bs2 e2 w) : w.cell? ⟨s, 1, none⟩ = some v1 ∧ w.cell? ⟨s, 2, none⟩ = some v2 ∧ w.cell? ⟨s, 3, none⟩ = some v3 := ⟨h.c1, h.c2, h.c3⟩
theorem st_num (h : StepSt w0 s g g2 v0 v1 v2 v3 bs e bs2 e2 w) (m : Nat) (hm : m < 18446744073709551616) :
    Calls Try.prog 19 #[.pointer (some ⟨g, 0, none⟩), .int .u64 m] w fun x w' => x = .returned (.int .u64 (rNum true bs e m).1) ∧ StepSt w0 s g g2 v0 v1 v2 v3 (rNum true bs e m).2.1 (rNum true bs e m).2.2 bs2 e2 w' :=
  (rd_num (.inl ⟨g, rfl, h.rd⟩) m hm).mono fun x w' ⟨he, hd, hc⟩ => ⟨he, h.one hd hc (rNum_rest _ _ _ _)⟩
theorem st_rnum (h : StepSt w0 s g g2 v0 v1 v2 v3 bs e bs2 e2 w) (m : Nat) (hm : m < 18446744073709551616) :
    Calls Try.prog 41 #[.pointer (some ⟨g2, 0, none⟩), .int .u64 m] w fun x w' => x = .returned (.int .u64 (rNum true bs2 e2 m).1) ∧ StepSt w0 s g g2 v0 v1 v2 v3 bs e (rNum true bs2 e2 m).2.1 (rNum true bs2 e2 m).2.2 w' :=
  (rr_num h.rr m hm).mono fun x w' ⟨he, hd, hc⟩ => ⟨he, h.two hd hc (rNum_rest _ _ _ _)⟩
theorem st_text (h : StepSt w0 s g g2 v0 v1 v2 v3 bs e bs2 e2 w) (m : Int) (hm0 : -9223372036854775808 ≤ m) (hm1 : m ≤ 9223372036854775807) :
    Calls Try.prog 20 #[.pointer (some ⟨g, 0, none⟩), .int .i64 m] w fun x w' => x = .returned (.string (rText true bs e m).1) ∧ StepSt w0 s g g2 v0 v1 v2 v3 (rText true bs e m).2.1 (rText true bs e m).2.2 bs2 e2 w' :=
  (rd_text (.inl ⟨g, rfl, h.rd⟩) m hm0 hm1).mono fun x w' ⟨he, hd, hc⟩ => ⟨he, h.one hd hc (rText_rest _ _ _ _)⟩
theorem st_rtext (h : StepSt w0 s g g2 v0 v1 v2 v3 bs e bs2 e2 w) (m : Int) (hm0 : -9223372036854775808 ≤ m) (hm1 : m ≤ 9223372036854775807) :
    Calls Try.prog 42 #[.pointer (some ⟨g2, 0, none⟩), .int .i64 m] w fun x w' => x = .returned (.string (rText true bs2 e2 m).1) ∧ StepSt w0 s g g2 v0 v1 v2 v3 bs e (rText true bs2 e2 m).2.1 (rText true bs2 e2 m).2.2 w' :=
  (rr_text h.rr m hm0 hm1).mono fun x w' ⟨he, hd, hc⟩ => ⟨he, h.two hd hc (rText_rest _ _ _ _)⟩
theorem st_flag (h : StepSt w0 s g g2 v0 v1 v2 v3 bs e bs2 e2 w) :
    Calls Try.prog 21 #[.pointer (some ⟨g, 0, none⟩)] w fun x w' => x = .returned (.bool (rFlag true bs e).1) ∧ StepSt w0 s g g2 v0 v1 v2 v3 (rFlag true bs e).2.1 (rFlag true bs e).2.2 bs2 e2 w' :=
  (rd_flag (.inl ⟨g, rfl, h.rd⟩)).mono fun x w' ⟨he, hd, hc⟩ => ⟨he, h.one hd hc (rFlag_rest _ _ _)⟩
theorem st_rflag (h : StepSt w0 s g g2 v0 v1 v2 v3 bs e bs2 e2 w) :
    Calls Try.prog 43 #[.pointer (some ⟨g2, 0, none⟩)] w fun x w' => x = .returned (.bool (rFlag true bs2 e2).1) ∧ StepSt w0 s g g2 v0 v1 v2 v3 bs e (rFlag true bs2 e2).2.1 (rFlag true bs2 e2).2.2 w' :=
  (rr_flag h.rr).mono fun x w' ⟨he, hd, hc⟩ => ⟨he, h.two hd hc (rFlag_rest _ _ _)⟩
theorem st_texts (h : StepSt w0 s g g2 v0 v1 v2 v3 bs e bs2 e2 w) (n : Int) (hn0 : -9223372036854775808 ≤ n) (hn1 : n ≤ 9223372036854775807) (m : Int) (hm0 : -9223372036854775808 ≤ m) (hm1 : m ≤ 9223372036854775807) :
    Calls Try.prog 22 #[.pointer (some ⟨g, 0, none⟩), .int .i64 n, .int .i64 m] w fun x w' => ∃ A c, x = .returned (.slice A (rList (rT m) true bs e n).1.length c) ∧ StepSt w0 s g g2 v0 v1 v2 v3 (rList (rT m) true bs e n).2.1 (rList (rT m) true bs e n).2.2 bs2 e2 w' ∧ Kd.string.C w' (fun b => s < b) A (rList (rT m) true bs e n).1 :=
  (rd_texts (.inl ⟨g, rfl, h.rd⟩) n hn0 hn1 m hm0 hm1 h.len).mono fun x w' ⟨A, c, he, _, hC, hd, hc⟩ => ⟨A, c, he, h.one hd hc (rList_rest (rT_rest m) _ _ _ _), Kd.C_mono hC (fun b hb => Nat.lt_of_lt_of_le h.hs hb)⟩
theorem st_rtexts (h : StepSt w0 s g g2 v0 v1 v2 v3 bs e bs2 e2 w) {B : Option Addr} {l : List ByteArray} (hB : Kd.string.C w (fun b => s < b) B l) (n : Int) (hn0 : -9223372036854775808 ≤ n) (hn1 : n ≤ 9223372036854775807) (m : Int) (hm0 : -9223372036854775808 ≤ m) (hm1 : m ≤ 9223372036854775807) :
    Calls Try.prog 44 #[.pointer (some ⟨g2, 0, none⟩), .int .i64 n, .int .i64 m] w fun x w' => ∃ A c, x = .returned (.slice A (rList (rT m) true bs2 e2 n).1.length c) ∧ StepSt w0 s g g2 v0 v1 v2 v3 bs e (rList (rT m) true bs2 e2 n).2.1 (rList (rT m) true bs2 e2 n).2.2 w' ∧ Kd.string.C w' (fun b => s < b) B l ∧ Kd.string.C w' (fun b => s < b) A (rList (rT m) true bs2 e2 n).1 :=
  (rr_texts h.rr (fun b hb => Nat.lt_of_lt_of_le hb h.chg.size) n hn0 hn1 m hm0 hm1 h.len2).mono fun x w' ⟨A, c, he, _, hC, hd, hc⟩ => ⟨A, c, he, h.two hd hc (rList_rest (rT_rest m) _ _ _ _), Kd.C_chg hB hc (fun b hb e => by cases e; have := h.hg2.2; omega), Kd.C_mono hC (fun b hb => Nat.lt_of_lt_of_le h.hs hb)⟩
theorem st_nums (h : StepSt w0 s g g2 v0 v1 v2 v3 bs e bs2 e2 w) (n : Int) (hn0 : -9223372036854775808 ≤ n) (hn1 : n ≤ 9223372036854775807) (m : Nat) (hm : m < 18446744073709551616) :
    Calls Try.prog 23 #[.pointer (some ⟨g, 0, none⟩), .int .i64 n, .int .u64 m] w fun x w' => ∃ A c, x = .returned (.slice A (rList (rU m) true bs e n).1.length c) ∧ StepSt w0 s g g2 v0 v1 v2 v3 (rList (rU m) true bs e n).2.1 (rList (rU m) true bs e n).2.2 bs2 e2 w' ∧ (Kd.int .u64).C w' (fun b => s < b) A (rList (rU m) true bs e n).1 :=
  (rd_nums (.inl ⟨g, rfl, h.rd⟩) n hn0 hn1 m hm h.len).mono fun x w' ⟨A, c, he, _, hC, hd, hc⟩ => ⟨A, c, he, h.one hd hc (rList_rest (rU_rest m) _ _ _ _), Kd.C_mono hC (fun b hb => Nat.lt_of_lt_of_le h.hs hb)⟩
theorem st_rnums (h : StepSt w0 s g g2 v0 v1 v2 v3 bs e bs2 e2 w) {B : Option Addr} {l : List Int} (hB : (Kd.int .u64).C w (fun b => s < b) B l) (n : Int) (hn0 : -9223372036854775808 ≤ n) (hn1 : n ≤ 9223372036854775807) (m : Nat) (hm : m < 18446744073709551616) :
    Calls Try.prog 45 #[.pointer (some ⟨g2, 0, none⟩), .int .i64 n, .int .u64 m] w fun x w' => ∃ A c, x = .returned (.slice A (rList (rU m) true bs2 e2 n).1.length c) ∧ StepSt w0 s g g2 v0 v1 v2 v3 bs e (rList (rU m) true bs2 e2 n).2.1 (rList (rU m) true bs2 e2 n).2.2 w' ∧ (Kd.int .u64).C w' (fun b => s < b) B l ∧ (Kd.int .u64).C w' (fun b => s < b) A (rList (rU m) true bs2 e2 n).1 :=
  (rr_nums h.rr (fun b hb => Nat.lt_of_lt_of_le hb h.chg.size) n hn0 hn1 m hm h.len2).mono fun x w' ⟨A, c, he, _, hC, hd, hc⟩ => ⟨A, c, he, h.two hd hc (rList_rest (rU_rest m) _ _ _ _), Kd.C_chg hB hc (fun b hb e => by cases e; have := h.hg2.2; omega), Kd.C_mono hC (fun b hb => Nat.lt_of_lt_of_le h.hs hb)⟩
theorem st_same_t (h : StepSt w0 s g g2 v0 v1 v2 v3 bs e bs2 e2 w) {A B : Option Addr} {c d : Nat} {l : List ByteArray} (hA : Kd.string.C w (fun b => s < b) A l) (hB : Kd.string.C w (fun b => s < b) B l) :
    Calls Try.prog 30 #[.slice A l.length c, .slice B l.length d] w fun x w' => x = .returned (.bool true) ∧ StepSt w0 s g g2 v0 v1 v2 v3 bs e bs2 e2 w' :=
  (texts_true rfl hA hB).mono fun x w' ⟨he, hc⟩ => ⟨he, h.new hc⟩
theorem st_same_n (h : StepSt w0 s g g2 v0 v1 v2 v3 bs e bs2 e2 w) {A B : Option Addr} {c d : Nat} {l : List Int} (hA : (Kd.int .u64).C w (fun b => s < b) A l) (hB : (Kd.int .u64).C w (fun b => s < b) B l) :
    Calls Try.prog 31 #[.slice A l.length c, .slice B l.length d] w fun x w' => x = .returned (.bool true) ∧ StepSt w0 s g g2 v0 v1 v2 v3 bs e bs2 e2 w' :=
  (nums_true rfl hA hB).mono fun x w' ⟨he, hc⟩ => ⟨he, h.new hc⟩
end
set_option maxRecDepth 100000 in
set_option maxHeartbeats 4000000 in
theorem step_true {w0 w : World} {g g2 : Nat} {bs : List UInt8} {e : Nat} (h : ReadSt w0 g g2 bs e w) (x0 x1 x2 : Int) (x3 : Nat) (h1 : -9223372036854775808 ≤ x1 ∧ x1 ≤ 9223372036854775807) (h2 : -9223372036854775808 ≤ x2 ∧ x2 ≤ 9223372036854775807) (h3 : x3 < 18446744073709551616) :
    Calls Try.prog 28 #[.pointer (some ⟨g, 0, none⟩), .pointer (some ⟨g2, 0, none⟩), .agg #[.int .i64 x0, .int .i64 x1, .int .i64 x2, .int .u64 x3]] w fun x w' => x = .returned (.bool true) ∧ ∃ bs' e', ReadSt w0 g g2 bs' e' w' := by
  obtain ⟨h11, h12⟩ := h1
  obtain ⟨h21, h22⟩ := h2
  have hst : StepSt w0 w.heap.size g g2 (.int .i64 x0) (.int .i64 x1) (.int .i64 x2) (.int .u64 x3) bs e bs e (w.alloc (.cells #[.int .i64 x0, .int .i64 x1, .int .i64 x2, .int .u64 x3] 41)) := by
    have hc : Chg nob w (w.alloc (.cells #[.int .i64 x0, .int .i64 x1, .int .i64 x2, .int .u64 x3] 41)) := (Chg.refl _ _).alloc _
    have h9 := heap_alloc_new w (.cells #[.int .i64 x0, .int .i64 x1, .int .i64 x2, .int .u64 x3] 41)
    refine ⟨h.rd.bound.chg hc (fun b _ => not_nob b), h.rr.new hc, ⟨h.hg2, h.rr.lt⟩, by rw [cell_of_row _ _ 0 _ _ _ h9]; rfl, by rw [cell_of_row _ _ 1 _ _ _ h9]; rfl, by rw [cell_of_row _ _ 2 _ _ _ h9]; rfl, by rw [cell_of_row _ _ 3 _ _ _ h9]; rfl, by simp, h.len, h.len, h.chg.thenNew hc⟩
  have hkind : x0 = 0 ∨ x0 = 1 ∨ x0 = 2 ∨ x0 = 3 ∨ x0 = 4 ∨ (¬ x0 = 0 ∧ ¬ x0 = 1 ∧ ¬ x0 = 2 ∧ ¬ x0 = 3 ∧ ¬ x0 = 4) := by omega
  clear h
  go_enter Try.func28, Try.ntmps28
  generalize hw1 : w.alloc (.cells #[.int .i64 x0, .int .i64 x1, .int .i64 x2, .int .u64 x3] 41) = w1 at hst
  rcases hkind with rfl | rfl | rfl | rfl | rfl | ⟨k0, k1, k2, k3, k4⟩
  · have e0 := hst.c0
    have hst' := hst.new ((Chg.refl _ _).drew)
    go_wp2
    go_region_held3 (fun w' => w'.cell? ⟨w.heap.size, 1, none⟩ = some (.int .i64 x1) ∧ w'.cell? ⟨w.heap.size, 2, none⟩ = some (.int .i64 x2) ∧ w'.cell? ⟨w.heap.size, 3, none⟩ = some (.int .u64 x3)) (exact StepSt.cells (by assumption))
      (first | (go_at_call 19; refine (st_num (by assumption) _ h3).mono ?_; rintro e w' ⟨rfl, hq⟩) | (go_at_call 41; refine (st_rnum (by assumption) _ h3).mono ?_; rintro e w' ⟨rfl, hq⟩))
    go_wp2
    go_ret
    exact ⟨rfl, _, _, hq.readst⟩
  · have e0 := hst.c0
    have hst' := hst.new ((Chg.refl _ _).drew)
    go_wp2
    go_region_held3 (fun w' => w'.cell? ⟨w.heap.size, 1, none⟩ = some (.int .i64 x1) ∧ w'.cell? ⟨w.heap.size, 2, none⟩ = some (.int .i64 x2) ∧ w'.cell? ⟨w.heap.size, 3, none⟩ = some (.int .u64 x3)) (exact StepSt.cells (by assumption))
      (first | (go_at_call 20; refine (st_text (by assumption) _ h21 h22).mono ?_; rintro e w' ⟨rfl, hq⟩) | (go_at_call 42; refine (st_rtext (by assumption) _ h21 h22).mono ?_; rintro e w' ⟨rfl, hq⟩))
    go_wp2
    go_ret
    exact ⟨rfl, _, _, hq.readst⟩
  · have e0 := hst.c0
    go_wp2_with fail
    refine (st_flag hst).mono ?_
    rintro x w2 ⟨rfl, hq⟩
    go_wp2_with fail
    refine (st_rflag hq).mono ?_
    rintro x w3 ⟨rfl, hq⟩
    go_wp2
    go_ret
    exact ⟨rfl, _, _, hq.readst⟩
  · have e0 := hst.c0
    have hst' := hst.new ((Chg.refl _ _).drew)
    go_wp2
    go_region_held3 (fun w' => w'.cell? ⟨w.heap.size, 1, none⟩ = some (.int .i64 x1) ∧ w'.cell? ⟨w.heap.size, 2, none⟩ = some (.int .i64 x2) ∧ w'.cell? ⟨w.heap.size, 3, none⟩ = some (.int .u64 x3)) (exact StepSt.cells (by assumption))
      (first | (go_at_call 22; refine (st_texts (by assumption) _ h11 h12 _ h21 h22).mono ?_; rintro e w' ⟨A1, c1, rfl, hq, hA⟩) | (go_at_call 44; refine (st_rtexts (by assumption) (by assumption) _ h11 h12 _ h21 h22).mono ?_; rintro e w' ⟨B1, d1, rfl, hq, hA, hB⟩) | (go_at_call 30; refine (st_same_t (by assumption) (by assumption) (by assumption)).mono ?_; rintro e w' ⟨rfl, hq⟩))
    go_wp2
    go_ret
    exact ⟨rfl, _, _, hq.readst⟩
  · have e0 := hst.c0
    have hst' := hst.new ((Chg.refl _ _).drew)
    go_wp2
    go_region_held3 (fun w' => w'.cell? ⟨w.heap.size, 1, none⟩ = some (.int .i64 x1) ∧ w'.cell? ⟨w.heap.size, 2, none⟩ = some (.int .i64 x2) ∧ w'.cell? ⟨w.heap.size, 3, none⟩ = some (.int .u64 x3)) (exact StepSt.cells (by assumption))
      (first | (go_at_call 23; refine (st_nums (by assumption) _ h11 h12 _ h3).mono ?_; rintro e w' ⟨A1, c1, rfl, hq, hA⟩) | (go_at_call 45; refine (st_rnums (by assumption) (by assumption) _ h11 h12 _ h3).mono ?_; rintro e w' ⟨B1, d1, rfl, hq, hA, hB⟩) | (go_at_call 31; refine (st_same_n (by assumption) (by assumption) (by assumption)).mono ?_; rintro e w' ⟨rfl, hq⟩))
    go_wp2
    go_ret
    exact ⟨rfl, _, _, hq.readst⟩
  · have e0 := hst.c0
    have b0 : (x0 == 0) = false := by simp; omega
    have b1 : (x0 == 1) = false := by simp; omega
    have b2 : (x0 == 2) = false := by simp; omega
    have b3 : (x0 == 3) = false := by simp; omega
    have b4 : (x0 == 4) = false := by simp; omega
    go_wp2
    go_ret
    exact ⟨rfl, _, _, hst.readst⟩
end Go.Proofs.Yticbffoclnjciaa
