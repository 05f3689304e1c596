/- Messages: what a call of Put tells. -/
import Derived.Test.YtmahjeafoogamaaSpeechLayUs
import Derived.Outline
namespace Go.Proofs.Ytmahjeafoogamaa
open Go.RowKit
set_option linter.unusedVariables false
set_option linter.unusedSimpArgs false
theorem row2s {w : World} {g t : Nat} {a b : Value} (h : w.heap[g]? = some (.cells #[a, b] t (0, 0))) : w.cell? ⟨g, 0, none⟩ = some a ∧ w.cell? ⟨g, 1, none⟩ = some b :=
  ⟨by rw [cell_of_row w g 0 _ _ _ h]; rfl, by rw [cell_of_row w g 1 _ _ _ h]; rfl⟩
theorem set2s {w : World} {g t : Nat} {a b : Value} (x y : Value) (h : w.heap[g]? = some (.cells #[a, b] t (0, 0))) :
    ((w.setCell ⟨g, 0, none⟩ x).setCell ⟨g, 1, none⟩ y).heap[g]? = some (.cells #[x, y] t (0, 0)) ∧ Chg (fun k => k = g) w ((w.setCell ⟨g, 0, none⟩ x).setCell ⟨g, 1, none⟩ y) :=
  ⟨by simp [World.setCell, Array.getElem?_modify, h], Chg.set1 (Chg.set1 (Chg.refl _ w) 0 x) 1 y⟩
/-- The bytes of some fields. -/
def layL (m : Ms) (L : List Int) : List UInt8 := L.flatMap (fieldB m)
theorem layL_snoc (m : Ms) (L : List Int) (f : Int) : layL m (L ++ [f]) = layL m L ++ fieldB m f := by simp [layL]
/-- A message's body. -/
def bodyL (m : Ms) : List UInt8 := layL m (fieldsL m.1)
/-- Numbers of 32 bits. -/
def wfM (m : Ms) : Prop := (0 ≤ m.2.1 ∧ m.2.1 < 4294967296) ∧ ∀ u ∈ m.2.2.2.2.2, 0 ≤ u.2.1 ∧ u.2.1 < 4294967296
theorem rightM_parts {m : Ms} (h : rightM m = true) : (1 ≤ m.1 ∧ m.1 ≤ 6) ∧ (0 ≤ m.2.2.1 ∧ m.2.2.1 < 8) ∧ (0 ≤ m.2.2.2.1 ∧ m.2.2.2.1 < 8) ∧ m.2.2.2.2.2.length ≤ 16 ∧ ∀ u ∈ m.2.2.2.2.2, rightU u = true := by
  unfold rightM nodeB at h
  simp only [Bool.and_eq_true, decide_eq_true_eq, List.all_eq_true] at h
  exact ⟨h.1.1.1.1.1.1.1.1, h.1.1.1.1.1.1.1.2, h.1.1.1.1.1.1.2, h.1.1.1.1.1.2, h.2⟩
theorem inM_of {m : Ms} (h : rightM m = true) (hw : wfM m) : inM m := by
  obtain ⟨_, h2, h3, h4, h5⟩ := rightM_parts h
  refine ⟨hw.1, h2, h3, h4, fun u hu => ?_⟩
  have := of_decide_eq_true (h5 u hu)
  exact ⟨⟨this.1, this.2.1⟩, hw.2 u hu, this.2.2⟩
theorem fieldB_len {m : Ms} (h : inM m) (f : Int) : (fieldB m f).length ≤ 450 := by
  obtain ⟨⟨a0, a1⟩, ⟨b0, b1⟩, ⟨c0, c1⟩, h16, hu⟩ := h
  unfold fieldB
  have g1 := numB_len (n := m.2.1.toNat) (by omega)
  have g2 := numB_len (n := m.2.2.1.toNat) (by omega)
  have g3 := numB_len (n := m.2.2.2.1.toNat) (by omega)
  have g4 := numB_len (n := m.2.2.2.2.2.length) (by omega)
  have g6 : (numB (if m.2.2.2.2.1 then 1 else 0)).length ≤ 9 := numB_len (by split <;> omega)
  have g5 : ∀ l : List Upd, (∀ u ∈ l, (0 ≤ u.1 ∧ u.1 < 8) ∧ (0 ≤ u.2.1 ∧ u.2.1 < 4294967296) ∧ (0 ≤ u.2.2 ∧ u.2.2 ≤ 3)) → (updsB l).length ≤ 27 * l.length := by
    intro l
    induction l with
    | nil => intro _; simp [updsB]
    | cons u l ih =>
      intro hl
      have e1 := updB_len (hl u List.mem_cons_self)
      have e2 := ih (fun v hv => hl v (List.mem_cons_of_mem _ hv))
      rw [show updsB (u :: l) = updB u ++ updsB l from rfl, List.length_append, List.length_cons]
      omega
  have g7 := g5 _ hu
  split
  · omega
  split
  · omega
  split
  · omega
  split
  · omega
  · rw [List.length_append]; omega
theorem fieldsL_mem {k f : Int} (h : f ∈ fieldsL k) : f = 0 ∨ f = 1 ∨ f = 2 ∨ f = 3 ∨ f = 4 := by
  unfold fieldsL at h
  split at h
  · simp at h; omega
  split at h
  · simp at h; omega
  split at h
  · simp at h; omega
  split at h
  · simp at h; omega
  · simp at h
theorem fieldsL_len (k : Int) : (fieldsL k).length ≤ 3 := by
  unfold fieldsL
  split
  · decide
  split
  · decide
  split
  · decide
  split
  · decide
  · decide
theorem s_lay {w : World} {m : Ms} {ok okb : Nat → Prop} {B A : Option Addr} {n d mb cb : Nat} {bs : List UInt8} {f : Int} (hb : updK.C w ok B m.2.2.2.2.2) (hn : m.2.2.2.2.2.length = n) (hA : Kd.byte.C w okb A bs) (hm : bs.length = mb) (hmb : mb ≤ 1000000) (hin : inM m) (hf : f = 0 ∨ f = 1 ∨ f = 2 ∨ f = 3 ∨ f = 4) :
    Calls Try.prog 24 #[.slice A mb cb, .agg (msV m B n d), .int .i64 f] w (Laid w (bs ++ fieldB m f)) := by
  by_cases h4 : f = 4
  · subst h4; exact s_lay_us hb hn hA hm hmb hin
  · exact s_lay_num hb hA hm hmb hin (by omega)
/-- What Put tells. -/
def SPut (w : World) (m : Ms) (e : Ending) (w' : World) : Prop :=
  Chg nob w w' ∧ ((rightM m = false ∧ e = .returned (.tuple #[.agg #[.int .u8 0, .slice none 0 0], .int .i64 2])) ∨
    (rightM m = true ∧ ∃ A n c, e = .returned (.tuple #[.agg #[.int .u8 m.1, .slice A n c], .int .i64 0]) ∧ (bodyL m).length = n ∧ n ≤ c ∧ Kd.byte.C w' (fun b => w.heap.size ≤ b) A (bodyL m)))
set_option maxRecDepth 100000 in
set_option maxHeartbeats 1000000 in
theorem s_put {w : World} {m : Ms} {ok : Nat → Prop} {B : Option Addr} {n d : Nat} (hb : updK.C w ok B m.2.2.2.2.2) (hn : m.2.2.2.2.2.length = n) (hw : wfM m) :
    Calls Try.prog 9 #[.agg (msV m B n d)] w (SPut w m) := by
  have hst := ms_start (n := n) (d := d) hb
  obtain ⟨kd, sq, fr, tg, rp, us⟩ := m
  have hcr := (Chg.refl nob (w.alloc (.cells (msV (kd, sq, fr, tg, rp, us) B n d) 25))).alloc (.cells #[.int .u8 0, .slice none 0 0] 28)
  have hres := heap_alloc_new (w.alloc (.cells (msV (kd, sq, fr, tg, rp, us) B n d) 25)) (.cells #[.int .u8 0, .slice none 0 0] 28)
  rw [show (w.alloc (.cells (msV (kd, sq, fr, tg, rp, us) B n d) 25)).heap.size = w.heap.size + 1 from by simp] at hres
  have HST := Lib.hid (hst.new hcr)
  have HRES := Lib.hid hres
  have HN := Lib.hid hn
  have HW := Lib.hid hw
  obtain ⟨q0, q1, q2, q3, q4, q5⟩ := row6c (hst.new hcr).row
  clear hst hb hn hw hcr hres
  go_enter Try.func9, Try.ntmps9
  go_wp2_with fail
  refine (s_right (m := (kd, sq, fr, tg, rp, us)) HST.out.us HN.out).mono ?_
  rintro e w2 ⟨rfl, hc2⟩
  have HS2 := Lib.hid (HST.out.new hc2)
  have HR2 := Lib.hid (hc2.heap HRES.out (not_nob _))
  obtain ⟨b, hR⟩ : ∃ b, rightM (kd, sq, fr, tg, rp, us) = b := ⟨_, rfl⟩
  rw [hR]
  have HRB := Lib.hid hR
  clear hc2 hR q0 q1 q2 q3 q4 q5 HST HRES
  obtain ⟨q0, q1, q2, q3, q4, q5⟩ := row6c HS2.out.row
  obtain ⟨r0, r1⟩ := row2s HR2.out
  have f0 : ∀ j, w2.frozen? ⟨w.heap.size + 1, j, none⟩ = false := fun j => by simp [World.frozen?, HR2.out]
  cases b
  · go_wp2
    obtain ⟨hrow, hch⟩ := set2s (.int .u8 0) (.slice none 0 0) HR2.out
    have hfin := (HS2.out.chg.ofNew (S := fun k => w.heap.size ≤ k)).trans hch (fun i hi => .inl (by show _ ≤ _; omega)) |>.mono (T := nob) (fun i hi => .inr hi)
    generalize (World.setCell (World.setCell w2 _ _) _ _) = w9 at hrow hfin ⊢
    obtain ⟨z0, z1⟩ := row2s hrow
    refine bodyPost_ret (by simp [results, Try.results9, go_sem, z0, z1]; rfl) rfl ?_
    exact ⟨hfin, .inl ⟨HRB.out, rfl⟩⟩
  · have HIN := Lib.hid (inM_of HRB.out HW.out)
    clear f0
    go_wp2_with fail
    refine (s_fields kd).mono ?_
    rintro e w3 ⟨hc3, A, nf, rfl, hnf, _, hC⟩
    have HS3 := Lib.hid (HS2.out.new hc3)
    have HR3 := Lib.hid (hc3.heap HR2.out (not_nob _))
    have HNF := Lib.hid hnf
    have HCF := Lib.hid hC
    have hnf3 : nf ≤ 3 := by rw [← hnf]; exact fieldsL_len kd
    have HL0 : Hid (Laid w3 (layL (kd, sq, fr, tg, rp, us) ((fieldsL kd).take 0)) (.returned (.slice none 0 0)) w3) := ⟨_, rfl, Kd.R_nil _ _ _ _ _, Chg.refl _ _⟩
    have HSZ : Hid (w.heap.size + 2 ≤ w3.heap.size) := by
      have h1 : w.heap.size + 1 < w2.heap.size := (Array.getElem?_eq_some_iff.1 HR2.out).1
      have h2 := hc3.size
      show _ ≤ _
      omega
    clear hc3 hnf hC q0 q1 q2 q3 q4 q5 r0 r1
    obtain ⟨q0, q1, q2, q3, q4, q5⟩ := row6c HS3.out.row
    go_wp2
    go_loopw [4, 15] (fun vb i wr => ∃ (j Z : Nat) (Y : Option Addr) (y : Nat), j ≤ nf ∧ vb = .slice Y Z y ∧ i = .int .i64 j ∧ Z ≤ 450 * j ∧ Hid (Laid w3 (layL (kd, sq, fr, tg, rp, us) ((fieldsL kd).take j)) (.returned (.slice Y Z y)) wr) ∧ Hid (MsSt w w.heap.size (kd, sq, fr, tg, rp, us) ok B n d wr) ∧ Hid (wr.heap[w.heap.size + 1]? = some (.cells #[.int .u8 0, .slice none 0 0] 28 (0, 0))) ∧ Hid (Chg nob w3 wr)) (fun _ i _ => nf - (intOf i).toNat)
    case atStart => exact ⟨0, 0, none, 0, Nat.zero_le _, rfl, rfl, by omega, HL0, HS3, HR3, Chg.refl _ _⟩
    case round =>
      obtain ⟨j, Z, Y, y, hj1, rfl, rfl, hZ, HL, HS, HR, HCX⟩ := hrel
      clear q0 q1 q2 q3 q4 q5 HL0 HS3 HR3
      obtain ⟨q0, q1, q2, q3, q4, q5⟩ := row6c HS.out.row
      by_cases hlt : j < nf
      · have b1 : (j : Int) < (nf : Int) := by omega
        have b3 : (0 : Int) ≤ (j : Int) := by omega
        obtain ⟨f, hf⟩ : ∃ f, (fieldsL kd)[j]? = some f := ⟨_, List.getElem?_eq_getElem (by rw [HNF.out]; exact hlt)⟩
        obtain ⟨ad, rfl, _, hcell⟩ := at_scalar (Kd.C_new HCF.out HCX.out) hf
        have hcell' : wr.cell? (ad.add j) = some (.int .i64 f) := hcell
        have HTK : Hid ((fieldsL kd).take (j + 1) = (fieldsL kd).take j ++ [f]) := by
          obtain ⟨hj, he⟩ := List.getElem?_eq_some_iff.1 hf
          show _ = _
          rw [List.take_succ_eq_append_getElem hj, he]
        have HFM := Lib.hid (fieldsL_mem (List.mem_of_getElem? hf))
        clear hf hcell
        go_wp2_with fail
        refine (s_lay (m := (kd, sq, fr, tg, rp, us)) HS.out.us HN.out (laid_C HL.out).1 (laid_C HL.out).2.1 (by omega) HIN.out HFM.out).mono ?_
        intro e w5 hL5
        obtain ⟨Y5, y5, rfl, hL5'⟩ := laid_slice hL5
        have hc5 := (laid_C hL5').2.2.2.2
        have HS5 := Lib.hid (HS.out.new hc5)
        have HR5 := Lib.hid (hc5.heap HR.out (not_nob _))
        have HC5 := Lib.hid (HCX.out.thenNew hc5)
        obtain ⟨Z5, hZ5⟩ : ∃ Z5, (layL (kd, sq, fr, tg, rp, us) ((fieldsL kd).take j) ++ fieldB (kd, sq, fr, tg, rp, us) f).length = Z5 := ⟨_, rfl⟩
        have hZ5' : Z5 ≤ 450 * (j + 1) := by
          have := fieldB_len HIN.out f
          rw [← hZ5, List.length_append, (laid_C HL.out).2.1]
          omega
        rw [hZ5] at hL5' ⊢
        have HL5 : Hid (Laid w3 (layL (kd, sq, fr, tg, rp, us) ((fieldsL kd).take (j + 1))) (.returned (.slice Y5 Z5 y5)) w5) := by
          show Laid _ _ _ _
          rw [HTK.out, layL_snoc]
          exact laid_up hL5' HCX.out
        clear hL5 hL5' hZ5 hc5 q0 q1 q2 q3 q4 q5 hcell'
        go_wp2
        exact ⟨⟨j + 1, Z5, Y5, y5, by omega, rfl, by go_num, hZ5', HL5, HS5, HR5, HC5⟩, by simp [intOf]; omega⟩
      · obtain rfl : j = nf := by omega
        have b1 : ¬ (j : Int) < (j : Int) := by omega
        have HB : Hid (Laid w3 (bodyL (kd, sq, fr, tg, rp, us)) (.returned (.slice Y Z y)) wr) := by
          show Laid _ _ _ _
          have := HL.out
          rw [show (fieldsL kd).take j = fieldsL kd from by rw [← HNF.out, List.take_length]] at this
          exact this
        obtain ⟨⟨k1, k6⟩, _⟩ := rightM_parts HRB.out
        have wk : IntKind.u8.wrap kd = kd := Int.emod_eq_of_lt (by omega) (by show kd < 256; omega)
        obtain ⟨r0, r1⟩ := row2s HR.out
        have f0 : ∀ j, wr.frozen? ⟨w.heap.size + 1, j, none⟩ = false := fun j => by simp [World.frozen?, HR.out]
        have f1 := f0 0
        have f2 := f0 1
        clear f0 HL
        go_wp2
        obtain ⟨g1, g2, g3, g4, g5⟩ := laid_C HB.out
        obtain ⟨hrow, hch⟩ := set2s (.int .u8 kd) (.slice Y Z y) HR.out
        have hfin := (HS.out.chg.ofNew (S := fun k => w.heap.size ≤ k)).trans hch (fun i hi => .inl (by show _ ≤ _; omega)) |>.mono (T := nob) (fun i hi => .inr hi)
        have hbody : Kd.byte.C ((wr.setCell ⟨w.heap.size + 1, 0, none⟩ (.int .u8 kd)).setCell ⟨w.heap.size + 1, 1, none⟩ (.slice Y Z y)) (fun b => w.heap.size ≤ b) Y (bodyL (kd, sq, fr, tg, rp, us)) := Kd.C_mono (Kd.C_chg g1 hch (fun b hb hk => by have := HSZ.out; omega)) (fun b hb => by have := HSZ.out; show _ ≤ _; omega)
        generalize (World.setCell (World.setCell wr _ _) _ _) = w9 at hrow hfin hbody ⊢
        obtain ⟨z0, z1⟩ := row2s hrow
        refine bodyPost_ret (by simp [results, Try.results9, go_sem, z0, z1]; rfl) rfl ?_
        exact ⟨hfin, .inr ⟨HRB.out, Y, Z, y, rfl, g2, g3, hbody⟩⟩
end Go.Proofs.Ytmahjeafoogamaa
