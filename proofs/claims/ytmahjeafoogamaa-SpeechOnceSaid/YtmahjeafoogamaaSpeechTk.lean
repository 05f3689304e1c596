/- Messages: what a call of take does. -/
import Derived.Test.YtmahjeafoogamaaSpeechTake
import Derived.Laws.EntriesVeiled
namespace Go.Proofs.Ytmahjeafoogamaa
open Go.RowKit
set_option linter.unusedVariables false
set_option linter.unusedSimpArgs false
/-- A reader at g and a message at gm; D: the first block that is not older than both. -/
structure TkSt (D : Nat) (w : World) (ok : Nat → Prop) (g gm : Nat) (s : Ms × List UInt8 × Nat) : Prop where
  rd : IsRdAt w ok g true s.2.1 s.2.2
  row : ∃ B n d, w.heap[gm]? = some (.cells (msV s.1 B n d) 25 (0, 0)) ∧ s.1.2.2.2.2.2.length = n ∧ n ≤ d ∧ updK.C w (fun b => D ≤ b ∧ b ≠ g ∧ b ≠ gm) B s.1.2.2.2.2.2
  gm : ¬ ok gm ∧ gm ≠ g
  lt : D ≤ w.heap.size
  oks : ∀ k, ok k → k < w.heap.size
def TkC (g gm : Nat) : Nat → Prop := fun b => b = g ∨ b = gm
def Takes (D : Nat) (w : World) (ok : Nat → Prop) (g gm : Nat) (s : Ms × List UInt8 × Nat) (x : Ending) (w' : World) : Prop :=
  x = .returned (.tuple #[]) ∧ TkSt D w' ok g gm s ∧ Chg (TkC g gm) w w'
section
variable {D : Nat} {w w' : World} {ok : Nat → Prop} {g gm : Nat} {s : Ms × List UInt8 × Nat}
theorem TkSt.new (h : TkSt D w ok g gm s) (hc : Chg nob w w') : TkSt D w' ok g gm s := by
  obtain ⟨B, n, d, h1, h2, h3, h4⟩ := h.row
  exact ⟨h.rd.chg hc (fun _ _ => not_nob _), ⟨B, n, d, hc.heap h1 (not_nob _), h2, h3, Kd.C_new h4 hc⟩, h.gm, Nat.le_trans h.lt hc.size, fun k hk => Nat.lt_of_lt_of_le (h.oks k hk) hc.size⟩
theorem TkSt.call {bs : List UInt8} {e : Nat} (h : TkSt D w ok g gm s) (hr : IsRdAt w' ok g true bs e) (hc : Chg (At (some ⟨g, 0, none⟩)) w w') : TkSt D w' ok g gm (s.1, bs, e) := by
  obtain ⟨B, n, d, h1, h2, h3, h4⟩ := h.row
  exact ⟨hr, ⟨B, n, d, hc.heap h1 (fun k => h.gm.2 (at_eq k)), h2, h3, Kd.C_chg h4 hc (fun b hb k => hb.2.1 (at_eq k))⟩, h.gm, Nat.le_trans h.lt hc.size, fun k hk => Nat.lt_of_lt_of_le (h.oks k hk) hc.size⟩
theorem set6 {t : Nat} {a b c d e f : Value} (h : w.heap[g]? = some (.cells #[a, b, c, d, e, f] t (0, 0))) (x : Value) :
    (w.setCell ⟨g, 1, none⟩ x).heap[g]? = some (.cells #[a, x, c, d, e, f] t (0, 0)) ∧ (w.setCell ⟨g, 2, none⟩ x).heap[g]? = some (.cells #[a, b, x, d, e, f] t (0, 0)) ∧ (w.setCell ⟨g, 3, none⟩ x).heap[g]? = some (.cells #[a, b, c, x, e, f] t (0, 0)) ∧
      (w.setCell ⟨g, 4, none⟩ x).heap[g]? = some (.cells #[a, b, c, d, x, f] t (0, 0)) ∧ (w.setCell ⟨g, 5, none⟩ x).heap[g]? = some (.cells #[a, b, c, d, e, x] t (0, 0)) := by
  refine ⟨?_, ?_, ?_, ?_, ?_⟩ <;> simp [World.setCell, Array.getElem?_modify, h]
theorem TkSt.set (h : TkSt D w ok g gm s) (j : Nat) (v : Value) (m : Ms) (hm : m.2.2.2.2.2 = s.1.2.2.2.2.2) (hv : ∀ B n d, w.heap[gm]? = some (.cells (msV s.1 B n d) 25 (0, 0)) → (w.setCell ⟨gm, j, none⟩ v).heap[gm]? = some (.cells (msV m B n d) 25 (0, 0))) :
    TkSt D (w.setCell ⟨gm, j, none⟩ v) ok g gm (m, s.2) := by
  obtain ⟨B, n, d, h1, h2, h3, h4⟩ := h.row
  have hc : Chg (fun k => k = gm) w (w.setCell ⟨gm, j, none⟩ v) := Chg.set1 (Chg.refl _ w) j v
  exact ⟨h.rd.chg hc (fun k hk e => h.gm.1 (by rw [← show k = gm from e]; exact hk)), ⟨B, n, d, hv B n d h1, by rw [show (m, s.2).1 = m from rfl, hm]; exact h2, h3, by rw [show (m, s.2).1 = m from rfl, hm]; exact Kd.C_chg h4 hc (fun b hb e => hb.2.2 e)⟩, h.gm, Nat.le_trans h.lt hc.size, fun k hk => Nat.lt_of_lt_of_le (h.oks k hk) hc.size⟩
theorem tk_chg {w0 : World} (h0 : Chg nob w w0) (h1 : Chg (At (some ⟨g, 0, none⟩)) w0 w') (j : Nat) (v : Value) : Chg (TkC g gm) w (w'.setCell ⟨gm, j, none⟩ v) :=
  ((h0.ofNew (S := TkC g gm)).trans h1 (fun i hi => .inl (.inl (at_eq hi)))).setCell (p := ⟨gm, j, none⟩) (.inl (.inr rfl)) v
end
set_option maxHeartbeats 1000000 in
theorem s_take0 {D : Nat} {w : World} {ok : Nat → Prop} {g gm : Nat} {s : Ms × List UInt8 × Nat} (h : TkSt D w ok g gm s) :
    Calls Try.prog 32 #[.pointer (some ⟨g, 0, none⟩), .pointer (some ⟨gm, 0, none⟩), .int .i64 0] w (Takes D w ok g gm (takeF s 0)) := by
  obtain ⟨⟨kd, sq, fr, tg, rp, us⟩, bs, e⟩ := s
  have hc0 := (Chg.refl nob w).alloc (.cells #[numFn g] 75)
  have HC0 := Lib.hid hc0
  have H1 := Lib.hid (h.new hc0)
  clear h hc0
  go_enter Try.func32, Try.ntmps32
  go_wp2_with fail
  refine (s_word H1.out.rd).mono ?_
  rintro x w2 ⟨rfl, h2, hc2⟩
  obtain ⟨N2, bs2, e2, hR2⟩ : ∃ N b5 e5, rNum true bs e 4294967295 = (N, b5, e5) := ⟨_, _, _, rfl⟩
  dsimp only at h2 ⊢
  rw [hR2] at h2 ⊢
  have HR2 := Lib.hid hR2
  dsimp only at h2 ⊢
  have H2 := Lib.hid (H1.out.call h2 hc2)
  have HC2 := Lib.hid hc2
  clear h2 hc2 hR2
  obtain ⟨B, n, d, hrow, _, _, _⟩ := H2.out.row
  dsimp only at hrow
  obtain ⟨q0, q1, q2, q3, q4, q5⟩ := row6c hrow
  have hfz := froz hrow 1
  clear hrow
  have HT : Hid (takeF ((kd, sq, fr, tg, rp, us), bs, e) 0 = ((kd, (N2 : Int), fr, tg, rp, us), bs2, e2)) := by show _ = _; simp [takeF, HR2.out]
  go_wp2
  go_returns
  rw [Takes, HT.out]
  exact ⟨rfl, H2.out.set 1 _ (kd, (N2 : Int), fr, tg, rp, us) rfl (fun B n d h => (set6 h _).1), tk_chg HC0.out HC2.out 1 _⟩
set_option maxHeartbeats 1000000 in
theorem s_take1 {D : Nat} {w : World} {ok : Nat → Prop} {g gm : Nat} {s : Ms × List UInt8 × Nat} (h : TkSt D w ok g gm s) :
    Calls Try.prog 32 #[.pointer (some ⟨g, 0, none⟩), .pointer (some ⟨gm, 0, none⟩), .int .i64 1] w (Takes D w ok g gm (takeF s 1)) := by
  obtain ⟨⟨kd, sq, fr, tg, rp, us⟩, bs, e⟩ := s
  have hc0 := (Chg.refl nob w).alloc (.cells #[numFn g] 75)
  have HC0 := Lib.hid hc0
  have H1 := Lib.hid (h.new hc0)
  clear h hc0
  go_enter Try.func32, Try.ntmps32
  go_wp2_with fail
  refine (s_small H1.out.rd).mono ?_
  rintro x w2 ⟨rfl, h2, hc2⟩
  obtain ⟨N2, bs2, e2, hR2⟩ : ∃ N b5 e5, rNum true bs e 255 = (N, b5, e5) := ⟨_, _, _, rfl⟩
  dsimp only at h2 ⊢
  rw [hR2] at h2 ⊢
  have HR2 := Lib.hid hR2
  dsimp only at h2 ⊢
  have H2 := Lib.hid (H1.out.call h2 hc2)
  have HC2 := Lib.hid hc2
  clear h2 hc2 hR2
  obtain ⟨B, n, d, hrow, _, _, _⟩ := H2.out.row
  dsimp only at hrow
  obtain ⟨q0, q1, q2, q3, q4, q5⟩ := row6c hrow
  have hfz := froz hrow 2
  clear hrow
  have HT : Hid (takeF ((kd, sq, fr, tg, rp, us), bs, e) 1 = ((kd, sq, (N2 : Int), tg, rp, us), bs2, e2)) := by show _ = _; simp [takeF, HR2.out]
  go_wp2
  go_returns
  rw [Takes, HT.out]
  exact ⟨rfl, H2.out.set 2 _ (kd, sq, (N2 : Int), tg, rp, us) rfl (fun B n d h => (set6 h _).2.1), tk_chg HC0.out HC2.out 2 _⟩
set_option maxHeartbeats 1000000 in
theorem s_take2 {D : Nat} {w : World} {ok : Nat → Prop} {g gm : Nat} {s : Ms × List UInt8 × Nat} (h : TkSt D w ok g gm s) :
    Calls Try.prog 32 #[.pointer (some ⟨g, 0, none⟩), .pointer (some ⟨gm, 0, none⟩), .int .i64 2] w (Takes D w ok g gm (takeF s 2)) := by
  obtain ⟨⟨kd, sq, fr, tg, rp, us⟩, bs, e⟩ := s
  have hc0 := (Chg.refl nob w).alloc (.cells #[numFn g] 75)
  have HC0 := Lib.hid hc0
  have H1 := Lib.hid (h.new hc0)
  clear h hc0
  go_enter Try.func32, Try.ntmps32
  go_wp2_with fail
  refine (s_small H1.out.rd).mono ?_
  rintro x w2 ⟨rfl, h2, hc2⟩
  obtain ⟨N2, bs2, e2, hR2⟩ : ∃ N b5 e5, rNum true bs e 255 = (N, b5, e5) := ⟨_, _, _, rfl⟩
  dsimp only at h2 ⊢
  rw [hR2] at h2 ⊢
  have HR2 := Lib.hid hR2
  dsimp only at h2 ⊢
  have H2 := Lib.hid (H1.out.call h2 hc2)
  have HC2 := Lib.hid hc2
  clear h2 hc2 hR2
  obtain ⟨B, n, d, hrow, _, _, _⟩ := H2.out.row
  dsimp only at hrow
  obtain ⟨q0, q1, q2, q3, q4, q5⟩ := row6c hrow
  have hfz := froz hrow 3
  clear hrow
  have HT : Hid (takeF ((kd, sq, fr, tg, rp, us), bs, e) 2 = ((kd, sq, fr, (N2 : Int), rp, us), bs2, e2)) := by show _ = _; simp [takeF, HR2.out]
  go_wp2
  go_returns
  rw [Takes, HT.out]
  exact ⟨rfl, H2.out.set 3 _ (kd, sq, fr, (N2 : Int), rp, us) rfl (fun B n d h => (set6 h _).2.2.1), tk_chg HC0.out HC2.out 3 _⟩
set_option maxHeartbeats 1000000 in
theorem s_take3 {D : Nat} {w : World} {ok : Nat → Prop} {g gm : Nat} {s : Ms × List UInt8 × Nat} (h : TkSt D w ok g gm s) :
    Calls Try.prog 32 #[.pointer (some ⟨g, 0, none⟩), .pointer (some ⟨gm, 0, none⟩), .int .i64 3] w (Takes D w ok g gm (takeF s 3)) := by
  obtain ⟨⟨kd, sq, fr, tg, rp, us⟩, bs, e⟩ := s
  have hc0 := (Chg.refl nob w).alloc (.cells #[numFn g] 75)
  have HC0 := Lib.hid hc0
  have H1 := Lib.hid (h.new hc0)
  clear h hc0
  go_enter Try.func32, Try.ntmps32
  go_wp2_with fail
  refine (rd_flag (.inl ⟨g, rfl, H1.out.rd⟩)).mono ?_
  rintro x w2 ⟨rfl, h2, hc2⟩
  obtain ⟨N2, bs2, e2, hR2⟩ : ∃ N b5 e5, rFlag true bs e = (N, b5, e5) := ⟨_, _, _, rfl⟩
  dsimp only at h2 ⊢
  rw [hR2] at h2 ⊢
  have HR2 := Lib.hid hR2
  dsimp only at h2 ⊢
  have H2 := Lib.hid (H1.out.call (rd_atI h2) hc2)
  have HC2 := Lib.hid hc2
  clear h2 hc2 hR2
  obtain ⟨B, n, d, hrow, _, _, _⟩ := H2.out.row
  dsimp only at hrow
  obtain ⟨q0, q1, q2, q3, q4, q5⟩ := row6c hrow
  have hfz := froz hrow 4
  clear hrow
  have HT : Hid (takeF ((kd, sq, fr, tg, rp, us), bs, e) 3 = ((kd, sq, fr, tg, N2, us), bs2, e2)) := by show _ = _; simp [takeF, HR2.out]
  go_wp2
  go_returns
  rw [Takes, HT.out]
  exact ⟨rfl, H2.out.set 4 _ (kd, sq, fr, tg, N2, us) rfl (fun B n d h => (set6 h _).2.2.2.1), tk_chg HC0.out HC2.out 4 _⟩
set_option maxHeartbeats 1000000 in
theorem s_take4 {D : Nat} {w : World} {ok : Nat → Prop} {g gm : Nat} {s : Ms × List UInt8 × Nat} (h : TkSt D w ok g gm s) :
    Calls Try.prog 32 #[.pointer (some ⟨g, 0, none⟩), .pointer (some ⟨gm, 0, none⟩), .int .i64 4] w (Takes D w ok g gm (takeF s 4)) := by
  obtain ⟨⟨kd, sq, fr, tg, rp, us⟩, bs, e⟩ := s
  have hc0 := (Chg.refl nob w).alloc (.cells #[numFn g] 75)
  have HC0 := Lib.hid hc0
  have hg := h.rd.lt
  obtain ⟨_, _, _, hrow, _⟩ := h.row
  have hgm := heap_lt hrow
  have H1 := Lib.hid (h.new hc0)
  have hb0 : (w.alloc (.cells #[numFn g] 75)).cell? ⟨w.heap.size, 0, none⟩ = some (numFn g) := by rw [cell_of_row _ _ 0 _ _ _ (heap_alloc_new w _)]; rfl
  have hs0 : (w.alloc (.cells #[numFn g] 75)).heap.size = w.heap.size + 1 := by simp
  have HS0 := Lib.hid hs0
  clear h hc0 hrow hs0
  go_enter Try.func32, Try.ntmps32
  go_wp2_with fail
  refine (s_items H1.out.rd hb0 (by omega) H1.out.oks).mono ?_
  rintro x w2 ⟨A, c, rfl, hl, hC, h2, hc2⟩
  obtain ⟨us2, bs2, e2, hR2⟩ : ∃ N b5 e5, rUps bs e = (N, b5, e5) := ⟨_, _, _, rfl⟩
  dsimp only at h2 hl hC ⊢
  rw [hR2] at h2 hl hC ⊢
  have HR2 := Lib.hid hR2
  dsimp only at h2 hl hC ⊢
  obtain ⟨n2, hn2⟩ : ∃ q, us2.length = q := ⟨_, rfl⟩
  rw [hn2] at hl ⊢
  have HN2 := Lib.hid hn2
  have H2 := Lib.hid (H1.out.call h2 hc2)
  have HC2 := Lib.hid hc2
  have HU := Lib.hid hC
  clear h2 hc2 hR2 hC hn2
  obtain ⟨B, n, d, hrow, _, _, _⟩ := H2.out.row
  dsimp only at hrow
  obtain ⟨q0, q1, q2, q3, q4, q5⟩ := row6c hrow
  have hfz := froz hrow 5
  have HROW := Lib.hid hrow
  clear hrow
  have HT : Hid (takeF ((kd, sq, fr, tg, rp, us), bs, e) 4 = ((kd, sq, fr, tg, rp, us2), bs2, e2)) := by show _ = _; simp [takeF, HR2.out]
  go_wp2
  go_returns
  rw [Takes, HT.out]
  have hc : Chg (fun k => k = gm) w2 (w2.setCell ⟨gm, 5, none⟩ (.slice A n2 c)) := Chg.set1 (Chg.refl _ w2) 5 _
  have hs := HS0.out
  have hD := H1.out.lt
  refine ⟨rfl, ⟨H2.out.rd.chg hc (fun k hk e => H2.out.gm.1 (by rw [← show k = gm from e]; exact hk)), ⟨A, n2, c, (set6 HROW.out _).2.2.2.2, HN2.out, hl, ?_⟩, H2.out.gm, Nat.le_trans H2.out.lt hc.size, fun k hk => Nat.lt_of_lt_of_le (H2.out.oks k hk) hc.size⟩, tk_chg HC0.out HC2.out 5 _⟩
  exact Kd.C_mono (Kd.C_chg HU.out hc (fun b hb e => by have : b = gm := e; omega)) (fun b hb => ⟨by omega, by omega, by omega⟩)
theorem s_take {D : Nat} {w : World} {ok : Nat → Prop} {g gm : Nat} {s : Ms × List UInt8 × Nat} (h : TkSt D w ok g gm s) {f : Int} (hf : f = 0 ∨ f = 1 ∨ f = 2 ∨ f = 3 ∨ f = 4) :
    Calls Try.prog 32 #[.pointer (some ⟨g, 0, none⟩), .pointer (some ⟨gm, 0, none⟩), .int .i64 f] w (Takes D w ok g gm (takeF s f)) := by
  rcases hf with rfl | rfl | rfl | rfl | rfl
  · exact s_take0 h
  · exact s_take1 h
  · exact s_take2 h
  · exact s_take3 h
  · exact s_take4 h
end Go.Proofs.Ytmahjeafoogamaa
