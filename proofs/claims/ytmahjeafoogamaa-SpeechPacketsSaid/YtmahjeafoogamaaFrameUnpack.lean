/- Frames: Unpack. -/
import Derived.Test.YtmahjeafoogamaaFrameIter
import Derived.Outline
namespace Go.Proofs.Ytmahjeafoogamaa
open Go.RowKit
set_option linter.unusedVariables false
set_option linter.unusedSimpArgs false
attribute [local go_sem] Oper.semAt_some
/-- Why a packet is none; 0: it is one. -/
def unpE (bs : List UInt8) : Nat := if bs.length < 1 ∨ 1400 < bs.length then 5 else if (allR bs).2.2 ≠ 0 then (allR bs).2.2 else if 32 < (allR bs).1.length then 5 else 0
/-- What Unpack tells. -/
def Unps (ok : World → World → Nat → Prop) (w : World) (bs : List UInt8) (e : Ending) (w' : World) : Prop :=
  Chg nob w w' ∧ ((unpE bs ≠ 0 ∧ e = .returned (.tuple #[.slice none 0 0, .int .i64 (unpE bs)])) ∨
    (unpE bs = 0 ∧ ∃ L n c, e = .returned (.tuple #[.slice L n c, .int .i64 0]) ∧ (allR bs).1.length = n ∧ n ≤ c ∧ frK.C w' (ok w w') L (allR bs).1))
/-- Between two rounds: l's place bl; the iterator's bytes' place bx. -/
structure UnSt (w0 : World) (D bl bx : Nat) (okb : Nat → Prop) (A : Option Addr) (m c : Nat) (bs : List UInt8) (k : Nat) (W : World) : Prop where
  kept : keptB bx okb A m c bs W
  rows : ∃ L cl ok', W.heap[bl]? = some (.cells #[.slice L k cl] 42 (0, 0)) ∧ frK.R 28 W w0.heap.size ok' (.slice L k cl) ((allR bs).1.take k) ∧ (∀ b, ok' b → b < W.heap.size ∧ D + 2 ≤ b)
  chg : Chg nob w0 W
theorem UnSt.turn {S : Nat → Prop} {w0 : World} {D bl bx : Nat} {okb : Nat → Prop} {A : Option Addr} {m c : Nat} {bs : List UInt8} {k : Nat} {W W' : World} (h : UnSt w0 D bl bx okb A m c bs k W) (hc : Chg S W W')
    (h0 : ∀ b, S b → w0.heap.size ≤ b ∧ b ≠ bl ∧ b ≠ bx ∧ ¬ okb b ∧ b < D + 2) : UnSt w0 D bl bx okb A m c bs k W' := by
  obtain ⟨L, cl, ok', h1, h2, h3⟩ := h.rows
  refine ⟨⟨hc.cell h.kept.1 (fun hs => (h0 _ hs).2.2.1 rfl), Kd.C_chg h.kept.2 hc (fun b hb hs => (h0 _ hs).2.2.2.1 hb)⟩, ⟨L, cl, ok', hc.heap h1 (fun hs => (h0 _ hs).2.1 rfl), Kd.R_chg h2 hc (fun b hb hs => by have := (h0 _ hs).2.2.2.2; have := (h3 b hb).2; omega), fun b hb => ⟨Nat.lt_of_lt_of_le (h3 b hb).1 hc.size, (h3 b hb).2⟩⟩, (h.chg.ofNew (S := S)).trans hc (fun i hi => .inl hi) |>.mono (fun i hi => .inr (h0 i hi).1)⟩
theorem book_lt {D b : Nat} (h : bookB D b) : D ≤ b ∧ b < D + 2 := by rcases h with rfl | rfl <;> omega
set_option maxHeartbeats 600000 in
theorem f_unpack {w : World} {ok : Nat → Prop} {A : Option Addr} {m c : Nat} {bs : List UInt8} (hb : Kd.byte.C w ok A bs) (hm : bs.length = m) (hmc : m ≤ c) :
    Calls Try.prog 40 #[.slice A m c] w (Unps (fun _ w' b => b < w'.heap.size) w bs) := by
  have hsm := hb.small
  rw [hm] at hsm
  have HB := Lib.hid hb
  have HM := Lib.hid hm
  clear hb hm
  by_cases h0 : m = 0
  · have HE : Hid (unpE bs = 5) := if_pos (.inl (by rw [HM.out]; omega))
    subst h0
    refine calls_of_wp_marks Try.func40 rfl ?_
    simp only [Try.ntmps40, List.size_toArray, List.length_cons, List.length_nil, Nat.reduceAdd, Nat.reduceSub, Array.replicate_succ, Array.replicate_zero, List.push_toArray, List.append_toArray, List.nil_append, List.cons_append]
    go_wp2
    refine marks_ret ?_
    go_ret2
    rw [Unps, HE.out]
    exact ⟨Chg.refl _ _, .inl ⟨by decide, rfl⟩⟩
  have hm0 : ((m : Int) == 0) = false := by simp; omega
  by_cases h1 : 1400 < m
  · have HE : Hid (unpE bs = 5) := if_pos (.inr (by rw [HM.out]; omega))
    have b1 : (1400 : Int) < (m : Int) := by omega
    refine calls_of_wp_marks Try.func40 rfl ?_
    simp only [Try.ntmps40, List.size_toArray, List.length_cons, List.length_nil, Nat.reduceAdd, Nat.reduceSub, Array.replicate_succ, Array.replicate_zero, List.push_toArray, List.append_toArray, List.nil_append, List.cons_append]
    go_wp2
    refine marks_ret ?_
    go_ret2
    rw [Unps, HE.out]
    exact ⟨Chg.refl _ _, .inl ⟨by decide, rfl⟩⟩
  have b1 : ¬ (1400 : Int) < (m : Int) := by omega
  have HU : Hid (unpE bs = if (allR bs).2.2 ≠ 0 then (allR bs).2.2 else if 32 < (allR bs).1.length then 5 else 0) := if_neg (by rw [HM.out]; omega)
  refine calls_of_wp_marks Try.func40 rfl ?_
  simp only [Try.ntmps40, List.size_toArray, List.length_cons, List.length_nil, Nat.reduceAdd, Nat.reduceSub, Array.replicate_succ, Array.replicate_zero, List.push_toArray, List.append_toArray, List.nil_append, List.cons_append]
  go_wp2_with fail
  refine (f_end HB.out HM.out hmc).mono ?_
  rintro e w2 ⟨rfl, hc2⟩
  obtain ⟨E, hE⟩ : ∃ E, (allR bs).2.2 = E := ⟨_, rfl⟩
  rw [hE] at HU ⊢
  by_cases he : E = 0
  · subst he
    have HE := Lib.hid hE
    have HC2 := Lib.hid hc2
    have HC3 := Lib.hid ((Chg.refl nob w2).alloc (.cells #[.slice none 0 0] 42))
    have HB3 := Lib.hid (Kd.C_new HB.out (hc2.thenNew HC3.out))
    have HBL := Lib.hid (heap_alloc_new w2 (.cells #[.slice none 0 0] 42))
    clear hE hc2
    go_wp2_with fail
    refine (f_each HB3.out HM.out hmc (by omega)).mono ?_
    rintro e w4 ⟨bx, A2, c2, rfl, hc4, hmc2, hbx1, hbx2, hk4⟩
    obtain ⟨okb, hokb, hk4'⟩ : ∃ okb : Nat → Prop, (∀ b, okb b → w2.heap.size + 1 ≤ b ∧ b < w4.heap.size) ∧ keptB bx okb A2 m c2 bs w4 := ⟨_, fun b hb => ⟨by have := hb.1; simp at this; omega, hb.2⟩, hk4⟩
    have HOKB := Lib.hid hokb
    have HK4 := Lib.hid hk4'
    have HC4 := Lib.hid hc4
    have hs3 : (w2.alloc (.cells #[.slice none 0 0] 42)).heap.size = w2.heap.size + 1 := by simp
    rw [hs3] at hbx1
    have HS3 := Lib.hid hs3
    clear hk4 hc4 hs3 hk4' hokb
    go_wp2
    have HBK : Hid (∀ b, bookB w4.heap.size b → w.heap.size ≤ b ∧ b ≠ w2.heap.size ∧ b ≠ bx ∧ ¬ okb b ∧ b < w4.heap.size + 2) := fun b hb => by
      have h1 := book_lt hb
      have h2 := HC2.out.size
      exact ⟨by omega, by omega, by omega, fun h => by have := HOKB.out b h; omega, h1.2⟩
    have HALL : Hid (7 * (allR bs).1.length ≤ m) := by
      obtain ⟨_, h1, _, _⟩ := allR_back bs.length bs (Nat.le_refl _)
      have h2 := packB_ge (allR bs).1
      rw [← h1, List.length_take, HM.out] at h2
      exact Nat.le_trans h2 (Nat.min_le_right _ _)
    refine wp_range (gf := 67) (lb := #[.pointer (some ⟨bx, 0, none⟩)]) rfl (enters_of Try.func67 (by kernel_rfl) rfl) (f_iter (bx := bx) (ok := okb) (A := A2) (m := m) (c := c2) (bs := bs) HM.out hmc2 (by omega)) ?_
      (UnSt w w4.heap.size w2.heap.size bx okb A2 m c2 bs) (fun _ _ _ => False) ?_ (fun _ _ _ _ h _ => h) (fun k X h => h.kept) ?_ ?_ ?_ (fun _ _ _ _ h _ => h.elim)
    · rintro B k args W ⟨l, r, f, A3, T, c3, _, _, _, _, rfl, _⟩
      rfl
    · intro k X Y h hc
      exact h.turn hc HBK.out
    · intro B hc hs
      have hc0 := (HC4.out.thenNew hc)
      refine ⟨⟨hc.cell HK4.out.1 (not_nob _), Kd.C_new HK4.out.2 hc⟩, ⟨none, 0, fun _ => False, (HC4.out.thenNew hc).heap HBL.out (not_nob _), Kd.R_nil _ _ _ _ _, fun _ h => h.elim⟩, (HC2.out.thenNew HC3.out).thenNew hc0⟩
    · intro k args X0 X hk hI0 hs0 hcX hI hMM
      obtain ⟨l, r, f, A3, T, c3, g1, g2, g3, g4, rfl, g6⟩ := hMM
      have HX0 := Lib.hid hI0
      have HCX := Lib.hid hcX
      have HA3 := Lib.hid g6
      have HG1 := Lib.hid g1
      have HG2 := Lib.hid g2
      clear hI0 hcX hI g6 g1 g2
      gi_wp2
      refine ⟨HoldB.chg ((Chg.refl nob X).alloc _) (by have := HCX.out.size; omega) (fun b hb => (not_nob b hb).elim), ?_⟩
      intro B hcB hsB
      have hs1 : B.heap.size = X.heap.size + 1 := by rw [hsB]; simp
      have hcF := (Chg.refl nob X).alloc (.cells #[.int .u8 f.1.toNat, .slice A3 T c3] 28)
      have hc1 : Chg (bookB w4.heap.size) X0 B := ((HCX.out.thenNew hcF).ofNew (S := bookB w4.heap.size)).trans hcB (fun i hi => .inl hi)
      have HS := Lib.hid (HX0.out.turn hc1 HBK.out)
      have HF2 : Hid (Kd.byte.C B (fun b => X0.heap.size ≤ b) A3 f.2) := Kd.C_chg (Kd.C_new HA3.out hcF) hcB (fun b hb hk => by rcases hk with hk | hk <;> omega)
      have hcells : B.heap[X.heap.size]? = some (.cells #[.int .u8 f.1.toNat, .slice A3 T c3] 28) := hcB.heap (heap_alloc_new X _) (fun hk => by have := HCX.out.size; rcases hk with hk | hk <;> omega)
      obtain ⟨q0, q1⟩ := row2c hcells
      obtain ⟨L, cl, ok', r1, r2, r3⟩ := HX0.out.rows
      have r1B : B.heap[w2.heap.size]? = some (.cells #[.slice L k cl] 42 (0, 0)) := hc1.heap r1 (fun hk => by rcases hk with hk | hk <;> omega)
      have r2B := Kd.R_chg r2 hc1 (fun b hb hk => by have := book_lt hk; have := (r3 b hb).2; omega)
      have q2 : B.cell? ⟨w2.heap.size, 0, none⟩ = some (.slice L k cl) := by rw [cell_of_row _ _ 0 _ _ _ r1B]; rfl
      have HR1B := Lib.hid r1B
      have HR2B := Lib.hid r2B
      have HR3 := Lib.hid r3
      have HK2 : Hid (frK.K B (fun b => X0.heap.size ≤ b) f (#[.int .u8 f.1.toNat, .slice A3 T c3] : Array Value).toList) := frK_mk HF2.out g3 g4
      have HS1 := Lib.hid hs1
      clear r1 r2 r3 r1B r2B hcells hcF hc1 hs1 hsB
      have HNE : Hid (∀ b, X0.heap.size ≤ b → some b ≠ (Value.slice L k cl).ownBlock) := fun b hb e => by have := (HR3.out b (HR2B.out.1 b e.symm)).1; omega
      have HBS : Hid (w.heap.size ≤ B.heap.size) := HS.out.chg.size
      have HTL : Hid (((allR bs).1.take k).length + 1 = k + 1) := by show _ = _; rw [List.length_take]; omega
      have HNL : Hid (k + 1 ≤ 4398046511104) := by
        have := HALL.out
        show _ ≤ _
        omega
      refine wpIn_block ?_
      refine round_region (by kernel_rfl) ?_
      go_wp2_with (at_builtin; refine wp_app1Fr rfl _ _ rfl w.heap.size _ _ (.slice L k cl) ((allR bs).1.take k) f _ rfl B.heap.size rfl rfl HR2B.out HK2.out HNE.out HBS.out (k + 1) HTL.out HNL.out ?_)
      intro A' c' w5 hR hC hO
      have HR5 := Lib.hid hR
      have HC5 := Lib.hid hC
      have HO5 := Lib.hid hO
      have hnb : ∀ b, some b = (Value.slice L k cl).ownBlock → w4.heap.size + 2 ≤ b := fun b hb => (HR3.out b (HR2B.out.1 b hb.symm)).2
      have hr5 : w5.heap[w2.heap.size]? = some (.cells #[.slice L k cl] 42 (0, 0)) := hC.heap HR1B.out (fun hb => by have := hnb _ hb; omega)
      have q4 : w5.cell? ⟨w2.heap.size, 0, none⟩ = some (.slice L k cl) := by rw [cell_of_row _ _ 0 _ _ _ hr5]; rfl
      have q5 : w5.frozen? ⟨w2.heap.size, 0, none⟩ = false := by simp [World.frozen?, hr5]
      have HNB := Lib.hid hnb
      have HH5 := Lib.hid hr5
      have HB2 := Lib.hid hbx2
      have HB1 := Lib.hid hbx1
      have HTK : Hid ((allR bs).1.take k ++ [f] = (allR bs).1.take (k + 1)) := by
        have g1 := HG1.out
        have g2 := HG2.out
        show _ = _
        rw [g1, ← g2, List.take_left, show l.length + 1 = (l ++ [f]).length from by simp, show l ++ f :: r = (l ++ [f]) ++ r from by simp, List.take_left]
      clear hR hC hO hnb hr5 q0 q1 q2
      go_wp2
      show HoldB _ _ _ ∧ UnSt _ _ _ _ _ _ _ _ _ _ _
      have hcS : Chg (fun b => some b = (Value.slice L k cl).ownBlock ∨ b = w2.heap.size) B (w5.setCell ⟨w2.heap.size, 0, none⟩ (.slice A' (k + 1) c')) := (HC5.out.mono (fun b hb => .inl (.inl hb))).setCell (p := ⟨w2.heap.size, 0, none⟩) (.inl (.inr rfl)) _
      have hs2 := HS3.out
      have hs4 := HB1.out
      have hs5 := HB2.out
      have hs6 := HC2.out.size
      refine ⟨HoldB.chg hcS (by have := HCX.out.size; have := HS1.out; omega) (fun b hb hk => by have := book_lt hk; rcases hb with hb | rfl; (have := HNB.out b hb; omega); omega), ⟨⟨hcS.cell HS.out.kept.1 (fun hb => by
          have hb' : some bx = (Value.slice L k cl).ownBlock ∨ bx = w2.heap.size := hb
          rcases hb' with hb | hb
          · have := HNB.out _ hb; omega
          · omega), Kd.C_chg HS.out.kept.2 hcS (fun b hb hk => by
          have := HOKB.out b hb
          rcases hk with hk | rfl
          · have := HNB.out _ hk; omega
          · omega)⟩, ⟨A', c', (fun b => (ok' b ∨ X0.heap.size ≤ b ∨ B.heap.size ≤ b) ∧ b < w5.heap.size), by simp [World.setCell, Array.getElem?_modify, HH5.out], ?_, ?_⟩, ?_⟩⟩
      · rw [← HTK.out]
        refine Kd.R_chg HR5.out (S := fun b => b = w2.heap.size) (Chg.set1 (Chg.refl _ w5) 0 _) (fun b hb hk => ?_)
        have := HS1.out
        have := HCX.out.size
        rcases hb.1 with h | h | h
        · have := (HR3.out b h).2; omega
        · omega
        · omega
      · intro b hb
        have := HS1.out
        have := HCX.out.size
        refine ⟨by simpa [World.setCell] using hb.2, ?_⟩
        rcases hb.1 with h | h | h
        · exact (HR3.out b h).2
        · omega
        · omega
      · refine ((HS.out.chg.ofNew (S := fun b => some b = (Value.slice L k cl).ownBlock ∨ b = w2.heap.size)).trans hcS (fun i hi => .inl hi)).mono (fun i hi => .inr ?_)
        rcases hi with h | rfl
        · have := HNB.out i h; omega
        · omega
    · intro X hI hd
      obtain ⟨L, cl, ok', r1, r2, r3⟩ := hI.rows
      have q2 : X.cell? ⟨w2.heap.size, 0, none⟩ = some (.slice L (allR bs).1.length cl) := by rw [cell_of_row _ _ 0 _ _ _ r1]; rfl
      have HX : Hid (Chg nob w (X.putObj w4.heap.size (.deferred none))) := ((hI.chg.ofNew (S := fun b => b = w4.heap.size)).trans (chg_putObj X w4.heap.size (.deferred none)) (fun i hi => .inl hi)).mono (fun i hi => .inr (by have := HC2.out.size; omega))
      have hr' := Kd.R_chg r2 (chg_putObj X w4.heap.size (.deferred none)) (fun b hb hk => by have := (r3 b hb).2; omega)
      rw [List.take_length] at hr'
      obtain ⟨k1, k2, k3⟩ := Kd.R_read hr'
      have HR := Lib.hid (Kd.C_bound k1)
      have HCL := Lib.hid k3
      have HD := Lib.hid hd
      obtain ⟨N, hN⟩ : ∃ N, (allR bs).1.length = N := ⟨_, rfl⟩
      rw [hN] at HU HALL HCL q2
      have HN := Lib.hid hN
      clear hI r1 r2 r3 hr' k1 k2 k3 hd hN
      by_cases h32 : 32 < N
      · have b32 : (32 : Int) < (N : Int) := by omega
        have HUE : Hid (unpE bs = 5) := by show _ = _; rw [HU.out, if_neg (by omega), if_pos h32]
        go_wp2
        refine marks_ret1 HD.out ?_
        go_ret2
        rw [Unps, HUE.out]
        exact ⟨HX.out, .inl ⟨by decide, rfl⟩⟩
      · have b32 : ¬ (32 : Int) < (N : Int) := by omega
        have HUE : Hid (unpE bs = 0) := by show _ = _; rw [HU.out, if_neg (by omega), if_neg h32]
        go_wp2
        refine marks_ret1 HD.out ?_
        go_ret2
        rw [Unps, HUE.out]
        exact ⟨HX.out, .inr ⟨rfl, L, N, cl, rfl, HN.out, HCL.out, Kd.C_mono HR.out (fun b hb => hb.2)⟩⟩
  · have HE := Lib.hid hE
    have HUE : Hid (unpE bs = E) := by show _ = _; rw [HU.out, if_pos he]
    have hE0 : ((E : Int) == 0) = false := by simp; omega
    have HC2 := Lib.hid hc2
    have HNE := Lib.hid he
    clear hE hc2 he
    go_wp2
    refine marks_ret ?_
    go_ret2
    rw [Unps, HUE.out]
    exact ⟨HC2.out, .inl ⟨HNE.out, rfl⟩⟩
end Go.Proofs.Ytmahjeafoogamaa
