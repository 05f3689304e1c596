/- The law DrawNone: the walk. -/
import Derived.Test.YtmjdcbhjpbjihaaDrawPlays
namespace Go.Proofs.Ytmjdcbhjpbjihaa
open Go.RowKit
set_option linter.unusedVariables false
attribute [local go_sem ↓] Go.wp_at_zero Go.wp_at_succ

/-- Draws that are not there, or such as no call made, at g; the reference's at g2; W: the world ahead of the rounds. -/
structure NoneSt (W : World) (g : Nat) (p : Option Addr) (g2 : Nat) (w : World) : Prop where
  dg : IsDraws w (fun b => b = g) g [] 0
  hp : p = none ∨ p = some ⟨g, 0, none⟩
  r : IsRef w (fun _ => False) g2 [] 0
  hg : W.heap.size ≤ g2
  hl : g < W.heap.size
  chg : Chg (fun b => b = g) W w
theorem IsD.nil_le {w : World} {ok : Nat → Prop} {p : Option Addr} {k : Nat} (h : IsD w ok p [] k) : k = 0 := by have := h.le; simp at this; omega
theorem IsRef.nil_le {w : World} {ok : Nat → Prop} {g : Nat} {k : Nat} (h : IsRef w ok g [] k) : k = 0 := by have := h.le; simp at this; omega
def NTell (W w : World) (g2 : Nat) (A : Option Addr) (l : List Int) : Prop := (Kd.int .i64).C w (fun b => W.heap.size ≤ b ∧ b ≠ g2 ∧ b < w.heap.size) A l
section
variable {W w w' : World} {g g2 : Nat} {p : Option Addr}
theorem NoneSt.d (h : NoneSt W g p g2 w) : IsD w (fun b => b = g ∧ p.isSome = true) p [] 0 := by
  rcases h.hp with rfl | rfl
  · exact .inr ⟨rfl, rfl, rfl⟩
  · exact .of (h.dg.mono (fun b hb => ⟨hb, rfl⟩))
theorem NoneSt.new (h : NoneSt W g p g2 w) (hc : Chg nob w w') : NoneSt W g p g2 w' :=
  ⟨h.dg.chg hc (fun b _ => not_nob b), h.hp, h.r.new hc, h.hg, h.hl, h.chg.thenNew hc⟩
theorem NoneSt.drew (h : NoneSt W g p g2 w) : NoneSt W g p g2 w.drew := h.new ((Chg.refl _ _).drew)
theorem NoneSt.ofD {k : Nat} (h : NoneSt W g p g2 w) (hd : IsD w' (fun b => b = g ∧ p.isSome = true) p [] k) (hc : Chg (fun b => b = g ∧ p.isSome = true) w w') : NoneSt W g p g2 w' := by
  have hk := hd.nil_le
  subst hk
  refine ⟨?_, h.hp, h.r.chg hc (by have := h.hg; have := h.hl; omega) (fun b hb => hb.elim), h.hg, h.hl, h.chg.trans hc (fun b hb => .inl hb.1)⟩
  rcases h.hp with rfl | rfl
  · exact h.dg.chg hc (fun b hb e => by simp at e)
  · rcases hd with ⟨g', e, hd⟩ | ⟨e, _⟩
    · cases e; exact hd.mono (fun b hb => hb.1)
    · cases e
theorem none_below (h : NoneSt W g p g2 w) (m : Int) :
    Calls Try.prog 10 #[.pointer p, .int .i64 m] w fun e w' => e = .returned (.int .i64 0) ∧ NoneSt W g p g2 w' :=
  (d_below h.d m).mono fun e w' ⟨he, hd, hc⟩ => ⟨by rw [he, drawVal_small (.inr (by simp))], h.ofD hd hc⟩
theorem none_list {l : List Int} {k : Nat} {e : Ending} (h : NoneSt W g p g2 w) (hp : ListPost w (fun b => b = g ∧ p.isSome = true) p [] l k e w') :
    ∃ A c, e = .returned (.slice A l.length c) ∧ NoneSt W g p g2 w' ∧ NTell W w' g2 A l := by
  obtain ⟨A, c, he, hl, hC, hd, hc⟩ := hp
  exact ⟨A, c, he, h.ofD hd hc, Kd.C_mono (Kd.C_bound hC) (fun b hb => ⟨Nat.le_trans h.chg.size hb.1, by have := h.r.lt; have := hb.1; omega, hb.2⟩)⟩
theorem none_order (h : NoneSt W g p g2 w) (m : Int) :
    Calls Try.prog 13 #[.pointer p, .int .i64 m] w fun e w' => ∃ A c, e = .returned (.slice A (drawOrd [] 0 m).1.length c) ∧ NoneSt W g p g2 w' ∧ NTell W w' g2 A (drawOrd [] 0 m).1 :=
  (d_order h.d m).mono fun e w' hp => none_list h hp.list
theorem none_some (h : NoneSt W g p g2 w) (m q : Int) :
    Calls Try.prog 15 #[.pointer p, .int .i64 m, .int .i64 q] w fun e w' => ∃ A c, e = .returned (.slice A (drawSome [] 0 m q).1.length c) ∧ NoneSt W g p g2 w' ∧ NTell W w' g2 A (drawSome [] 0 m q).1 :=
  (d_some h.d m q).mono fun e w' hp => none_list h hp
theorem none_rlist {l l0 : List Int} {k : Nat} {e : Ending} {A0 : Option Addr} (h : NoneSt W g p g2 w) (h0 : NTell W w g2 A0 l0) (hp : RefPost w (fun _ => False) g2 [] l k e w') :
    ∃ A c, e = .returned (.slice A l.length c) ∧ NoneSt W g p g2 w' ∧ NTell W w' g2 A0 l0 ∧ NTell W w' g2 A l := by
  obtain ⟨A, c, he, hl, hC, hd, hc⟩ := hp
  have hk := hd.nil_le
  subst hk
  refine ⟨A, c, he, ⟨h.dg.chg hc (fun b hb e => by have := h.hg; have := h.hl; omega), h.hp, hd, h.hg, h.hl, h.chg.trans hc (fun b hb => .inr (hb ▸ h.hg))⟩, Kd.C_mono (Kd.C_chg h0 hc (fun b hb e => hb.2.1 e)) (fun b hb => ⟨hb.1, hb.2.1, Nat.lt_of_lt_of_le hb.2.2 hc.size⟩), Kd.C_mono (Kd.C_bound hC) (fun b hb => ⟨Nat.le_trans h.chg.size hb.1, by have := h.r.lt; have := hb.1; omega, hb.2⟩)⟩
theorem none_rorder {l0 : List Int} {A0 : Option Addr} (h : NoneSt W g p g2 w) (h0 : NTell W w g2 A0 l0) (m : Int) :
    Calls Try.prog 18 #[.pointer (some ⟨g2, 0, none⟩), .int .i64 m] w fun e w' => ∃ A c, e = .returned (.slice A (drawOrd [] 0 m).1.length c) ∧ NoneSt W g p g2 w' ∧ NTell W w' g2 A0 l0 ∧ NTell W w' g2 A (drawOrd [] 0 m).1 :=
  (ref_order h.r (fun b hb => hb.elim) m).mono fun e w' hp => none_rlist h h0 hp
theorem none_rsome {l0 : List Int} {A0 : Option Addr} (h : NoneSt W g p g2 w) (h0 : NTell W w g2 A0 l0) (m q : Int) :
    Calls Try.prog 19 #[.pointer (some ⟨g2, 0, none⟩), .int .i64 m, .int .i64 q] w fun e w' => ∃ A c, e = .returned (.slice A (drawSome [] 0 m q).1.length c) ∧ NoneSt W g p g2 w' ∧ NTell W w' g2 A0 l0 ∧ NTell W w' g2 A (drawSome [] 0 m q).1 :=
  (ref_some h.r (fun b hb => hb.elim) m q).mono fun e w' hp => none_rlist h h0 hp
theorem none_same {l : List Int} {c d : Nat} {A B : Option Addr} (h : NoneSt W g p g2 w) (hA : NTell W w g2 A l) (hB : NTell W w g2 B l) :
    Calls Try.prog 14 #[.slice A l.length c, .slice B l.length d] w fun e w' => e = .returned (.bool true) ∧ NoneSt W g p g2 w' :=
  (same_true rfl hA hB).mono fun e w' ⟨he, hc⟩ => ⟨he, h.new hc⟩
theorem none_left (h : NoneSt W g p g2 w) :
    Calls Try.prog 9 #[.pointer p] w fun e w' => e = .returned (.int .i64 0) ∧ NoneSt W g p g2 w' :=
  (d_left h.d).mono fun e w' ⟨he, hc⟩ => ⟨by rw [he]; rfl, h.new hc⟩
theorem none_taken (h : NoneSt W g p g2 w) :
    Calls Try.prog 11 #[.pointer p] w fun e w' => e = .returned (.int .i64 0) ∧ NoneSt W g p g2 w' := by
  rcases h.d with ⟨g', rfl, hd⟩ | ⟨rfl, _, _⟩
  · exact (draw_taken hd).mono fun e w' ⟨he, hw⟩ => ⟨by rw [he]; rfl, hw ▸ h⟩
  · exact (draw_taken_nil w).mono fun e w' ⟨he, hw⟩ => ⟨he, hw ▸ h⟩
theorem none_cell {b i : Nat} {v : Value} (hc : W.cell? ⟨b, i, none⟩ = some v) (hg : b ≠ g) (h : NoneSt W g p g2 w) : w.cell? ⟨b, i, none⟩ = some v := h.chg.cell hc hg
end
set_option maxRecDepth 100000 in
set_option maxHeartbeats 8000000 in
theorem drawNone_walk {w : World} {ok : Nat → Prop} {x : Int × Int × Int} {cs : Array Value} (hK : stepK.K w ok x cs.toList) :
    Calls Try.prog 7 #[.agg cs] w fun e w' => e = .returned (.bool true) ∧ Chg nob w w' := by
  obtain ⟨a, b, c⟩ := x
  obtain ⟨c0, c1, e, h0, c2, c3, rfl, h2, h3⟩ := hK
  have h0' : c0 = [.int .i64 a] := h0
  have h2' : c2 = [.int .i64 b] := h2
  have h3' : c3 = [.int .i64 c] := h3
  subst h0' h2' h3'
  obtain rfl : cs = #[.int .i64 a, .int .i64 b, .int .i64 c] := by cases cs; simpa using e
  clear e h0 h2 h3
  go_enter Try.func7, Try.ntmps7
  go_wp2
  have w0 : Chg nob w (((w.alloc (Obj.cells #[Value.int IntKind.i64 a, Value.int IntKind.i64 b, Value.int IntKind.i64 c] 34)).alloc (Obj.cells #[Value.slice none 0 0, Value.int IntKind.i64 0] 43)).alloc (Obj.cells #[Value.pointer none, Value.pointer (some { block := w.heap.size + 1, off := 0 })] 23)) := (((Chg.refl _ _).alloc _).alloc _).alloc _
  have w1 : (((w.alloc (Obj.cells #[Value.int IntKind.i64 a, Value.int IntKind.i64 b, Value.int IntKind.i64 c] 34)).alloc (Obj.cells #[Value.slice none 0 0, Value.int IntKind.i64 0] 43)).alloc (Obj.cells #[Value.pointer none, Value.pointer (some { block := w.heap.size + 1, off := 0 })] 23)).heap[w.heap.size]? = some (.cells #[.int .i64 a, .int .i64 b, .int .i64 c] 34 (0, 0)) := by
    rw [Below.heap_alloc _ _ _ (by simp; omega), Below.heap_alloc _ _ _ (by simp)]; exact heap_alloc_new w _
  have w2 : (((w.alloc (Obj.cells #[Value.int IntKind.i64 a, Value.int IntKind.i64 b, Value.int IntKind.i64 c] 34)).alloc (Obj.cells #[Value.slice none 0 0, Value.int IntKind.i64 0] 43)).alloc (Obj.cells #[Value.pointer none, Value.pointer (some { block := w.heap.size + 1, off := 0 })] 23)).heap[w.heap.size + 1]? = some (.cells #[.slice none 0 0, .int .i64 0] 43 (0, 0)) := by
    rw [Below.heap_alloc _ _ _ (by simp)]; have := heap_alloc_new (w.alloc (Obj.cells #[Value.int IntKind.i64 a, Value.int IntKind.i64 b, Value.int IntKind.i64 c] 34)) (Obj.cells #[Value.slice none 0 0, Value.int IntKind.i64 0] 43); simpa using this
  have w3 : (((w.alloc (Obj.cells #[Value.int IntKind.i64 a, Value.int IntKind.i64 b, Value.int IntKind.i64 c] 34)).alloc (Obj.cells #[Value.slice none 0 0, Value.int IntKind.i64 0] 43)).alloc (Obj.cells #[Value.pointer none, Value.pointer (some { block := w.heap.size + 1, off := 0 })] 23)).heap[w.heap.size + 2]? = some (.cells #[.pointer none, .pointer (some ⟨w.heap.size + 1, 0, none⟩)] 23 (0, 0)) := by
    have := heap_alloc_new ((w.alloc (Obj.cells #[Value.int IntKind.i64 a, Value.int IntKind.i64 b, Value.int IntKind.i64 c] 34)).alloc (Obj.cells #[Value.slice none 0 0, Value.int IntKind.i64 0] 43)) (Obj.cells #[Value.pointer none, Value.pointer (some { block := w.heap.size + 1, off := 0 })] 23); simpa using this
  generalize hW : (((w.alloc (Obj.cells #[Value.int IntKind.i64 a, Value.int IntKind.i64 b, Value.int IntKind.i64 c] 34)).alloc (Obj.cells #[Value.slice none 0 0, Value.int IntKind.i64 0] 43)).alloc (Obj.cells #[Value.pointer none, Value.pointer (some { block := w.heap.size + 1, off := 0 })] 23)) = W at *
  clear hW
  have hWs : w.heap.size + 2 < W.heap.size := heap_lt w3
  have hd0 : IsDraws W (fun b => b = w.heap.size + 1) (w.heap.size + 1) [] 0 := ⟨rfl, none, 0, w2, Nat.le_refl _, by simp, by simp, Kd.C_nil _ _ _ _, by simp⟩
  have cN : W.cell? ⟨w.heap.size, 1, none⟩ = some (.int .i64 b) := by rw [cell_of_row W _ 1 _ _ _ w1]; rfl
  have cK : W.cell? ⟨w.heap.size, 2, none⟩ = some (.int .i64 c) := by rw [cell_of_row W _ 2 _ _ _ w1]; rfl
  have c0 : W.cell? ⟨w.heap.size + 1 + 1, 0, none⟩ = some (.pointer none) := by rw [cell_of_row W _ 0 _ _ _ w3]; rfl
  have c1 : W.cell? ⟨w.heap.size + 1 + 1, 1, none⟩ = some (.pointer (some ⟨w.heap.size + 1, 0, none⟩)) := by rw [cell_of_row W _ 1 _ _ _ w3]; rfl
  clear w1 w2 w3
  go_loopw [5] (fun i wr => ∃ j : Nat, j ≤ 2 ∧ i = .int .i64 j ∧ Chg (fun b => b = w.heap.size + 1) W wr ∧ IsDraws wr (fun b => b = w.heap.size + 1) (w.heap.size + 1) [] 0) (fun i _ => 2 - (intOf i).toNat)
  case atStart => exact ⟨0, Nat.zero_le _, rfl, Chg.refl _ _, hd0⟩
  case round =>
    obtain ⟨j, hj, rfl, hcr, hdr⟩ := hrel
    clear hd0
    by_cases hlt : j < 2
    · have hp : ∃ p : Option Addr, W.cell? ⟨w.heap.size + 1 + 1, j, none⟩ = some (.pointer p) ∧ (p = none ∨ p = some ⟨w.heap.size + 1, 0, none⟩) := by
        rcases (show j = 0 ∨ j = 1 from by omega) with rfl | rfl
        · exact ⟨none, c0, .inl rfl⟩
        · exact ⟨_, c1, .inr rfl⟩
      obtain ⟨p, cp, hpp⟩ := hp
      have q1 : w.heap.size + 1 + 1 ≠ w.heap.size + 1 := by omega
      have q2 : w.heap.size ≠ w.heap.size + 1 := by omega
      have HPP := Lib.hid hpp
      clear c0 c1 hpp
      have b1 : (0 : Int) ≤ (j : Int) := by omega
      have b2 : (j : Int) < 2 := by omega
      go_wp2_with fail
      refine (ref_new (xs := []) (ok := fun _ => False) (Kd.C_nil _ _ _ _) (fun b hb => hb.elim) (by simp) (by simp)).mono ?_
      rintro e w4 ⟨g2, rfl, hg2, hr, hc4⟩
      have hr' : IsRef w4 (fun _ => False) g2 [] 0 := by simpa using hr
      have hst : NoneSt W (w.heap.size + 1) p g2 w4 := ⟨hdr.chg hc4 (fun b _ => not_nob b), HPP.out, hr', Nat.le_trans hcr.size hg2, by omega, hcr.thenNew hc4⟩
      have hst' := hst.drew
      clear hr hr' hc4 hdr
      go_wp2
      go_region_held3 (fun w' => w'.cell? ⟨w.heap.size + 1 + 1, j, none⟩ = some (.pointer p) ∧ w'.cell? ⟨w.heap.size, 1, none⟩ = some (.int .i64 b) ∧ w'.cell? ⟨w.heap.size, 2, none⟩ = some (.int .i64 c)) (exact ⟨none_cell cp q1 (by assumption), none_cell cN q2 (by assumption), none_cell cK q2 (by assumption)⟩)
        (first | (go_at_call 10; refine (none_below (by assumption) _).mono ?_; rintro e w' ⟨rfl, hq⟩) | (go_at_call 13; refine (none_order (by assumption) _).mono ?_; rintro e w' ⟨A1, d1, rfl, hq, hA⟩) | (go_at_call 18; refine (none_rorder (by assumption) (by assumption) _).mono ?_; rintro e w' ⟨B1, d1, rfl, hq, hA, hB⟩) | (go_at_call 15; refine (none_some (by assumption) _ _).mono ?_; rintro e w' ⟨A1, d1, rfl, hq, hA⟩) | (go_at_call 19; refine (none_rsome (by assumption) (by assumption) _ _).mono ?_; rintro e w' ⟨B1, d1, rfl, hq, hA, hB⟩) | (go_at_call 14; refine (none_same (by assumption) (by assumption) (by assumption)).mono ?_; rintro e w' ⟨rfl, hq⟩) | (go_at_call 11; refine (none_taken (by assumption)).mono ?_; rintro e w' ⟨rfl, hq⟩) | (go_at_call 9; refine (none_left (by assumption)).mono ?_; rintro e w' ⟨rfl, hq⟩))
      go_wp2
      exact ⟨⟨j + 1, by omega, by go_num, hq.chg, hq.dg⟩, by simp [intOf]; omega⟩
    · go_wp2_with fail
      refine (draw_works wr).mono ?_
      rintro e w9 ⟨rfl, hc9⟩
      go_wp2
      go_ret
      exact ⟨rfl, (w0.trans hcr (fun b hb => .inr (by omega))).thenNew hc9⟩
end Go.Proofs.Ytmjdcbhjpbjihaa
