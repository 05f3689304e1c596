/- The law DrawSame: the walk. -/
import Derived.Test.YtmjdcbhjpbjihaaDrawPlays
namespace Go.Proofs.Ytmjdcbhjpbjihaa
open Go.RowKit
set_option linter.unusedVariables false
attribute [local go_sem ↓] Go.wp_at_zero Go.wp_at_succ

/-- Two draws of one row, each in blocks of its own. -/
structure TwinSt (w0 : World) (n1 n2 : Nat) (ga gb : Nat) (ys : List Int) (ka kb : Nat) (w : World) : Prop where
  a : IsDraws w (fun b => w0.heap.size ≤ b ∧ b < n1) ga ys ka
  b : IsDraws w (fun b => n1 ≤ b ∧ b < n2) gb ys kb
  h1 : w0.heap.size ≤ n1
  h2 : n2 ≤ w.heap.size
  chg : Chg nob w0 w
def Tell (w : World) (n2 : Nat) (A : Option Addr) (l : List Int) : Prop := (Kd.int .i64).C w (fun b => n2 ≤ b) A l
section
variable {w0 w w' : World} {n1 n2 ga gb ka kb : Nat} {ys : List Int}
theorem TwinSt.new (h : TwinSt w0 n1 n2 ga gb ys ka kb w) (hc : Chg nob w w') : TwinSt w0 n1 n2 ga gb ys ka kb w' :=
  ⟨h.a.chg hc (fun b _ => not_nob b), h.b.chg hc (fun b _ => not_nob b), h.h1, Nat.le_trans h.h2 hc.size, h.chg.thenNew hc⟩
theorem TwinSt.drew (h : TwinSt w0 n1 n2 ga gb ys ka kb w) : TwinSt w0 n1 n2 ga gb ys ka kb w.drew := h.new ((Chg.refl _ _).drew)
theorem TwinSt.stepA {k : Nat} (h : TwinSt w0 n1 n2 ga gb ys ka kb w) (hd : IsD w' (fun b => w0.heap.size ≤ b ∧ b < n1) (some ⟨ga, 0, none⟩) ys k) (hc : Chg (fun b => w0.heap.size ≤ b ∧ b < n1) w w') : TwinSt w0 n1 n2 ga gb ys k kb w' := by
  have hd' : IsDraws w' (fun b => w0.heap.size ≤ b ∧ b < n1) ga ys k := by
    rcases hd with ⟨g', e, hd⟩ | ⟨e, _⟩
    · cases e; exact hd
    · cases e
  exact ⟨hd', h.b.chg hc (fun b hb e => by omega), h.h1, Nat.le_trans h.h2 hc.size, h.chg.trans hc (fun b hb => .inr hb.1)⟩
theorem TwinSt.stepB {k : Nat} (h : TwinSt w0 n1 n2 ga gb ys ka kb w) (hd : IsD w' (fun b => n1 ≤ b ∧ b < n2) (some ⟨gb, 0, none⟩) ys k) (hc : Chg (fun b => n1 ≤ b ∧ b < n2) w w') : TwinSt w0 n1 n2 ga gb ys ka k w' := by
  have hd' : IsDraws w' (fun b => n1 ≤ b ∧ b < n2) gb ys k := by
    rcases hd with ⟨g', e, hd⟩ | ⟨e, _⟩
    · cases e; exact hd
    · cases e
  exact ⟨h.a.chg hc (fun b hb e => by omega), hd', h.h1, Nat.le_trans h.h2 hc.size, h.chg.trans hc (fun b hb => .inr (by have := h.h1; omega))⟩
theorem twin_below_a (h : TwinSt w0 n1 n2 ga gb ys ka kb w) (m : Int) :
    Calls Try.prog 10 #[.pointer (some ⟨ga, 0, none⟩), .int .i64 m] w fun e w' => e = .returned (.int .i64 (drawVal ys ka m)) ∧ TwinSt w0 n1 n2 ga gb ys (ka + drawAdv ys ka m) kb w' :=
  (d_below (.of h.a) m).mono fun e w' ⟨he, hd, hc⟩ => ⟨he, h.stepA hd hc⟩
theorem twin_below_b (h : TwinSt w0 n1 n2 ga gb ys ka kb w) (m : Int) :
    Calls Try.prog 10 #[.pointer (some ⟨gb, 0, none⟩), .int .i64 m] w fun e w' => e = .returned (.int .i64 (drawVal ys kb m)) ∧ TwinSt w0 n1 n2 ga gb ys ka (kb + drawAdv ys kb m) w' :=
  (d_below (.of h.b) m).mono fun e w' ⟨he, hd, hc⟩ => ⟨he, h.stepB hd hc⟩
theorem twin_some_a (h : TwinSt w0 n1 n2 ga gb ys ka kb w) (m q : Int) :
    Calls Try.prog 15 #[.pointer (some ⟨ga, 0, none⟩), .int .i64 m, .int .i64 q] w fun e w' => ∃ A c, e = .returned (.slice A (drawSome ys ka m q).1.length c) ∧ TwinSt w0 n1 n2 ga gb ys (drawSome ys ka m q).2 kb w' ∧ Tell w' n2 A (drawSome ys ka m q).1 :=
  (d_some (.of h.a) m q).mono fun e w' ⟨A, c, he, hl, hC, hd, hc⟩ => ⟨A, c, he, h.stepA hd hc, Kd.C_mono hC (fun b hb => Nat.le_trans h.h2 hb)⟩
theorem twin_some_b {A0 : Option Addr} {l0 : List Int} (h : TwinSt w0 n1 n2 ga gb ys ka kb w) (h0 : Tell w n2 A0 l0) (m q : Int) :
    Calls Try.prog 15 #[.pointer (some ⟨gb, 0, none⟩), .int .i64 m, .int .i64 q] w fun e w' => ∃ A c, e = .returned (.slice A (drawSome ys kb m q).1.length c) ∧ TwinSt w0 n1 n2 ga gb ys ka (drawSome ys kb m q).2 w' ∧ Tell w' n2 A0 l0 ∧ Tell w' n2 A (drawSome ys kb m q).1 :=
  (d_some (.of h.b) m q).mono fun e w' ⟨A, c, he, hl, hC, hd, hc⟩ => ⟨A, c, he, h.stepB hd hc, Kd.C_chg h0 hc (fun b hb e => by omega), Kd.C_mono hC (fun b hb => Nat.le_trans h.h2 hb)⟩
theorem twin_same {l : List Int} {c d : Nat} {A B : Option Addr} (h : TwinSt w0 n1 n2 ga gb ys ka kb w) (hA : Tell w n2 A l) (hB : Tell w n2 B l) :
    Calls Try.prog 14 #[.slice A l.length c, .slice B l.length d] w fun e w' => e = .returned (.bool true) ∧ TwinSt w0 n1 n2 ga gb ys ka kb w' :=
  (same_true rfl hA hB).mono fun e w' ⟨he, hc⟩ => ⟨he, h.new hc⟩
theorem twin_cell {b o : Nat} {ss : List (Int × Int × Int)} (hs : stepK.C w0 (fun b => b < w0.heap.size) (some ⟨b, o, none⟩) ss) {j : Nat} {x : Int × Int × Int} (hx : ss[j]? = some x) (h : TwinSt w0 n1 n2 ga gb ys ka kb w) :
    w.cell? ⟨b, o + j * 3 + 1, none⟩ = some (.int .i64 x.2.1) ∧ w.cell? ⟨b, o + j * 3 + 2, none⟩ = some (.int .i64 x.2.2) := by
  obtain ⟨b', o', e, h0, h1, h2⟩ := stepK_at (Kd.C_new hs h.chg) hx
  cases e
  exact ⟨h1, h2⟩
end
set_option maxRecDepth 100000 in
set_option maxHeartbeats 4000000 in
theorem drawSame_walk {w : World} {A : Option Addr} {c : Nat} {xs : List Int} (h : (Kd.int .u32).C w (fun b => b < w.heap.size) A xs) (hc : xs.length ≤ c) (hb : ∀ x ∈ xs, 0 ≤ x ∧ x < 4294967296)
    {B : Option Addr} {cs : Nat} {ss : List (Int × Int × Int)} (hs : stepK.C w (fun b => b < w.heap.size) B ss) :
    Calls Try.prog 5 #[.slice A xs.length c, .slice B ss.length cs] w fun e w' => e = .returned (.bool true) ∧ Chg nob w w' := by
  go_enter Try.func5, Try.ntmps5
  go_wp2_with fail
  refine (draw_new h hc hb).mono ?_
  rintro e w1 ⟨ga, rfl, hd, hc1⟩
  go_wp2_with fail
  refine (draw_new (Kd.C_new h hc1) hc hb).mono ?_
  rintro e w2 ⟨gb, rfl, hr, hc2⟩
  have h0 : TwinSt w w1.heap.size w2.heap.size ga gb (xs.take 4096) 0 0 w2 := ⟨(hd.bound).chg hc2 (fun b _ => not_nob b), hr.bound, hc1.size, Nat.le_refl _, hc1.thenNew hc2⟩
  generalize xs.take 4096 = ys at h0
  have hsm := hs.small
  clear h hc hb hd hr hc1 hc2
  generalize hn : ss.length = n at *
  have HN := Lib.hid hn
  clear hn
  generalize w1.heap.size = n1 at *
  generalize w2.heap.size = n2 at *
  go_wp2
  go_loopw [7] (fun i wr => ∃ j : Nat, ∃ k : Nat, j ≤ n ∧ i = .int .i64 j ∧ TwinSt w n1 n2 ga gb ys k k wr) (fun i _ => n - (intOf i).toNat)
  case atStart => exact ⟨0, _, Nat.zero_le _, rfl, h0⟩
  case round =>
    obtain ⟨j, k, hj, rfl, hst⟩ := hrel
    clear h0
    by_cases hlt : j < n ∧ j < 40
    · obtain ⟨hl1, hl2⟩ := hlt
      obtain ⟨x, hx⟩ : ∃ x, ss[j]? = some x := ⟨_, List.getElem?_eq_getElem (by rw [HN.out]; exact hl1)⟩
      obtain ⟨sb, so, rfl, e0, e1, e2⟩ := stepK_at (Kd.C_new hs hst.chg) hx
      obtain ⟨x0, x1, x2⟩ := x
      have b1 : (0 : Int) ≤ (j : Int) := by omega
      have b2 : (j : Int) < (n : Int) := by omega
      simp only at e0 e1 e2
      have hst' := hst.drew
      go_wp2
      go_region_held3 (fun w' => w'.cell? ⟨sb, so + j * 3 + 1, none⟩ = some (.int .i64 x1) ∧ w'.cell? ⟨sb, so + j * 3 + 2, none⟩ = some (.int .i64 x2)) (exact (twin_cell hs hx (by assumption)))
        (first | (go_at_call_of 10 (Value.pointer (some ⟨ga, 0, none⟩)); refine (twin_below_a (by assumption) _).mono ?_; rintro e w' ⟨rfl, hq⟩) | (go_at_call_of 10 (Value.pointer (some ⟨gb, 0, none⟩)); refine (twin_below_b (by assumption) _).mono ?_; rintro e w' ⟨rfl, hq⟩) | (go_at_call_of 15 (Value.pointer (some ⟨ga, 0, none⟩)); refine (twin_some_a (by assumption) _ _).mono ?_; rintro e w' ⟨A1, c1, rfl, hq, hA⟩) | (go_at_call_of 15 (Value.pointer (some ⟨gb, 0, none⟩)); refine (twin_some_b (by assumption) (by assumption) _ _).mono ?_; rintro e w' ⟨B1, d1, rfl, hq, hA, hB⟩) | (go_at_call 14; refine (twin_same (by assumption) (by assumption) (by assumption)).mono ?_; rintro e w' ⟨rfl, hq⟩))
      go_wp2
      exact ⟨⟨j + 1, _, by omega, by go_num, hq⟩, by simp [intOf]; omega⟩
    · by_cases h60 : j < 40
      · have hjn : ¬ j < n := fun h => hlt ⟨h, h60⟩
        go_wp2_with fail
        all_goals
          refine (draw_left hst.a).mono ?_
          rintro e w7 ⟨rfl, hc7⟩
          go_wp2_with fail
          refine (draw_left (hst.new hc7).b).mono ?_
          rintro e w8 ⟨rfl, hc8⟩
          go_wp2_with fail
          refine (draw_works w8).mono ?_
          rintro e w9 ⟨rfl, hc9⟩
          go_wp2
          go_ret
          exact ⟨rfl, ((hst.chg.thenNew hc7).thenNew hc8).thenNew hc9⟩
      · go_wp2_with fail
        all_goals
          refine (draw_left hst.a).mono ?_
          rintro e w7 ⟨rfl, hc7⟩
          go_wp2_with fail
          refine (draw_left (hst.new hc7).b).mono ?_
          rintro e w8 ⟨rfl, hc8⟩
          go_wp2_with fail
          refine (draw_works w8).mono ?_
          rintro e w9 ⟨rfl, hc9⟩
          go_wp2
          go_ret
          exact ⟨rfl, ((hst.chg.thenNew hc7).thenNew hc8).thenNew hc9⟩
end Go.Proofs.Ytmjdcbhjpbjihaa
