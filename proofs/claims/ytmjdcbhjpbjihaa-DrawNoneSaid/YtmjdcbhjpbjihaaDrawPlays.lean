/- The law DrawPlays: the walk. -/
import Derived.Test.YtmjdcbhjpbjihaaDrawLaws
import Derived.Test.YtmjdcbhjpbjihaaDrawSame
import Derived.Deep.RegionHeld3
import Derived.Deep.DrawnRows
namespace Go.Proofs.Ytmjdcbhjpbjihaa
open Go.RowKit
set_option linter.unusedVariables false
attribute [local go_sem ↓] Go.wp_at_zero Go.wp_at_succ

/-- A step: kind, N, K. -/
def stepK : Kd (Int × Int × Int) := Kd.pair (Kd.int .i64) (Kd.pair (Kd.int .i64) (Kd.int .i64))
theorem stepK_of {w : World} {ok : Nat → Prop} {A : Option Addr} {ss : List (Int × Int × Int)} {p q r : Int → Prop} (h : (Kd.pair (Kd.such (Kd.int .i64) p) (Kd.pair (Kd.such (Kd.int .i64) q) (Kd.such (Kd.int .i64) r))).C w ok A ss) : stepK.C w ok A ss := by
  obtain ⟨h1, inner, hr, hc⟩ := h
  refine ⟨h1, inner, hr.imp ?_, hc⟩
  rintro x c ⟨c0, c1, rfl, h0, c2, c3, rfl, h2, h3⟩
  exact ⟨c0, _, rfl, h0.1, c2, c3, rfl, h2.1, h3.1⟩
theorem stepK_ofK {w : World} {ok : Nat → Prop} {x : Int × Int × Int} {cs : List Value} {p q r : Int → Prop} (h : (Kd.pair (Kd.such (Kd.int .i64) p) (Kd.pair (Kd.such (Kd.int .i64) q) (Kd.such (Kd.int .i64) r))).K w ok x cs) : stepK.K w ok x cs := by
  obtain ⟨c0, c1, rfl, h0, c2, c3, rfl, h2, h3⟩ := h
  exact ⟨c0, _, rfl, h0.1, c2, c3, rfl, h2.1, h3.1⟩
theorem stepK_at {w : World} {ok : Nat → Prop} {A : Option Addr} {ss : List (Int × Int × Int)} (h : stepK.C w ok A ss) {j : Nat} {x : Int × Int × Int} (hx : ss[j]? = some x) :
    ∃ b o, A = some ⟨b, o, none⟩ ∧ w.cell? ⟨b, o + j * 3, none⟩ = some (.int .i64 x.1) ∧ w.cell? ⟨b, o + j * 3 + 1, none⟩ = some (.int .i64 x.2.1) ∧ w.cell? ⟨b, o + j * 3 + 2, none⟩ = some (.int .i64 x.2.2) := by
  obtain ⟨b, o, c, e, ho, hk, hc⟩ := Kd.C_at' h hx
  obtain ⟨c0, c1, rfl, h0, h1⟩ := hk
  obtain ⟨c2, c3, rfl, h2, h3⟩ := h1
  have h0' : c0 = [.int .i64 x.1] := h0
  have h2' : c2 = [.int .i64 x.2.1] := h2
  have h3' : c3 = [.int .i64 x.2.2] := h3
  subst h0' h2' h3'
  exact ⟨b, o, e, hc 0 _ rfl, hc 1 _ rfl, hc 2 _ rfl⟩
/-- The draws, and the reference's, at their places. -/
structure PlaySt (w0 : World) (g g2 : Nat) (ok : Nat → Prop) (ys : List Int) (k k2 : Nat) (w : World) : Prop where
  d : IsDraws w (fun b => w0.heap.size ≤ b ∧ b ≠ g2) g ys k
  r : IsRef w ok g2 ys k2
  okb : ∀ b, ok b → b < w0.heap.size
  hg2 : w0.heap.size ≤ g2
  chg : Chg nob w0 w
theorem PlaySt.new {w0 w w1 : World} {g g2 : Nat} {ok : Nat → Prop} {ys : List Int} {k k2 : Nat} (h : PlaySt w0 g g2 ok ys k k2 w) (hc : Chg nob w w1) : PlaySt w0 g g2 ok ys k k2 w1 :=
  ⟨h.d.chg hc (fun b _ => not_nob b), h.r.new hc, h.okb, h.hg2, h.chg.thenNew hc⟩
theorem play_below {w0 w : World} {g g2 : Nat} {ok : Nat → Prop} {ys : List Int} {k k2 : Nat} (h : PlaySt w0 g g2 ok ys k k2 w) (m : Int) :
    Calls Try.prog 10 #[.pointer (some ⟨g, 0, none⟩), .int .i64 m] w fun e w' => e = .returned (.int .i64 (drawVal ys k m)) ∧ PlaySt w0 g g2 ok ys (k + drawAdv ys k m) k2 w' :=
  (draw_below h.d m).mono fun e w' ⟨he, hd, hc⟩ => ⟨he, hd, h.r.chg hc (fun e => h.d.ok_.2 e.symm) (fun b hb e => by have := h.okb b hb; have := h.d.ok_.1; omega), h.okb, h.hg2, h.chg.trans hc (fun b hb => .inr (hb ▸ h.d.ok_.1))⟩
theorem play_rbelow {w0 w : World} {g g2 : Nat} {ok : Nat → Prop} {ys : List Int} {k k2 : Nat} (h : PlaySt w0 g g2 ok ys k k2 w) (m : Int) :
    Calls Try.prog 17 #[.pointer (some ⟨g2, 0, none⟩), .int .i64 m] w fun e w' => e = .returned (.int .i64 (drawVal ys k2 m)) ∧ PlaySt w0 g g2 ok ys k (k2 + drawAdv ys k2 m) w' :=
  (ref_below h.r m).mono fun e w' ⟨he, hd, hc⟩ => ⟨he, h.d.chg hc (fun b hb e => hb.2 e), hd, h.okb, h.hg2, h.chg.trans hc (fun b hb => .inr (hb ▸ h.hg2))⟩
theorem PlaySt.drew {w0 w : World} {g g2 : Nat} {ok : Nat → Prop} {ys : List Int} {k k2 : Nat} (h : PlaySt w0 g g2 ok ys k k2 w) : PlaySt w0 g g2 ok ys k k2 w.drew := h.new ((Chg.refl _ _).drew)
theorem play_cell {w0 w : World} {g g2 : Nat} {ok : Nat → Prop} {ys : List Int} {k k2 : Nat} {b o : Nat} {ss : List (Int × Int × Int)} (hs : stepK.C w0 (fun b => b < w0.heap.size) (some ⟨b, o, none⟩) ss) {j : Nat} {x : Int × Int × Int} (hx : ss[j]? = some x) (h : PlaySt w0 g g2 ok ys k k2 w) :
    w.cell? ⟨b, o + j * 3 + 1, none⟩ = some (.int .i64 x.2.1) ∧ w.cell? ⟨b, o + j * 3 + 2, none⟩ = some (.int .i64 x.2.2) := by
  obtain ⟨b', o', e, h0, h1, h2⟩ := stepK_at (Kd.C_new hs h.chg) hx
  cases e
  exact ⟨h1, h2⟩
theorem play_left {w0 w : World} {g g2 : Nat} {ok : Nat → Prop} {ys : List Int} {k k2 : Nat} {o : Obj} (h : PlaySt w0 g g2 ok ys k k2 w) (ho : w.heap[g2]? = some o) :
    Calls Try.prog 9 #[.pointer (some ⟨g, 0, none⟩)] w fun e w' => e = .returned (.int .i64 ((ys.length : Int) - k)) ∧ PlaySt w0 g g2 ok ys k k2 w' ∧ w'.heap[g2]? = some o :=
  (draw_left h.d).mono fun e w' ⟨he, hc⟩ => ⟨he, h.new hc, hc.heap ho (not_nob _)⟩
theorem play_taken {w0 w : World} {g g2 : Nat} {ok : Nat → Prop} {ys : List Int} {k k2 : Nat} {o : Obj} (h : PlaySt w0 g g2 ok ys k k2 w) (ho : w.heap[g2]? = some o) :
    Calls Try.prog 11 #[.pointer (some ⟨g, 0, none⟩)] w fun e w' => e = .returned (.int .i64 (k : Int)) ∧ PlaySt w0 g g2 ok ys k k2 w' ∧ w'.heap[g2]? = some o :=
  (draw_taken h.d).mono fun e w' ⟨he, hw⟩ => ⟨he, hw ▸ h, hw ▸ ho⟩
/-- A list that a call has told. -/
def Told (w : World) (g2 : Nat) (A : Option Addr) (l : List Int) : Prop := (Kd.int .i64).C w (fun b => b ≠ g2 ∧ b < w.heap.size) A l
theorem Told.new {w w1 : World} {g2 : Nat} {A : Option Addr} {l : List Int} (h : Told w g2 A l) {S : Nat → Prop} (hc : Chg S w w1) (hS : ∀ b, S b → b = g2) : Told w1 g2 A l :=
  Kd.C_mono (Kd.C_chg h hc (fun b hb hs => hb.1 (hS b hs))) (fun b hb => ⟨hb.1, Nat.lt_of_lt_of_le hb.2 hc.size⟩)
theorem PlaySt.ofD {w0 w w' : World} {g g2 : Nat} {ok : Nat → Prop} {ys : List Int} {k k1 k2 : Nat} (h : PlaySt w0 g g2 ok ys k k2 w) (hd : IsD w' (fun b => w0.heap.size ≤ b ∧ b ≠ g2) (some ⟨g, 0, none⟩) ys k1) (hc : Chg (fun b => w0.heap.size ≤ b ∧ b ≠ g2) w w') : PlaySt w0 g g2 ok ys k1 k2 w' := by
  have hd' : IsDraws w' (fun b => w0.heap.size ≤ b ∧ b ≠ g2) g ys k1 := by
    rcases hd with ⟨g', e, hd⟩ | ⟨e, _⟩
    · cases e; exact hd
    · cases e
  exact ⟨hd', h.r.chg hc (fun e => e.2 rfl) (fun b hb e => by have := h.okb b hb; have := e.1; omega), h.okb, h.hg2, h.chg.trans hc (fun b hb => .inr hb.1)⟩
theorem play_list {w0 w w' : World} {g g2 : Nat} {ok : Nat → Prop} {ys l : List Int} {k k1 k2 : Nat} {e : Ending} (h : PlaySt w0 g g2 ok ys k k2 w) (hp : ListPost w (fun b => w0.heap.size ≤ b ∧ b ≠ g2) (some ⟨g, 0, none⟩) ys l k1 e w') :
    ∃ A c, e = .returned (.slice A l.length c) ∧ PlaySt w0 g g2 ok ys k1 k2 w' ∧ Told w' g2 A l := by
  obtain ⟨A, c, he, hl, hC, hd, hc⟩ := hp
  exact ⟨A, c, he, h.ofD hd hc, Kd.C_mono (Kd.C_bound hC) (fun b hb => ⟨by have := h.r.lt; have := hb.1; omega, hb.2⟩)⟩
theorem play_order {w0 w : World} {g g2 : Nat} {ok : Nat → Prop} {ys : List Int} {k k2 : Nat} (h : PlaySt w0 g g2 ok ys k k2 w) (m : Int) :
    Calls Try.prog 13 #[.pointer (some ⟨g, 0, none⟩), .int .i64 m] w fun e w' => ∃ A c, e = .returned (.slice A (drawOrd ys k m).1.length c) ∧ PlaySt w0 g g2 ok ys (drawOrd ys k m).2 k2 w' ∧ Told w' g2 A (drawOrd ys k m).1 :=
  (d_order (.of h.d) m).mono fun e w' hp => play_list h hp.list
theorem play_some {w0 w : World} {g g2 : Nat} {ok : Nat → Prop} {ys : List Int} {k k2 : Nat} (h : PlaySt w0 g g2 ok ys k k2 w) (m q : Int) :
    Calls Try.prog 15 #[.pointer (some ⟨g, 0, none⟩), .int .i64 m, .int .i64 q] w fun e w' => ∃ A c, e = .returned (.slice A (drawSome ys k m q).1.length c) ∧ PlaySt w0 g g2 ok ys (drawSome ys k m q).2 k2 w' ∧ Told w' g2 A (drawSome ys k m q).1 :=
  (d_some (.of h.d) m q).mono fun e w' hp => play_list h hp
theorem play_rlist {w0 w w' : World} {g g2 : Nat} {ok : Nat → Prop} {ys l l0 : List Int} {k k1 k2 : Nat} {e : Ending} {A0 : Option Addr} (h : PlaySt w0 g g2 ok ys k k2 w) (h0 : Told w g2 A0 l0) (hp : RefPost w ok g2 ys l k1 e w') :
    ∃ A c, e = .returned (.slice A l.length c) ∧ PlaySt w0 g g2 ok ys k k1 w' ∧ Told w' g2 A0 l0 ∧ Told w' g2 A l := by
  obtain ⟨A, c, he, hl, hC, hd, hc⟩ := hp
  exact ⟨A, c, he, ⟨h.d.chg hc (fun b hb e => hb.2 e), hd, h.okb, h.hg2, h.chg.trans hc (fun b hb => .inr (hb ▸ h.hg2))⟩, h0.new hc (fun b hb => hb), Kd.C_mono (Kd.C_bound hC) (fun b hb => ⟨by have := h.r.lt; have := hb.1; omega, hb.2⟩)⟩
theorem play_rorder {w0 w : World} {g g2 : Nat} {ok : Nat → Prop} {ys l0 : List Int} {k k2 : Nat} {A0 : Option Addr} (h : PlaySt w0 g g2 ok ys k k2 w) (h0 : Told w g2 A0 l0) (m : Int) :
    Calls Try.prog 18 #[.pointer (some ⟨g2, 0, none⟩), .int .i64 m] w fun e w' => ∃ A c, e = .returned (.slice A (drawOrd ys k2 m).1.length c) ∧ PlaySt w0 g g2 ok ys k (drawOrd ys k2 m).2 w' ∧ Told w' g2 A0 l0 ∧ Told w' g2 A (drawOrd ys k2 m).1 :=
  (ref_order h.r (fun b hb => Nat.lt_of_lt_of_le (h.okb b hb) h.chg.size) m).mono fun e w' hp => play_rlist h h0 hp
theorem play_rsome {w0 w : World} {g g2 : Nat} {ok : Nat → Prop} {ys l0 : List Int} {k k2 : Nat} {A0 : Option Addr} (h : PlaySt w0 g g2 ok ys k k2 w) (h0 : Told w g2 A0 l0) (m q : Int) :
    Calls Try.prog 19 #[.pointer (some ⟨g2, 0, none⟩), .int .i64 m, .int .i64 q] w fun e w' => ∃ A c, e = .returned (.slice A (drawSome ys k2 m q).1.length c) ∧ PlaySt w0 g g2 ok ys k (drawSome ys k2 m q).2 w' ∧ Told w' g2 A0 l0 ∧ Told w' g2 A (drawSome ys k2 m q).1 :=
  (ref_some h.r (fun b hb => Nat.lt_of_lt_of_le (h.okb b hb) h.chg.size) m q).mono fun e w' hp => play_rlist h h0 hp
theorem play_same {w0 w : World} {g g2 : Nat} {ok : Nat → Prop} {ys l : List Int} {k k2 c d : Nat} {A B : Option Addr} (h : PlaySt w0 g g2 ok ys k k2 w) (hA : Told w g2 A l) (hB : Told w g2 B l) :
    Calls Try.prog 14 #[.slice A l.length c, .slice B l.length d] w fun e w' => e = .returned (.bool true) ∧ PlaySt w0 g g2 ok ys k k2 w' :=
  (same_true rfl hA hB).mono fun e w' ⟨he, hc⟩ => ⟨he, h.new hc⟩
/-- The reference's fields. -/
def RefCells (g2 : Nat) (L : Option Addr) (n lc k2 : Nat) (w : World) : Prop := w.cell? ⟨g2, 0, none⟩ = some (.slice L n lc) ∧ w.cell? ⟨g2, 1, none⟩ = some (.int .i64 k2)
theorem PlaySt.cells {w0 w : World} {g g2 : Nat} {ok : Nat → Prop} {ys : List Int} {k k2 : Nat} (h : PlaySt w0 g g2 ok ys k k2 w) : ∃ L lc, w.heap[g2]? = some (.cells #[.slice L ys.length lc, .int .i64 k2] 41 (0, 0)) := by
  obtain ⟨_, L, lc, h1, _⟩ := h.r
  exact ⟨L, lc, h1⟩
theorem block_cell0 {w : World} {g t : Nat} {a b : Value} (h : w.heap[g]? = some (.cells #[a, b] t (0, 0))) : w.cell? ⟨g, 0, none⟩ = some a ∧ w.cell? ⟨g, 1, none⟩ = some b :=
  ⟨by rw [cell_of_row w g 0 _ _ _ h]; rfl, by rw [cell_of_row w g 1 _ _ _ h]; rfl⟩
set_option maxRecDepth 100000 in
set_option maxHeartbeats 4000000 in
theorem drawPlays_walk {w : World} {A : Option Addr} {c : Nat} {xs : List Int} (h : (Kd.int .u32).C w (fun b => b < w.heap.size) A xs) (hc : xs.length ≤ c) (hb : ∀ x ∈ xs, 0 ≤ x ∧ x < 4294967296)
    {B : Option Addr} {cs : Nat} {ss : List (Int × Int × Int)} (hs : stepK.C w (fun b => b < w.heap.size) B ss) :
    Calls Try.prog 6 #[.slice A xs.length c, .slice B ss.length cs] w fun e w' => e = .returned (.bool true) ∧ Chg nob w w' := by
  go_enter Try.func6, Try.ntmps6
  go_wp2_with fail
  refine (draw_new h hc hb).mono ?_
  rintro e w1 ⟨g, rfl, hd, hc1⟩
  go_wp2_with fail
  refine (ref_new (Kd.C_new h hc1) (fun b hb => Nat.lt_of_lt_of_le hb hc1.size) hc hb).mono ?_
  rintro e w2 ⟨g2, rfl, hg2, hr, hc2⟩
  have h0 : PlaySt w g g2 (fun b => b < w.heap.size) (xs.take 4096) 0 0 w2 := ⟨((hd.bound).chg hc2 (fun b _ => not_nob b)).mono (fun b hb => ⟨hb.1, by omega⟩), hr, fun b hb => hb, Nat.le_trans hc1.size hg2, hc1.thenNew hc2⟩
  generalize xs.take 4096 = ys at h0
  have hsm := hs.small
  clear h hc hb hd hr hc1 hc2 hg2
  generalize hn : ss.length = n at *
  have HN := Lib.hid hn
  clear hn
  go_wp2
  go_loopw [7] (fun i wr => ∃ j : Nat, ∃ k : Nat, j ≤ n ∧ i = .int .i64 j ∧ PlaySt w g g2 (fun b => b < w.heap.size) ys k k wr) (fun i _ => n - (intOf i).toNat)
  case atStart => exact ⟨0, _, Nat.zero_le _, rfl, h0⟩
  case round =>
    obtain ⟨j, k, hj, rfl, hst⟩ := hrel
    clear h0
    by_cases hlt : j < n ∧ j < 60
    · obtain ⟨hl1, hl2⟩ := hlt
      obtain ⟨x, hx⟩ : ∃ x, ss[j]? = some x := ⟨_, List.getElem?_eq_getElem (by rw [HN.out]; exact hl1)⟩
      obtain ⟨sb, so, rfl, e0, e1, e2⟩ := stepK_at (Kd.C_new hs hst.chg) hx
      obtain ⟨x0, x1, x2⟩ := x
      have b1 : (0 : Int) ≤ (j : Int) := by omega
      have b2 : (j : Int) < (n : Int) := by omega
      simp only at e0 e1 e2
      have hst' := hst.drew
      have hkind : x0 = 0 ∨ x0 = 1 ∨ x0 = 2 ∨ (¬ x0 = 0 ∧ ¬ x0 = 1 ∧ ¬ x0 = 2) := by omega
      rcases hkind with rfl | rfl | rfl | ⟨k0, k1, k2⟩
      · go_wp2
        go_region_held3 (fun w' => w'.cell? ⟨sb, so + j * 3 + 1, none⟩ = some (.int .i64 x1)) (exact (play_cell hs hx (by assumption)).1)
          (first | (go_at_call 10; refine (play_below (by assumption) _).mono ?_; rintro e w' ⟨rfl, hq⟩) | (go_at_call 17; refine (play_rbelow (by assumption) _).mono ?_; rintro e w' ⟨rfl, hq⟩))
        go_wp2
        generalize k + drawAdv ys k x1 = k1 at hq
        have hle := hq.d.le
        have hw : IntKind.i64.wrap ((ys.length : Int) - (k1 : Int)) = (ys.length : Int) - (k1 : Int) := IntWalk.i64_in _ (by omega)
        have hst2 := hq.drew
        obtain ⟨L, lc, hL⟩ := hq.cells
        have hL2 : (World.drew _).heap[g2]? = some _ := hL
        go_region_held3 (fun w' => w'.cell? ⟨g2, 0, none⟩ = some (.slice L ys.length lc) ∧ w'.cell? ⟨g2, 1, none⟩ = some (.int .i64 (k1 : Int))) (exact block_cell0 (by assumption))
          (first | (go_at_call 11; refine (play_taken (by assumption) (by assumption)).mono ?_; rintro e w' ⟨rfl, hq3, hL3⟩) | (go_at_call 9; refine (play_left (by assumption) (by assumption)).mono ?_; rintro e w' ⟨rfl, hq3, hL3⟩))
        clear hw
        go_wp2
        exact ⟨⟨j + 1, k1, by omega, by go_num, hq3⟩, by simp [intOf]; omega⟩
      · go_wp2
        go_region_held3 (fun w' => w'.cell? ⟨sb, so + j * 3 + 1, none⟩ = some (.int .i64 x1)) (exact (play_cell hs hx (by assumption)).1)
          (first | (go_at_call 13; refine (play_order (by assumption) _).mono ?_; rintro e w' ⟨A1, c1, rfl, hq, hA⟩) | (go_at_call 18; refine (play_rorder (by assumption) (by assumption) _).mono ?_; rintro e w' ⟨B1, d1, rfl, hq, hA, hB⟩) | (go_at_call 14; refine (play_same (by assumption) (by assumption) (by assumption)).mono ?_; rintro e w' ⟨rfl, hq⟩))
        go_wp2
        generalize (drawOrd ys k x1).2 = k1 at hq
        have hle := hq.d.le
        have hw : IntKind.i64.wrap ((ys.length : Int) - (k1 : Int)) = (ys.length : Int) - (k1 : Int) := IntWalk.i64_in _ (by omega)
        have hst2 := hq.drew
        obtain ⟨L, lc, hL⟩ := hq.cells
        have hL2 : (World.drew _).heap[g2]? = some _ := hL
        go_region_held3 (fun w' => w'.cell? ⟨g2, 0, none⟩ = some (.slice L ys.length lc) ∧ w'.cell? ⟨g2, 1, none⟩ = some (.int .i64 (k1 : Int))) (exact block_cell0 (by assumption))
          (first | (go_at_call 11; refine (play_taken (by assumption) (by assumption)).mono ?_; rintro e w' ⟨rfl, hq3, hL3⟩) | (go_at_call 9; refine (play_left (by assumption) (by assumption)).mono ?_; rintro e w' ⟨rfl, hq3, hL3⟩))
        clear hw
        go_wp2
        exact ⟨⟨j + 1, k1, by omega, by go_num, hq3⟩, by simp [intOf]; omega⟩
      · go_wp2
        go_region_held3 (fun w' => w'.cell? ⟨sb, so + j * 3 + 1, none⟩ = some (.int .i64 x1) ∧ w'.cell? ⟨sb, so + j * 3 + 2, none⟩ = some (.int .i64 x2)) (exact (play_cell hs hx (by assumption)))
          (first | (go_at_call 15; refine (play_some (by assumption) _ _).mono ?_; rintro e w' ⟨A1, c1, rfl, hq, hA⟩) | (go_at_call 19; refine (play_rsome (by assumption) (by assumption) _ _).mono ?_; rintro e w' ⟨B1, d1, rfl, hq, hA, hB⟩) | (go_at_call 14; refine (play_same (by assumption) (by assumption) (by assumption)).mono ?_; rintro e w' ⟨rfl, hq⟩))
        go_wp2
        generalize (drawSome ys k x1 x2).2 = k1 at hq
        have hle := hq.d.le
        have hw : IntKind.i64.wrap ((ys.length : Int) - (k1 : Int)) = (ys.length : Int) - (k1 : Int) := IntWalk.i64_in _ (by omega)
        have hst2 := hq.drew
        obtain ⟨L, lc, hL⟩ := hq.cells
        have hL2 : (World.drew _).heap[g2]? = some _ := hL
        go_region_held3 (fun w' => w'.cell? ⟨g2, 0, none⟩ = some (.slice L ys.length lc) ∧ w'.cell? ⟨g2, 1, none⟩ = some (.int .i64 (k1 : Int))) (exact block_cell0 (by assumption))
          (first | (go_at_call 11; refine (play_taken (by assumption) (by assumption)).mono ?_; rintro e w' ⟨rfl, hq3, hL3⟩) | (go_at_call 9; refine (play_left (by assumption) (by assumption)).mono ?_; rintro e w' ⟨rfl, hq3, hL3⟩))
        clear hw
        go_wp2
        exact ⟨⟨j + 1, k1, by omega, by go_num, hq3⟩, by simp [intOf]; omega⟩
      · go_wp2
        have hq := hst
        generalize k = k1 at hq hst hst'
        have hle := hq.d.le
        have hw : IntKind.i64.wrap ((ys.length : Int) - (k1 : Int)) = (ys.length : Int) - (k1 : Int) := IntWalk.i64_in _ (by omega)
        have hst2 := hq.drew
        obtain ⟨L, lc, hL⟩ := hq.cells
        have hL2 : (World.drew _).heap[g2]? = some _ := hL
        go_region_held3 (fun w' => w'.cell? ⟨g2, 0, none⟩ = some (.slice L ys.length lc) ∧ w'.cell? ⟨g2, 1, none⟩ = some (.int .i64 (k1 : Int))) (exact block_cell0 (by assumption))
          (first | (go_at_call 11; refine (play_taken (by assumption) (by assumption)).mono ?_; rintro e w' ⟨rfl, hq3, hL3⟩) | (go_at_call 9; refine (play_left (by assumption) (by assumption)).mono ?_; rintro e w' ⟨rfl, hq3, hL3⟩))
        clear hw
        go_wp2
        exact ⟨⟨j + 1, k1, by omega, by go_num, hq3⟩, by simp [intOf]; omega⟩
    · by_cases h60 : j < 60
      · have hjn : ¬ j < n := fun h => hlt ⟨h, h60⟩
        go_wp2_with fail
        refine (draw_works wr).mono ?_
        rintro e w9 ⟨rfl, hc9⟩
        go_wp2
        go_ret
        exact ⟨rfl, hst.chg.thenNew hc9⟩
      · go_wp2_with fail
        all_goals
          refine (draw_works wr).mono ?_
          rintro e w9 ⟨rfl, hc9⟩
          go_wp2
          go_ret
          exact ⟨rfl, hst.chg.thenNew hc9⟩
end Go.Proofs.Ytmjdcbhjpbjihaa
