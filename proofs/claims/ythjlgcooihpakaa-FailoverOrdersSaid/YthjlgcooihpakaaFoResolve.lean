/- Failover: Resolve: the program's. -/
import Derived.Test.YthjlgcooihpakaaFoSpoken
import Derived.Test.YthjlgcooihpakaaRound
import Derived.Test.YthjlgcooihpakaaPick
import Derived.WalkMore
namespace Go.Proofs.Ythjlgcooihpakaa
open Go.RowKit
set_option linter.unusedVariables false
set_option linter.unusedSimpArgs false
attribute [local go_sem] Oper.semAt_some
theorem two_box2 (w : World) (u : Array Value) (t : TypeId) (v : Array Value) (t' : TypeId) : ((w.alloc (.cells u t)).alloc (.cells v t')).heap[w.heap.size]? = some (.cells u t (0, 0)) ∧ ((w.alloc (.cells u t)).alloc (.cells v t')).heap[w.heap.size + 1]? = some (.cells v t' (0, 0)) ∧ Chg nob w ((w.alloc (.cells u t)).alloc (.cells v t')) := by
  have h1 := ((Chg.refl nob (w.alloc (.cells u t))).alloc (.cells v t')).heap (heap_alloc_new w (.cells u t)) (not_nob _)
  have h2 := heap_alloc_new (w.alloc (.cells u t)) (.cells v t')
  rw [show (w.alloc (.cells u t)).heap.size = w.heap.size + 1 from by simp] at h2
  exact ⟨h1, h2, ((Chg.refl nob w).alloc _).alloc _⟩
theorem set_one {w : World} {g : Nat} {a u : Value} {t : TypeId} (h : w.heap[g]? = some (.cells #[a] t (0, 0))) : (w.setCell ⟨g, 0, none⟩ u).heap[g]? = some (.cells #[u] t (0, 0)) := by
  simp [World.setCell, Array.getElem?_modify, h]
theorem f_iterS {ub lx : Nat} {okT okL : Nat → Prop} {T : Option Addr} {tn tc : Nat} {ts : List ByteArray} {tag : ByteArray} {B : Option Addr} {ln lc D : Nat} {ls : List Ans} (hn : ts.length = tn) (hln : ls.length = ln) (htc : tn ≤ tc) (hokL : ∀ b, okL b → b < D) :
    Iter Try.prog 26 #[.pointer (some ⟨ub, 0, none⟩), .pointer (some ⟨lx, 0, none⟩)] (fun W => D ≤ W.heap.size ∧ SpkK ub lx okT okL T tn tc ts tag B ln lc ls W) (spkM okL ts tag ls) (spkL tag (ts.zip ls) 0).length := by
  intro l J Jx W hl hJ hJx hK hY h0
  exact f_spkY hn hln htc (fun b hb => Nat.lt_of_lt_of_le (hokL b hb) (hK 0 W h0).2.1) hJ (fun k X h => ⟨(hK k X h).1, (hK k X h).2.2⟩) hY h0
theorem f_spoken {w : World} {okT okL : Nat → Prop} {T B : Option Addr} {tn tc ln lc : Nat} {ts : List ByteArray} {tag : ByteArray} {ls : List Ans} {most : Int} (hT : strK.C w okT T ts) (hL : ansK.C w okL B ls) :
    Calls Try.prog 17 #[.agg #[.slice T tn tc, .string tag, .int .i64 most], .slice B ln lc] w fun e w' => ∃ ub lx, e = .returned (.func (.func 26) #[] #[.pointer (some ⟨ub, 0, none⟩), .pointer (some ⟨lx, 0, none⟩)]) ∧ Chg nob w w' ∧ w.heap.size ≤ ub ∧ ub < w'.heap.size ∧ w.heap.size ≤ lx ∧ lx < w'.heap.size ∧ SpkK ub lx okT okL T tn tc ts tag B ln lc ls w' := by
  have hb := two_box2 w #[.slice T tn tc, .string tag, .int .i64 most] 24 #[.slice B ln lc] 25
  obtain ⟨h1, h2, hc⟩ := hb
  have HC := Lib.hid hc
  have HK : Hid (SpkK w.heap.size (w.heap.size + 1) okT okL T tn tc ts tag B ln lc ls ((w.alloc (.cells #[.slice T tn tc, .string tag, .int .i64 most] 24)).alloc (.cells #[.slice B ln lc] 25))) :=
    ⟨by rw [cell_of_row _ _ _ _ _ _ h1]; rfl, by rw [cell_of_row _ _ _ _ _ _ h1]; rfl, by rw [cell_of_row _ _ _ _ _ _ h2]; rfl, Kd.C_new hT hc, Kd.C_new hL hc⟩
  clear h1 h2 hc hT hL
  go_enter Try.func17, Try.ntmps17
  go_wp2
  go_ret
  exact ⟨_, _, rfl, HC.out, Nat.le_refl _, by simp; omega, by omega, by simp, HK.out⟩
/-- The blocks of the call's own: u, l's, best, at. -/
structure ReSt (w : World) (u0 t6 t7 ub lx : Nat) (okT okL : Nat → Prop) (T : Option Addr) (tn tc : Nat) (ts : List ByteArray) (tag : ByteArray) (most : Int) (B : Option Addr) (ln lc : Nat) (ls : List Ans) (X : World) : Prop where
  kept : SpkK ub lx okT okL T tn tc ts tag B ln lc ls X
  u : X.cell? ⟨u0, 2, none⟩ = some (.int .i64 most)
  chg : Chg nob w X
/-- Nothing serves up to now. -/
def ReI (w : World) (u0 t6 t7 ub lx : Nat) (okT okL : Nat → Prop) (T : Option Addr) (tn tc : Nat) (ts : List ByteArray) (tag : ByteArray) (most : Int) (B : Option Addr) (ln lc : Nat) (ls : List Ans) (k : Nat) (X : World) : Prop :=
  ReSt w u0 t6 t7 ub lx okT okL T tn tc ts tag most B ln lc ls X ∧ X.heap[t6]? = some (.cells #[.slice none 0 0] 27 (0, 0)) ∧ X.heap[t7]? = some (.cells #[.int .i64 (-1)] 3 (0, 0)) ∧ ∀ p ∈ (spkL tag (ts.zip ls) 0).take k, p.2 = []
/-- What was found. -/
def ReX (D : Nat) (w : World) (u0 t6 t7 ub lx : Nat) (okT okL : Nat → Prop) (T : Option Addr) (tn tc : Nat) (ts : List ByteArray) (tag : ByteArray) (most : Int) (B : Option Addr) (ln lc : Nat) (ls : List Ans) (c : Code) (k : Nat) (X : World) : Prop :=
  c = .exit 0 ∧ ReSt w u0 t6 t7 ub lx okT okL T tn tc ts tag most B ln lc ls X ∧ ∃ (j k' : Nat) (g : List Svc) (A : Option Addr) (n c : Nat), (spkL tag (ts.zip ls) 0)[j]? = some (k', g) ∧ (∀ p ∈ (spkL tag (ts.zip ls) 0).take j, p.2 = []) ∧ g ≠ [] ∧ g.length = n ∧ n ≤ c ∧
    X.heap[t6]? = some (.cells #[.slice A n c] 27 (0, 0)) ∧ X.heap[t7]? = some (.cells #[.int .i64 k'] 3 (0, 0)) ∧ svcK.C X (fun b => okL b ∨ D + 2 ≤ b) A g
section
variable {D : Nat} {w X Y : World} {u0 t6 t7 ub lx : Nat} {okT okL : Nat → Prop} {T : Option Addr} {tn tc : Nat} {ts : List ByteArray} {tag : ByteArray} {most : Int} {B : Option Addr} {ln lc : Nat} {ls : List Ans} {k : Nat} {c : Code}
theorem ReSt.turn {S : Nat → Prop} (h : ReSt w u0 t6 t7 ub lx okT okL T tn tc ts tag most B ln lc ls X) (hc : Chg S X Y) (hS : ∀ b, S b → w.heap.size ≤ b ∧ b ≠ u0 ∧ b ≠ ub ∧ b ≠ lx ∧ ¬ okT b ∧ ¬ okL b) : ReSt w u0 t6 t7 ub lx okT okL T tn tc ts tag most B ln lc ls Y := by
  obtain ⟨⟨a0, a1, a2, a3, a4⟩, h2, h3⟩ := h
  exact ⟨⟨hc.cell a0 (fun e => (hS _ e).2.2.1 rfl), hc.cell a1 (fun e => (hS _ e).2.2.1 rfl), hc.cell a2 (fun e => (hS _ e).2.2.2.1 rfl), Kd.C_chg a3 hc (fun b hb e => (hS b e).2.2.2.2.1 hb), Kd.C_chg a4 hc (fun b hb e => (hS b e).2.2.2.2.2 hb)⟩, hc.cell h2 (fun e => (hS _ e).2.1 rfl), h3.trans hc (fun b hb => .inr (hS b hb).1)⟩
theorem ReI.turn {S : Nat → Prop} (h : ReI w u0 t6 t7 ub lx okT okL T tn tc ts tag most B ln lc ls k X) (hc : Chg S X Y) (hS : ∀ b, S b → w.heap.size ≤ b ∧ b ≠ u0 ∧ b ≠ ub ∧ b ≠ lx ∧ ¬ okT b ∧ ¬ okL b) (h6 : ¬ S t6) (h7 : ¬ S t7) : ReI w u0 t6 t7 ub lx okT okL T tn tc ts tag most B ln lc ls k Y :=
  ⟨h.1.turn hc hS, hc.heap h.2.1 h6, hc.heap h.2.2.1 h7, h.2.2.2⟩
theorem ReX.turn (h : ReX D w u0 t6 t7 ub lx okT okL T tn tc ts tag most B ln lc ls c k X) (hc : Chg (bookB D) X Y) (hS : ∀ b, bookB D b → w.heap.size ≤ b ∧ b ≠ u0 ∧ b ≠ ub ∧ b ≠ lx ∧ ¬ okT b ∧ ¬ okL b) (h6 : ¬ bookB D t6) (h7 : ¬ bookB D t7) : ReX D w u0 t6 t7 ub lx okT okL T tn tc ts tag most B ln lc ls c k Y := by
  obtain ⟨e, h1, j, k', g, A, n, c', a1, a2, a3, a4, a5, a6, a7, a8⟩ := h
  exact ⟨e, h1.turn hc hS, j, k', g, A, n, c', a1, a2, a3, a4, a5, hc.heap a6 h6, hc.heap a7 h7, Kd.C_chg a8 hc (fun b hb e => by rcases hb with hb | hb; exact (hS b e).2.2.2.2.2 hb; rcases e with e | e <;> omega)⟩
end
/-- What Resolve tells. -/
def resW (ts : List ByteArray) (tag : ByteArray) (most : Int) (ls : List Ans) : List Svc × Int := if upR ts tag most = true then resF ts tag most.toNat ls else ([], -1)
def ResPost (w : World) (R : List Svc × Int) (e : Ending) (w' : World) : Prop := ∃ A c, e = .returned (.tuple #[.slice A R.1.length c, .int .i64 R.2]) ∧ R.1.length ≤ c ∧ svcK.C w' (fun b => b < w'.heap.size) A R.1 ∧ Chg nob w w'
theorem fstL_none {most : Nat} : ∀ {l : List (Nat × List Svc)}, (∀ p ∈ l, p.2 = []) → fstL most l = ([], -1)
  | [], _ => rfl
  | (k, g) :: r, h => by
    have h1 : g = [] := h (k, g) (List.mem_cons_self ..)
    rw [fstL, if_pos h1]
    exact fstL_none (fun p hp => h p (List.mem_cons_of_mem _ hp))
theorem fstL_some {most : Nat} : ∀ {l : List (Nat × List Svc)} {j k : Nat} {g : List Svc}, l[j]? = some (k, g) → (∀ p ∈ l.take j, p.2 = []) → g ≠ [] → fstL most l = (g.take most, (k : Int))
  | [], j, k, g, h, _, _ => by simp at h
  | (k', g') :: r, 0, k, g, h, _, hg => by
    simp at h
    obtain ⟨rfl, rfl⟩ := h
    rw [fstL, if_neg hg]
  | (k', g') :: r, j + 1, k, g, h, hn, hg => by
    have h1 : g' = [] := hn (k', g') (by rw [List.take_succ_cons]; exact List.mem_cons_self ..)
    rw [fstL, if_pos h1]
    exact fstL_some (j := j) (by simpa using h) (fun p hp => hn p (by rw [List.take_succ_cons]; exact List.mem_cons_of_mem _ hp)) hg
theorem res_end {w X Y : World} {D : Nat} {ok : Nat → Prop} {l : List Svc} {k : Int} {A : Option Addr} {n c : Nat} (hn : l.length = n) (hc : Chg nob w X) (hD : w.heap.size ≤ D) (hDX : D < X.heap.size) (hk : ∀ b, ok b → b ≠ D) (hl : n ≤ c) (hR : svcK.R 58 Y X.heap.size (fun b => ok b ∨ X.heap.size ≤ b) (.slice A n c) l) (hY : Chg nob X Y) (o : Obj) : ResPost w (l, k) (.returned (.tuple #[.slice A n c, .int .i64 k])) (Y.putObj D o) := by
  subst hn
  have hp := chg_putObj Y D o
  have h1 := (Kd.R_read hR).1
  refine ⟨A, c, rfl, hl, ?_, (hc.thenNew hY).trans hp (fun b hb => .inr (by rw [hb]; exact hD))⟩
  exact Kd.C_mono (Kd.C_bound (Kd.C_chg h1 hp (fun b hb e => by
    rcases hb with hb | hb
    · exact hk b hb e
    · have e : b = D := e
      omega))) (fun b hb => hb.2)
set_option maxRecDepth 100000 in
set_option maxHeartbeats 4000000 in
theorem f_resolve {w : World} {okT okL : Nat → Prop} {T B : Option Addr} {tn tc ln lc : Nat} {ts : List ByteArray} {tag : ByteArray} {ls : List Ans} {most : Int} (hT : strK.C w okT T ts) (hL : ansK.C w okL B ls) (hn : ts.length = tn) (hln : ls.length = ln) (htc : tn ≤ tc) (hsz : ∀ s ∈ ts, s.size ≤ 9223372036854775807) (htg : tag.size ≤ 9223372036854775807) (hokT : ∀ b, okT b → b < w.heap.size) (hokL : ∀ b, okL b → b < w.heap.size) :
    Calls Try.prog 6 #[.agg #[.slice T tn tc, .string tag, .int .i64 most], .slice B ln lc] w (ResPost w (resW ts tag most ls)) := by
  obtain ⟨w1, hw1⟩ : ∃ w1, w1 = w.alloc (.cells #[.slice T tn tc, .string tag, .int .i64 most] 24) := ⟨_, rfl⟩
  have hc1 : Chg nob w w1 := by rw [hw1]; exact (Chg.refl nob w).alloc _
  have hb := heap_alloc_new w (.cells #[.slice T tn tc, .string tag, .int .i64 most] 24)
  rw [← hw1] at hb
  have hs1 : w1.heap.size = w.heap.size + 1 := by rw [hw1]; simp
  have q0 : w1.cell? ⟨w.heap.size, 0, none⟩ = some (.slice T tn tc) := by rw [cell_of_row _ _ _ _ _ _ hb]; rfl
  have q1 : w1.cell? ⟨w.heap.size, 1, none⟩ = some (.string tag) := by rw [cell_of_row _ _ _ _ _ _ hb]; rfl
  have q2 : w1.cell? ⟨w.heap.size, 2, none⟩ = some (.int .i64 most) := by rw [cell_of_row _ _ _ _ _ _ hb]; rfl
  have HC1 := Lib.hid hc1
  have HB := Lib.hid hb
  have HW1 := Lib.hid hw1
  have HS1 := Lib.hid hs1
  have HT := Lib.hid hT
  have HL := Lib.hid hL
  have HN := Lib.hid hn
  have HLN := Lib.hid hln
  have HSZ := Lib.hid hsz
  have HOT := Lib.hid hokT
  have HOL := Lib.hid hokL
  clear hb hc1 hw1 hs1 hT hL hn hln hsz hokT hokL
  refine calls_of_wp_marks Try.func6 rfl ?_
  simp only [Try.ntmps6, List.size_toArray, List.length_cons, List.length_nil, Nat.reduceAdd, Nat.reduceSub, Array.replicate_succ, Array.replicate_zero, List.push_toArray, List.append_toArray, List.nil_append, List.cons_append]
  go_wp2_with fail
  rw [← HW1.out]
  go_step3
  go_wp2_with fail
  refine (f_right (Kd.C_new HT.out HC1.out) HN.out htc HSZ.out htg).mono ?_
  rintro e w2 ⟨rfl, hc2⟩
  obtain ⟨q, hq⟩ : ∃ q, upR ts tag most = q := ⟨_, rfl⟩
  rw [hq]
  have HQ := Lib.hid hq
  have HC2 := Lib.hid (HC1.out.thenNew hc2)
  have HB2 := Lib.hid (hc2.heap HB.out (not_nob _))
  have hs2 := hc2.size
  clear hq hc2 q0 q1 q2
  cases q with
  | false =>
    have HR : Hid (resW ts tag most ls = ([], -1)) := if_neg (by rw [HQ.out]; decide)
    go_wp2
    refine marks_ret ?_
    go_ret2
    rw [HR.out]
    exact ⟨none, 0, rfl, Nat.le_refl _, Kd.C_nil _ _ _ _, HC2.out⟩
  | true =>
    have HR : Hid (resW ts tag most ls = resF ts tag most.toNat ls) := if_pos HQ.out
    have hu := of_decide_eq_true HQ.out
    obtain ⟨m, hm⟩ : ∃ m : Nat, most = m := ⟨most.toNat, by omega⟩
    have hm1 : 1 ≤ m := by omega
    have hm16 : m ≤ 16 := by omega
    subst hm
    clear hu
    have hb6 := two_box2 w2 #[.slice none 0 0] 27 #[.int .i64 (-1)] 3
    obtain ⟨w4, hw4⟩ : ∃ w4, w4 = (w2.alloc (.cells #[.slice none 0 0] 27)).alloc (.cells #[.int .i64 (-1)] 3) := ⟨_, rfl⟩
    rw [← hw4] at hb6
    obtain ⟨h6, h7, hc4⟩ := hb6
    have hs4 : w4.heap.size = w2.heap.size + 2 := by rw [hw4]; simp
    have HW4 := Lib.hid hw4
    have HS4 := Lib.hid hs4
    have HB6 := Lib.hid h6
    have HB7 := Lib.hid h7
    have HC4 := Lib.hid (HC2.out.thenNew hc4)
    have HB4 := Lib.hid (hc4.heap HB2.out (not_nob _))
    clear h6 h7 hc4 hw4 hs4
    go_wp2
    rw [← HW4.out]
    have q0 : w4.cell? ⟨w.heap.size, 0, none⟩ = some (.slice T tn tc) := by rw [cell_of_row _ _ _ _ _ _ HB4.out]; rfl
    have q1 : w4.cell? ⟨w.heap.size, 1, none⟩ = some (.string tag) := by rw [cell_of_row _ _ _ _ _ _ HB4.out]; rfl
    have q2 : w4.cell? ⟨w.heap.size, 2, none⟩ = some (.int .i64 m) := by rw [cell_of_row _ _ _ _ _ _ HB4.out]; rfl
    go_step3
    go_wp2_with fail
    refine (f_spoken (tn := tn) (tc := tc) (tag := tag) (ln := ln) (lc := lc) (Kd.C_new HT.out HC4.out) (Kd.C_new HL.out HC4.out)).mono ?_
    rintro e w5 ⟨ub, lx, rfl, hc5, hub1, hub2, hlx1, hlx2, hk5⟩
    have HC5 := Lib.hid (HC4.out.thenNew hc5)
    have H56 := Lib.hid (hc5.heap HB6.out (not_nob _))
    have H57 := Lib.hid (hc5.heap HB7.out (not_nob _))
    have H5U := Lib.hid (hc5.cell q2 (not_nob _))
    have HK5 := Lib.hid hk5
    have hs5 := hc5.size
    have hs4 := HS4.out
    have hs1 := HS1.out
    obtain ⟨D, hD⟩ : ∃ D, w5.heap.size = D := ⟨_, rfl⟩
    have HBK : Hid (∀ b, bookB D b → w.heap.size ≤ b ∧ b ≠ w.heap.size ∧ b ≠ ub ∧ b ≠ lx ∧ ¬ okT b ∧ ¬ okL b) := fun b hb => by
      have hb2 : D ≤ b := by rcases hb with h | h <;> omega
      exact ⟨by omega, by omega, by omega, by omega, fun h => by have := HOT.out b h; omega, fun h => by have := HOL.out b h; omega⟩
    have HB6N : Hid (¬ bookB D w2.heap.size) := fun hb => by rcases hb with h | h <;> omega
    have HB7N : Hid (¬ bookB D (w2.heap.size + 1)) := fun hb => by rcases hb with h | h <;> omega
    have HDD := Lib.hid hD
    clear hc5 hk5 q0 q1 q2 hD
    go_wp2
    refine wp_range (gf := 26) (lb := #[.pointer (some ⟨ub, 0, none⟩), .pointer (some ⟨lx, 0, none⟩)]) rfl (enters_of Try.func26 (by kernel_rfl) rfl) (f_iterS (ub := ub) (lx := lx) (okT := okT) (okL := okL) (T := T) (tn := tn) (tc := tc) (ts := ts) (tag := tag) (B := B) (ln := ln) (lc := lc) (D := w.heap.size) (ls := ls) HN.out HLN.out htc HOL.out) ?_
      (ReI w w.heap.size w2.heap.size (w2.heap.size + 1) ub lx okT okL T tn tc ts tag m B ln lc ls) (ReX D w w.heap.size w2.heap.size (w2.heap.size + 1) ub lx okT okL T tn tc ts tag m B ln lc ls) ?_ ?_ (fun k X h => ⟨h.1.chg.size, h.1.kept⟩) ?_ ?_ ?_ ?_
    · rintro B k args W ⟨k', g, A, n, c, _, rfl, _⟩
      rfl
    · intro k X Y h hc
      rw [HDD.out] at hc
      exact h.turn hc HBK.out HB6N.out HB7N.out
    · intro c k X Y h hc
      rw [HDD.out] at hc
      exact h.turn hc HBK.out HB6N.out HB7N.out
    · intro Y hc hs
      exact ⟨⟨HK5.out.new hc, hc.cell H5U.out (not_nob _), HC5.out.thenNew hc⟩, hc.heap H56.out (not_nob _), hc.heap H57.out (not_nob _), by simp⟩
    · intro k args X0 X hk hI0 hs0 hcX hI hMM
      obtain ⟨k', g, A, n, c, g1, rfl, g3, g4, g5⟩ := hMM
      have HI := Lib.hid hI
      have HG1 := Lib.hid g1
      have HG3 := Lib.hid g3
      have HG5 := Lib.hid g5
      have hsX := hcX.size
      rw [HDD.out] at hs0 ⊢
      have hgsm := g5.small
      rw [g3] at hgsm
      clear hI0 hcX hI g1 g3 g5
      gi_wp2
      refine ⟨HoldB.chg (Chg.refl nob X) (by omega) (fun b hb => (not_nob b hb).elim), ?_⟩
      intro Y hcB hsB
      have HIY := Lib.hid (HI.out.turn hcB HBK.out HB6N.out HB7N.out)
      have HGY := Lib.hid (Kd.C_chg HG5.out hcB (fun b hb e => by rcases hb with hb | hb; exact (HBK.out b e).2.2.2.2.2 hb; rcases e with e | e <;> omega))
      have h6 := HIY.out.2.1
      have h7 := HIY.out.2.2.1
      have p6 : Y.cell? ⟨w2.heap.size, 0, none⟩ = some (.slice none 0 0) := by rw [cell_of_row _ _ _ _ _ _ h6]; rfl
      have p7 : Y.cell? ⟨w2.heap.size + 1, 0, none⟩ = some (.int .i64 (-1)) := by rw [cell_of_row _ _ _ _ _ _ h7]; rfl
      have f6 : Y.frozen? ⟨w2.heap.size, 0, none⟩ = false := by simp [World.frozen?, h6]
      have f7 : Y.frozen? ⟨w2.heap.size + 1, 0, none⟩ = false := by simp [World.frozen?, h7]
      have HB6Y := Lib.hid h6
      have HB7Y := Lib.hid h7
      have HSB := Lib.hid hsB
      have HCB := Lib.hid hcB
      clear h6 h7 hsB hcB
      by_cases hn0 : 0 < n
      · have b1 : (0 : Int) < (n : Int) := by omega
        have hcc : Chg (fun b => b = w2.heap.size ∨ b = w2.heap.size + 1) Y ((Y.setCell ⟨w2.heap.size, 0, none⟩ (.slice A n c)).setCell ⟨w2.heap.size + 1, 0, none⟩ (.int .i64 k')) := ((Chg.refl _ Y).setCell (p := ⟨w2.heap.size, 0, none⟩) (.inl (.inl rfl)) _).setCell (p := ⟨w2.heap.size + 1, 0, none⟩) (.inl (.inr rfl)) _
        have HCC := Lib.hid hcc
        have HE6 : Hid (((Y.setCell ⟨w2.heap.size, 0, none⟩ (.slice A n c)).setCell ⟨w2.heap.size + 1, 0, none⟩ (.int .i64 k')).heap[w2.heap.size]? = some (.cells #[.slice A n c] 27 (0, 0))) := by
          show _ = _
          rw [Below.heap_setCell _ _ _ _ (by simp)]
          exact set_one HB6Y.out
        have HE7 : Hid (((Y.setCell ⟨w2.heap.size, 0, none⟩ (.slice A n c)).setCell ⟨w2.heap.size + 1, 0, none⟩ (.int .i64 k')).heap[w2.heap.size + 1]? = some (.cells #[.int .i64 k'] 3 (0, 0))) := by
          show _ = _
          exact set_one ((Below.heap_setCell _ _ _ _ (by simp)).trans HB7Y.out)
        clear hcc
        gi_wp2
        refine ⟨HoldB.chg HCC.out (by have := HSB.out; omega) (fun b hb e => by rcases hb with rfl | rfl; exact HB6N.out e; exact HB7N.out e), rfl, HIY.out.1.turn HCC.out (fun b hb => ?_), k, k', g, A, n, c, HG1.out, HIY.out.2.2.2, ?_, HG3.out, g4, HE6.out, HE7.out, Kd.C_chg (Kd.C_mono HGY.out (fun b hb => ?_)) HCC.out (fun b hb e => ?_)⟩
        · have h1 := HC2.out.size
          rcases hb with rfl | rfl
          · exact ⟨by omega, by omega, by omega, by omega, fun h => by have := HOT.out _ h; omega, fun h => by have := HOL.out _ h; omega⟩
          · exact ⟨by omega, by omega, by omega, by omega, fun h => by have := HOT.out _ h; omega, fun h => by have := HOL.out _ h; omega⟩
        · intro e
          have := HG3.out
          rw [e] at this
          simp at this
          omega
        · rcases hb with hb | hb
          · exact .inl hb
          · exact .inr (by omega)
        · rcases hb with hb | hb
          · have h1 := HOL.out b hb
            have h2 := HC2.out.size
            rcases e with e | e
            · have e : b = w2.heap.size := e
              omega
            · have e : b = w2.heap.size + 1 := e
              omega
          · have h3 := HDD.out
            rcases e with e | e
            · have e : b = w2.heap.size := e
              omega
            · have e : b = w2.heap.size + 1 := e
              omega
      · have b1 : ¬ (0 : Int) < (n : Int) := by omega
        gi_wp2
        refine ⟨HoldB.chg (Chg.refl nob Y) (by have := HSB.out; omega) (fun b hb e => hb.elim), HIY.out.1, HIY.out.2.1, HIY.out.2.2.1, ?_⟩
        intro p hp
        rw [List.take_add_one, HG1.out, List.mem_append] at hp
        rcases hp with hp | hp
        · exact HIY.out.2.2.2 p hp
        · simp at hp
          rw [hp]
          exact List.eq_nil_of_length_eq_zero (by rw [HG3.out]; omega)
    · intro X hI hdf
      have HDF := Lib.hid hdf
      have HCX := Lib.hid hI.1.chg
      have HF : Hid (resF ts tag m ls = ([], -1)) := fstL_none (fun p hp => hI.2.2.2 p (by rw [List.take_of_length_le (Nat.le_refl _)]; exact hp))
      have p6 : X.cell? ⟨w2.heap.size, 0, none⟩ = some (.slice none 0 0) := by rw [cell_of_row _ _ _ _ _ _ hI.2.1]; rfl
      have p7 : X.cell? ⟨w2.heap.size + 1, 0, none⟩ = some (.int .i64 (-1)) := by rw [cell_of_row _ _ _ _ _ _ hI.2.2.1]; rfl
      have P6 := Lib.hid p6
      have P7 := Lib.hid p7
      have PU := Lib.hid hI.1.u
      have hmin : min (m : Int) 0 = 0 := by omega
      have hdr := (Chg.refl nob X).drew
      have HOW : Hid (∀ wx, Chg nob X wx → Calls Try.prog 18 #[.slice none 0 0] wx (fun e w' => ∃ A c, e = .returned (.slice A 0 c) ∧ svcK.R 58 w' X.heap.size (fun b => False ∨ X.heap.size ≤ b) (.slice A 0 c) [] ∧ Chg nob X w')) := by
        intro wx hx
        refine (f_own (ok := fun _ => False) (n := 0) (c := 0) (Kd.C_nil svcK wx (fun _ => False) none) rfl (by decide)).mono ?_
        rintro e w' ⟨A, c, rfl, hl, hR, hc⟩
        exact ⟨A, c, rfl, Kd.R_mono (Kd.R_lower hR hx.size) (fun b hb => by rcases hb with hb | hb; exact .inl hb; exact .inr (Nat.le_trans hx.size hb)), hx.thenNew hc⟩
      clear hI hdf p6 p7
      go_wp2
      have h0m : (0 : Int) < (m : Int) := by omega
      have hmn : ∀ ts t wx, (Builtin.min_ ts t #[.int .i64 (m : Int), .int .i64 0]).run Try.prog wx = .ok (.int .i64 0) wx := fun ts t wx => by rw [run_min_int2, if_pos h0m]
      have hsl : ∀ wx, (Instr.slice 27 (.slice none 0 0) none (some (.int .i64 0)) none).run Try.prog wx = .ok (.slice none 0 0) wx := fun _ => by kernel_rfl
      clear hmin
      go_region_held3 (fun w' => w'.cell? ⟨w2.heap.size, 0, none⟩ = some (.slice none 0 0) ∧ w'.cell? ⟨w.heap.size, 2, none⟩ = some (.int .i64 m) ∧ w'.cell? ⟨w2.heap.size + 1, 0, none⟩ = some (.int .i64 (-1))) (exact ⟨Chg.cell (by assumption) P6.out (not_nob _), Chg.cell (by assumption) PU.out (not_nob _), Chg.cell (by assumption) P7.out (not_nob _)⟩)
        (first | (go_at_call 18; refine (HOW.out _ (by assumption)).mono ?_; rintro e w' ⟨A1, c1, rfl, hR1, hq⟩))
      all_goals
        have HD2 := Lib.hid (hq.heap HDF.out (not_nob _))
        have HP := Lib.hid (res_end (w := w) (D := D) (l := []) (n := 0) (k := -1) (ok := fun _ => False) rfl HCX.out (by have := HDD.out; have := HC5.out.size; omega) (by have := heap_lt HDF.out; have := HDD.out; omega) (fun b h => h.elim) (Nat.zero_le c1) hR1 hq (.deferred none))
        have hdd := HDD.out
        rw [hdd] at HD2 ⊢
        clear hR1 hq
        go_wp2
        rw [Exit.noGoto_ret]
        refine marks_ret1 HD2.out ?_
        go_ret2
        rw [HR.out, show ((m : Int).toNat) = m from rfl, HF.out]
        exact HP.out
    · intro c k X hk hX hdf
      obtain ⟨rfl, hI, j, k', g, A, n, c, a1, a2, a3, a4, a5, a6, a7, a8⟩ := hX
      obtain ⟨ad, rfl⟩ : ∃ ad, A = some ad := by
        obtain ⟨_, inner, _, hc⟩ := a8
        obtain ⟨ad, e, _⟩ := hc (List.length_pos_iff.2 a3)
        exact ⟨ad, e⟩
      have HDF := Lib.hid hdf
      have HCX := Lib.hid hI.chg
      have HF : Hid (resF ts tag m ls = (g.take m, (k' : Int))) := fstL_some a1 a2 a3
      have p6 : X.cell? ⟨w2.heap.size, 0, none⟩ = some (.slice (some ad) n c) := by rw [cell_of_row _ _ _ _ _ _ a6]; rfl
      have p7 : X.cell? ⟨w2.heap.size + 1, 0, none⟩ = some (.int .i64 k') := by rw [cell_of_row _ _ _ _ _ _ a7]; rfl
      have P6 := Lib.hid p6
      have P7 := Lib.hid p7
      have PU := Lib.hid hI.u
      have hgs := a8.small
      rw [a4] at hgs
      rcases Nat.lt_or_ge n m with hcs | hcs
      · have hca : (n : Int) < (m : Int) := by omega
        have hcb : ¬ (m : Int) ≤ (n : Int) := by omega
        have hmm : min (m : Int) (n : Int) = n := by omega
        have hmn : n ≤ n := Nat.le_refl _
        have hmc : n ≤ c := a5
        have hgl : (g.take n).length = n := by simp; omega
        have hge : g.take m = g.take n := by rw [List.take_of_length_le (by omega), List.take_of_length_le (by omega)]
        try rw [hge] at HF
        have HGL := Lib.hid hgl
        have HG8 := Lib.hid (Kd.C_take a8 n (by omega))
        have hdr := (Chg.refl nob X).drew
        have b7 : (0 : Int) ≤ (n : Int) := by omega
        have b8 : (n : Int) ≤ (c : Int) := by omega
        have HOW : Hid (∀ wx, Chg nob X wx → Calls Try.prog 18 #[.slice (some ad) n c] wx (fun e w' => ∃ A c, e = .returned (.slice A n c) ∧ n ≤ c ∧ svcK.R 58 w' X.heap.size (fun b => (okL b ∨ D + 2 ≤ b) ∨ X.heap.size ≤ b) (.slice A n c) (g.take n) ∧ Chg nob X w')) := by
          intro wx hx
          refine (f_own (ok := fun b => okL b ∨ D + 2 ≤ b) (n := n) (c := c) (Kd.C_new HG8.out hx) HGL.out (by omega)).mono ?_
          rintro e w' ⟨A, c, rfl, hl, hR, hc⟩
          rw [HGL.out] at hl hR ⊢
          exact ⟨A, c, rfl, hl, Kd.R_mono (Kd.R_lower hR hx.size) (fun b hb => by rcases hb with hb | hb; exact .inl hb; exact .inr (Nat.le_trans hx.size hb)), hx.thenNew hc⟩
        clear hI hdf p6 p7 a1 a2 a3 a4 a6 a7 a8 hgl hge
        go_wp2
        try have hcd : ¬ (n : Int) < (m : Int) := by omega
        go_region_held3 (fun w' => w'.cell? ⟨w2.heap.size, 0, none⟩ = some (.slice (some ad) n c) ∧ w'.cell? ⟨w.heap.size, 2, none⟩ = some (.int .i64 m) ∧ w'.cell? ⟨w2.heap.size + 1, 0, none⟩ = some (.int .i64 k')) (exact ⟨Chg.cell (by assumption) P6.out (not_nob _), Chg.cell (by assumption) PU.out (not_nob _), Chg.cell (by assumption) P7.out (not_nob _)⟩)
          (first | (go_at_call 18; refine (HOW.out _ (by assumption)).mono ?_; rintro e w' ⟨A1, c1, rfl, hl1, hR1, hq⟩))
        all_goals
          have HD2 := Lib.hid (hq.heap HDF.out (not_nob _))
          have HP := Lib.hid (res_end (w := w) (D := D) (k := k') (ok := fun b => okL b ∨ D + 2 ≤ b) HGL.out HCX.out (by have := HDD.out; have := HC5.out.size; omega) (by have := heap_lt HDF.out; have := HDD.out; omega) (fun b h => by have := HDD.out; have := HC5.out.size; rcases h with h | h; (have := HOL.out b h; omega); omega) hl1 hR1 hq (.deferred none))
          have hdd := HDD.out
          rw [hdd] at HD2 ⊢
          clear hR1 hq hmm
          go_wp2
          rw [Exit.noGoto_ret]
          refine marks_ret1 HD2.out ?_
          go_ret2
          rw [HR.out, show ((m : Int).toNat) = m from rfl, HF.out]
          exact HP.out
      · have hca : (m : Int) ≤ (n : Int) := by omega
        have hcb : ¬ (n : Int) < (m : Int) := by omega
        have hmm : min (m : Int) (n : Int) = m := by omega
        have hmn : m ≤ n := hcs
        have hmc : m ≤ c := by omega
        have hgl : (g.take m).length = m := by simp; omega
        have hge : g.take m = g.take m := rfl
        try rw [hge] at HF
        have HGL := Lib.hid hgl
        have HG8 := Lib.hid (Kd.C_take a8 m (by omega))
        have hdr := (Chg.refl nob X).drew
        have b7 : (0 : Int) ≤ (m : Int) := by omega
        have b8 : (m : Int) ≤ (c : Int) := by omega
        have HOW : Hid (∀ wx, Chg nob X wx → Calls Try.prog 18 #[.slice (some ad) m c] wx (fun e w' => ∃ A c, e = .returned (.slice A m c) ∧ m ≤ c ∧ svcK.R 58 w' X.heap.size (fun b => (okL b ∨ D + 2 ≤ b) ∨ X.heap.size ≤ b) (.slice A m c) (g.take m) ∧ Chg nob X w')) := by
          intro wx hx
          refine (f_own (ok := fun b => okL b ∨ D + 2 ≤ b) (n := m) (c := c) (Kd.C_new HG8.out hx) HGL.out (by omega)).mono ?_
          rintro e w' ⟨A, c, rfl, hl, hR, hc⟩
          rw [HGL.out] at hl hR ⊢
          exact ⟨A, c, rfl, hl, Kd.R_mono (Kd.R_lower hR hx.size) (fun b hb => by rcases hb with hb | hb; exact .inl hb; exact .inr (Nat.le_trans hx.size hb)), hx.thenNew hc⟩
        clear hI hdf p6 p7 a1 a2 a3 a4 a6 a7 a8 hgl hge
        go_wp2
        try have hcd : ¬ (n : Int) < (m : Int) := by omega
        go_region_held3 (fun w' => w'.cell? ⟨w2.heap.size, 0, none⟩ = some (.slice (some ad) n c) ∧ w'.cell? ⟨w.heap.size, 2, none⟩ = some (.int .i64 m) ∧ w'.cell? ⟨w2.heap.size + 1, 0, none⟩ = some (.int .i64 k')) (exact ⟨Chg.cell (by assumption) P6.out (not_nob _), Chg.cell (by assumption) PU.out (not_nob _), Chg.cell (by assumption) P7.out (not_nob _)⟩)
          (first | (go_at_call 18; refine (HOW.out _ (by assumption)).mono ?_; rintro e w' ⟨A1, c1, rfl, hl1, hR1, hq⟩))
        all_goals
          have HD2 := Lib.hid (hq.heap HDF.out (not_nob _))
          have HP := Lib.hid (res_end (w := w) (D := D) (k := k') (ok := fun b => okL b ∨ D + 2 ≤ b) HGL.out HCX.out (by have := HDD.out; have := HC5.out.size; omega) (by have := heap_lt HDF.out; have := HDD.out; omega) (fun b h => by have := HDD.out; have := HC5.out.size; rcases h with h | h; (have := HOL.out b h; omega); omega) hl1 hR1 hq (.deferred none))
          have hdd := HDD.out
          rw [hdd] at HD2 ⊢
          clear hR1 hq hmm
          go_wp2
          rw [Exit.noGoto_ret]
          refine marks_ret1 HD2.out ?_
          go_ret2
          rw [HR.out, show ((m : Int).toNat) = m from rfl, HF.out]
          exact HP.out
end Go.Proofs.Ythjlgcooihpakaa
