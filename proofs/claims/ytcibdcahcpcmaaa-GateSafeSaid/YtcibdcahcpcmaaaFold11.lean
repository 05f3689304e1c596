import Derived.Test.YtcibdcahcpcmaaaFold10
/- Intentions: what the program's Choose answers. -/
namespace Go.Proofs.Ytcibdcahcpcmaaa
open Go.RowKit
set_option linter.unusedVariables false
set_option linter.unusedSimpArgs false
set_option maxRecDepth 100000
attribute [local go_sem] Oper.semAt_some
theorem blk_set1 {w : World} {g t : Nat} {cs : Array Value} {fr : Nat × Nat} (h : w.heap[g]? = some (.cells cs t fr)) (j : Nat) (u : Value) : (w.setCell ⟨g, j, none⟩ u).heap[g]? = some (.cells (cs.setIfInBounds j u) t fr) := by
  simp [World.setCell, Array.getElem?_modify, h]
theorem book_lt {D b : Nat} (h : bookB D b) : D ≤ b ∧ b < D + 2 := by rcases h with rfl | rfl <;> omega
/-- The best of the first J that speak. -/
def BestTo (l : List Itn) (src dst : ByteArray) (J : Nat) (at_ best : Int) : Prop :=
  ((∀ (j : Nat) (x : Itn), j < J → l[j]? = some x → speaksB src dst x = false) ∧ at_ = -1 ∧ best = -1) ∨
  ∃ (k : Nat) (i : Itn), at_ = k ∧ best = rankN i ∧ l[k]? = some i ∧ k < J ∧ speaksB src dst i = true ∧ (∀ (j : Nat) (x : Itn), j < J → l[j]? = some x → speaksB src dst x = true → rankN x ≤ rankN i) ∧ ∀ (j : Nat) (x : Itn), j < k → l[j]? = some x → speaksB src dst x = true → rankN x < rankN i
theorem BestTo.more {l : List Itn} {src dst : ByteArray} {J J' : Nat} {a b : Int} (h : BestTo l src dst J a b) (hJ : J ≤ J') (hk : spK src dst l J = spK src dst l J') : BestTo l src dst J' a b := by
  rcases h with ⟨h1, h2, h3⟩ | ⟨k, i, h1, h2, h3, h4, h5, h6, h7⟩
  · refine .inl ⟨fun j x hj hx => ?_, h2, h3⟩
    by_cases hjJ : j < J
    · exact h1 j x hjJ hx
    · exact spK_between hk (by omega) hj hx
  · refine .inr ⟨k, i, h1, h2, h3, by omega, h5, fun j x hj hx hs => ?_, h7⟩
    by_cases hjJ : j < J
    · exact h6 j x hjJ hx hs
    · rw [spK_between hk (by omega) hj hx] at hs; cases hs
theorem BestTo.worse {l : List Itn} {src dst : ByteArray} {j : Nat} {x : Itn} {a b : Int} (h : BestTo l src dst j a b) (hx : l[j]? = some x) (hs : speaksB src dst x = true) (hr : ¬ b < rankN x) : BestTo l src dst (j + 1) a b := by
  rcases h with ⟨h1, h2, h3⟩ | ⟨k, i, h1, h2, h3, h4, h5, h6, h7⟩
  · omega
  · refine .inr ⟨k, i, h1, h2, h3, by omega, h5, fun i' y hi hy hsy => ?_, h7⟩
    by_cases hij : i' < j
    · exact h6 i' y hij hy hsy
    · obtain rfl : i' = j := by omega
      rw [hx] at hy
      cases hy
      omega
theorem BestTo.better {l : List Itn} {src dst : ByteArray} {j : Nat} {x : Itn} {a b : Int} (h : BestTo l src dst j a b) (hx : l[j]? = some x) (hs : speaksB src dst x = true) (hr : b < rankN x) : BestTo l src dst (j + 1) j (rankN x) := by
  refine .inr ⟨j, x, rfl, rfl, hx, by omega, hs, fun i' y hi hy hsy => ?_, fun i' y hi hy hsy => ?_⟩
  · by_cases hij : i' < j
    · rcases h with ⟨h1, h2, h3⟩ | ⟨k, i, h1, h2, h3, h4, h5, h6, h7⟩
      · rw [h1 i' y hij hy] at hsy; cases hsy
      · have := h6 i' y hij hy hsy; omega
    · obtain rfl : i' = j := by omega
      rw [hx] at hy
      cases hy
      exact Nat.le_refl _
  · rcases h with ⟨h1, h2, h3⟩ | ⟨k, i, h1, h2, h3, h4, h5, h6, h7⟩
    · rw [h1 i' y hi hy] at hsy; cases hsy
    · have := h6 i' y hi hy hsy; omega
theorem BestTo.bd {l : List Itn} {src dst : ByteArray} {J : Nat} {a b : Int} (h : BestTo l src dst J a b) : -1 ≤ b ∧ b ≤ 3 ∧ -1 ≤ a := by
  rcases h with ⟨h1, h2, h3⟩ | ⟨k, i, h1, h2, h3, h4, h5, h6, h7⟩
  · omega
  · have := rank_le i; omega
theorem BestTo.told {l : List Itn} {src dst : ByteArray} {n : Nat} {a b : Int} (h : BestTo l src dst n a b) (hn : l.length = n) : (a = -1 ∧ noneSpeak l src dst) ∨ ∃ (k : Nat) (i : Itn), a = k ∧ k < n ∧ IsBest l src dst k i := by
  rcases h with ⟨h1, h2, h3⟩ | ⟨k, i, h1, h2, h3, h4, h5, h6, h7⟩
  · exact .inl ⟨h2, fun j x hx => h1 j x (by rw [← hn]; exact (List.getElem?_eq_some_iff.1 hx).1) hx⟩
  · exact .inr ⟨k, i, h1, h4, h3, h5, fun j x hx hs => h6 j x (by rw [← hn]; exact (List.getElem?_eq_some_iff.1 hx).1) hx hs, h7⟩
theorem i_speaking {w : World} {ok : Nat → Prop} {T : Option Addr} {n c : Nat} {l : List Itn} (hT : itnK.C w ok T l) (src dst : ByteArray) :
    Calls Try.prog 38 #[.slice T n c, .string src, .string dst] w fun e w' => ∃ b1 b2 b3, e = .returned (.func (.func 73) #[] #[.pointer (some ⟨b1, 0, none⟩), .pointer (some ⟨b2, 0, none⟩), .pointer (some ⟨b3, 0, none⟩)]) ∧
      KeptS b1 b2 b3 ok T n c l src dst w' ∧ Chg nob w w' ∧ (w.heap.size ≤ b1 ∧ b1 < w'.heap.size) ∧ (w.heap.size ≤ b2 ∧ b2 < w'.heap.size) ∧ w.heap.size ≤ b3 ∧ b3 < w'.heap.size := by
  have hmf : ∀ (fn : Fn) (first cap : Array Value) (w : World), (Instr.makeFunc fn first cap).run Try.prog w = .ok (.func fn first cap) w := fun _ _ _ _ => rfl
  have hc1 : Chg nob w (w.alloc (.cells #[.slice T n c] 55)) := (Chg.refl nob w).alloc _
  have h1 := heap_alloc_new w (.cells #[.slice T n c] 55)
  have hc2 : Chg nob (w.alloc (.cells #[.slice T n c] 55)) ((w.alloc (.cells #[.slice T n c] 55)).alloc (.cells #[.string src] 9)) := (Chg.refl nob _).alloc _
  have h2 := heap_alloc_new (w.alloc (.cells #[.slice T n c] 55)) (.cells #[.string src] 9)
  have hc3 : Chg nob ((w.alloc (.cells #[.slice T n c] 55)).alloc (.cells #[.string src] 9)) (((w.alloc (.cells #[.slice T n c] 55)).alloc (.cells #[.string src] 9)).alloc (.cells #[.string dst] 9)) := (Chg.refl nob _).alloc _
  have h3 := heap_alloc_new ((w.alloc (.cells #[.slice T n c] 55)).alloc (.cells #[.string src] 9)) (.cells #[.string dst] 9)
  have HK : Hid (KeptS w.heap.size (w.heap.size + 1) (w.heap.size + 2) ok T n c l src dst (((w.alloc (.cells #[.slice T n c] 55)).alloc (.cells #[.string src] 9)).alloc (.cells #[.string dst] 9))) := by
    rw [World.size_alloc] at h2
    rw [World.size_alloc, World.size_alloc] at h3
    exact ⟨by rw [cell_of_row _ _ _ _ _ _ ((hc2.thenNew hc3).heap h1 (not_nob _))]; rfl, by rw [cell_of_row _ _ _ _ _ _ (hc3.heap h2 (not_nob _))]; rfl, by rw [cell_of_row _ _ _ _ _ _ h3]; rfl, Kd.C_new hT (hc1.thenNew (hc2.thenNew hc3))⟩
  have HC := Lib.hid (hc1.thenNew (hc2.thenNew hc3))
  clear hc1 hc2 hc3 h1 h2 h3 hT
  go_enter Try.func38, Try.ntmps38
  go_wp2
  go_ret
  exact ⟨w.heap.size, w.heap.size + 1, w.heap.size + 2, rfl, HK.out, HC.out, ⟨by omega, by simp; omega⟩, ⟨by omega, by simp⟩, by omega, by simp⟩
/-- Between two rounds: at's place ba, best's place bb. -/
structure ChSt (w0 : World) (D ba bb b1 b2 b3 : Nat) (ok : Nat → Prop) (T : Option Addr) (n c : Nat) (l : List Itn) (src dst : ByteArray) (k : Nat) (W : World) : Prop where
  kept : KeptS b1 b2 b3 ok T n c l src dst W
  best : ∃ (J : Nat) (a b : Int), J ≤ n ∧ spK src dst l J = k ∧ BestTo l src dst J a b ∧ W.heap[ba]? = some (.cells #[.int .i64 a] 3 (0, 0)) ∧ W.heap[bb]? = some (.cells #[.int .i64 b] 3 (0, 0))
  chg : Chg nob w0 W
theorem ChSt.turn {S : Nat → Prop} {w0 : World} {D ba bb b1 b2 b3 : Nat} {ok : Nat → Prop} {T : Option Addr} {n c : Nat} {l : List Itn} {src dst : ByteArray} {k : Nat} {W W' : World} (h : ChSt w0 D ba bb b1 b2 b3 ok T n c l src dst k W) (hc : Chg S W W')
    (h0 : ∀ b, S b → w0.heap.size ≤ b ∧ b ≠ ba ∧ b ≠ bb ∧ b ≠ b1 ∧ b ≠ b2 ∧ b ≠ b3 ∧ ¬ ok b) : ChSt w0 D ba bb b1 b2 b3 ok T n c l src dst k W' := by
  obtain ⟨J, a, b, p1, p2, p3, p4, p5⟩ := h.best
  exact ⟨h.kept.chg hc (fun e => (h0 _ e).2.2.2.1 rfl) (fun e => (h0 _ e).2.2.2.2.1 rfl) (fun e => (h0 _ e).2.2.2.2.2.1 rfl) (fun b hb e => (h0 b e).2.2.2.2.2.2 hb), ⟨J, a, b, p1, p2, p3, hc.heap p4 (fun e => (h0 _ e).2.1 rfl), hc.heap p5 (fun e => (h0 _ e).2.2.1 rfl)⟩, h.chg.trans hc (fun i hi => .inr (h0 i hi).1)⟩
set_option maxHeartbeats 4000000 in
theorem i_choose {w : World} {ok : Nat → Prop} {T : Option Addr} {n c : Nat} {l : List Itn} (hT : itnK.C w ok T l) (hn : l.length = n) (hok : ∀ b, ok b → b < w.heap.size) (src dst : ByteArray) (df : Bool) (hs : src.size ≤ 9223372036854775807) (hd : dst.size ≤ 9223372036854775807) :
    Calls Try.prog 21 #[.slice T n c, .string src, .string dst, .bool df] w (ChTold l src dst df w) := by
  have hsm := hT.small
  rw [hn] at hsm
  obtain ⟨g, hg⟩ : ∃ g, w.heap.size = g := ⟨_, rfl⟩
  obtain ⟨w1, hw1⟩ : ∃ w1, (w.alloc (.cells #[.int .i64 (-1)] 3)).alloc (.cells #[.int .i64 (-1)] 3) = w1 := ⟨_, rfl⟩
  have hc1 : Chg nob w w1 := by rw [← hw1]; exact ((Chg.refl nob w).alloc _).alloc _
  have ha1 : w1.heap[g]? = some (.cells #[.int .i64 (-1)] 3 (0, 0)) := by rw [← hw1, ← hg, Below.heap_alloc _ _ _ (by simp)]; exact heap_alloc_new w _
  have hb1 : w1.heap[g + 1]? = some (.cells #[.int .i64 (-1)] 3 (0, 0)) := by
    have := heap_alloc_new (w.alloc (.cells #[.int .i64 (-1)] 3)) (.cells #[.int .i64 (-1)] 3)
    rw [World.size_alloc, hw1, hg] at this
    exact this
  have hz1 : w1.heap.size = g + 2 := by rw [← hw1, World.size_alloc, World.size_alloc, hg]
  have HC1 := Lib.hid hc1
  have HA1 := Lib.hid ha1
  have HB1 := Lib.hid hb1
  have HT := Lib.hid (Kd.C_new hT hc1)
  have HN := Lib.hid hn
  have HOK : Hid (∀ b, ok b → b < g) := fun b hb => by rw [← hg]; exact hok b hb
  have HZ1 := Lib.hid hz1
  have HG := Lib.hid hg
  have HW1 := Lib.hid hw1
  clear hT hn hok hc1 ha1 hb1 hz1 hw1
  refine calls_of_wp_marks Try.func21 rfl ?_
  simp only [Try.ntmps21, List.size_toArray, List.length_cons, List.length_nil, Nat.reduceAdd, Nat.reduceSub, Array.replicate_succ, Array.replicate_zero, List.push_toArray, List.append_toArray, List.nil_append, List.cons_append]
  go_wp2_with fail
  rw [HW1.out]
  refine (i_speaking (n := n) (c := c) HT.out src dst).mono ?_
  rintro e w4 ⟨b1, b2, b3, rfl, hk4, hc4, hp1, hp2, hp3⟩
  rw [HZ1.out] at hp1 hp2 hp3
  have HK4 := Lib.hid hk4
  have HC4 := Lib.hid hc4
  have HP := Lib.hid (And.intro hp1 (And.intro hp2 hp3))
  clear hk4 hc4 hp1 hp2 hp3
  go_wp2
  have HBK : Hid (∀ b, bookB w4.heap.size b → w.heap.size ≤ b ∧ b ≠ g ∧ b ≠ g + 1 ∧ b ≠ b1 ∧ b ≠ b2 ∧ b ≠ b3 ∧ ¬ ok b) := fun b hb => by
    have h1 := book_lt hb
    have h2 := HP.out
    have h3 := HG.out
    exact ⟨by omega, by omega, by omega, by omega, by omega, by omega, fun h => by have := HOK.out b h; omega⟩
  refine wp_range (gf := 73) (lb := #[.pointer (some ⟨b1, 0, none⟩), .pointer (some ⟨b2, 0, none⟩), .pointer (some ⟨b3, 0, none⟩)]) rfl (enters_of Try.func73 (by kernel_rfl) rfl) (i_iter (b1 := b1) (b2 := b2) (b3 := b3) (ok := ok) (T := T) (n := n) (c := c) (l := l) (src := src) (dst := dst) HN.out hsm hs hd) ?_
    (ChSt w w4.heap.size g (g + 1) b1 b2 b3 ok T n c l src dst) (fun _ _ _ => False) ?_ (fun _ _ _ _ h _ => h) (fun k X h => h.kept) ?_ ?_ ?_ (fun _ _ _ _ h _ => h.elim)
  · rintro B k args W ⟨j, x, _, _, _, rfl⟩
    rfl
  · intro k X Y h hc
    exact h.turn hc HBK.out
  · intro B hc hsz
    have hc0 := HC4.out.thenNew hc
    exact ⟨HK4.out.new hc, ⟨0, -1, -1, Nat.zero_le _, by simp [spK], .inl ⟨fun j x hj => by omega, rfl, rfl⟩, hc0.heap HA1.out (not_nob _), hc0.heap HB1.out (not_nob _)⟩, HC1.out.thenNew hc0⟩
  · intro k args X0 X hk hI0 hs0 hcX hI hMM
    obtain ⟨j, x, g1, g2, g3, rfl⟩ := hMM
    have HX0 := Lib.hid hI0
    have HCX := Lib.hid hcX
    have HG1 := Lib.hid g1
    have HG2 := Lib.hid g2
    have HG3 := Lib.hid g3
    unfold itnC
    clear hI0 hcX hI g1 g2 g3
    gi_wp2
    refine ⟨HoldB.chg ((Chg.refl nob X).alloc _) (by have := HCX.out.size; omega) (fun b hb => (not_nob b hb).elim), ?_⟩
    intro B hcB hsB
    have hs1 : B.heap.size = X.heap.size + 1 := by rw [hsB]; simp
    have hcF := (Chg.refl nob X).alloc (.cells #[.string x.1, .string x.2.1, .bool x.2.2.1, .int .u64 x.2.2.2.1, .int .u64 x.2.2.2.2] 77)
    have hc1 : Chg (bookB w4.heap.size) X0 B := ((HCX.out.thenNew hcF).ofNew (S := bookB w4.heap.size)).trans hcB (fun i hi => .inl hi)
    have HS := Lib.hid (HX0.out.turn hc1 HBK.out)
    have hcells : B.heap[X.heap.size]? = some (.cells #[.string x.1, .string x.2.1, .bool x.2.2.1, .int .u64 x.2.2.2.1, .int .u64 x.2.2.2.2] 77) := hcB.heap (heap_alloc_new X _) (fun hk => by have := HCX.out.size; rcases hk with hk | hk <;> omega)
    obtain ⟨q0, q1, q2, q3, q4⟩ := row5i hcells
    have HS1 := Lib.hid hs1
    clear hcells hcF hc1 hs1 hsB
    gi_wp2_with fail
    refine ⟨trivial, rfl, (CallsIn.inRound _ (callsIn_wide.2 (i_rank x))).mono ?_⟩
    rintro e B2 ⟨rfl, hc2⟩
    obtain ⟨J, a, b, p1, p2, p3, p4, p5⟩ := HS.out.best
    have hJj : J ≤ j := by
      rcases Nat.lt_or_ge j J with h | h
      · have h1 := spK_next (src := src) (dst := dst) HG1.out
        rw [if_pos HG2.out] at h1
        have h2 := spK_mono (src := src) (dst := dst) (l := l) (show j + 1 ≤ J from h)
        have h3 := HG3.out
        omega
      · exact h
    have hjn : j < n := by
      have := (List.getElem?_eq_some_iff.1 HG1.out).1
      rw [HN.out] at this
      exact this
    have hbest : BestTo l src dst j a b := p3.more hJj (by rw [p2, HG3.out])
    have hnk : spK src dst l (j + 1) = k + 1 := by rw [spK_next HG1.out, if_pos HG2.out, HG3.out]
    have HP4 := Lib.hid (hc2.heap p4 (not_nob _))
    have HP5 := Lib.hid (hc2.heap p5 (not_nob _))
    have r5 : B2.cell? ⟨g + 1, 0, none⟩ = some (.int .i64 b) := by rw [cell_of_row _ _ _ _ _ _ HP5.out]; rfl
    have r4 : B2.cell? ⟨g, 0, none⟩ = some (.int .i64 a) := by rw [cell_of_row _ _ _ _ _ _ HP4.out]; rfl
    have f5 : B2.frozen? ⟨g + 1, 0, none⟩ = false := by simp [World.frozen?, HP5.out]
    have f4 : B2.frozen? ⟨g, 0, none⟩ = false := by simp [World.frozen?, HP4.out]
    have HBE := Lib.hid hbest
    have HNK := Lib.hid hnk
    have HC2 := Lib.hid hc2
    have HGD : Hid (g + 2 ≤ w4.heap.size) := by show _ ≤ _; rw [← HZ1.out]; exact HC4.out.size
    have HBS : Hid (w4.heap.size + 2 ≤ B.heap.size) := by show _ ≤ _; rw [HS1.out]; have := HCX.out.size; omega
    clear hc2 p1 p2 p3 p4 p5 hbest hnk q0 q1 q2 q3 q4 hJj
    by_cases hr : b < (rankN x : Int)
    · have HRK := Lib.hid hr
      gi_wp2
      show HoldB _ _ _ ∧ ChSt _ _ _ _ _ _ _ _ _ _ _ _ _ _ _ _
      have hcS : Chg (fun b => b = g ∨ b = g + 1) B ((B2.setCell ⟨g, 0, none⟩ (.int .i64 j)).setCell ⟨g + 1, 0, none⟩ (.int .i64 (rankN x))) := ((HC2.out.ofNew (S := fun b => b = g ∨ b = g + 1)).setCell (p := ⟨g, 0, none⟩) (.inl (.inl rfl)) _).setCell (p := ⟨g + 1, 0, none⟩) (.inl (.inr rfl)) _
      have h2 := HP.out
      have h3 := HGD.out
      refine ⟨HoldB.chg hcS (by have := HBS.out; omega) (fun i hi hk => by have := book_lt hk; omega), ⟨HS.out.kept.chg hcS (by omega) (by omega) (by omega) (fun i hi e => by have := HOK.out i hi; omega), ⟨j + 1, j, rankN x, by omega, HNK.out, HBE.out.better HG1.out HG2.out HRK.out, ?_, ?_⟩, HS.out.chg.trans hcS (fun i hi => .inr (by have := HG.out; omega))⟩⟩
      · have e1 := blk_set1 HP4.out 0 (.int .i64 j)
        have e2 := (Chg.set1 (Chg.refl (fun b => b = g + 1) (B2.setCell ⟨g, 0, none⟩ (.int .i64 j))) 0 (.int .i64 (rankN x))).heap e1 (by omega)
        simpa using e2
      · have e1 := (Chg.set1 (Chg.refl (fun b => b = g) B2) 0 (.int .i64 j)).heap HP5.out (by omega)
        have e2 := blk_set1 e1 0 (.int .i64 (rankN x))
        simpa using e2
    · have HRK := Lib.hid hr
      gi_wp2
      show HoldB _ _ _ ∧ ChSt _ _ _ _ _ _ _ _ _ _ _ _ _ _ _ _
      exact ⟨HoldB.chg HC2.out (by have := HBS.out; omega) (fun i hi _ => not_nob i hi), ⟨HS.out.kept.new HC2.out, ⟨j + 1, a, b, by omega, HNK.out, HBE.out.worse HG1.out HG2.out (by have := HRK.out; omega), HP4.out, HP5.out⟩, HS.out.chg.thenNew HC2.out⟩⟩
  · intro X hI hD
    obtain ⟨J, a, b, p1, p2, p3, p4, p5⟩ := hI.best
    have HT4 := Lib.hid hI.kept.cl
    have HCX := Lib.hid hI.chg
    have HD := Lib.hid hD
    have HTO := Lib.hid ((p3.more p1 p2).told HN.out)
    have r4 : X.cell? ⟨g, 0, none⟩ = some (.int .i64 a) := by rw [cell_of_row _ _ _ _ _ _ p4]; rfl
    have HPUT : Hid (∀ m, Chg nob w ((X.drewN m).putObj w4.heap.size (.deferred none))) := fun m =>
      (((HCX.out.drewN m).ofNew (S := fun b => b = w4.heap.size)).trans (chg_putObj (X.drewN m) w4.heap.size (.deferred none)) (fun i hi => .inl hi)).mono (fun i hi => .inr (by have h1 : i = w4.heap.size := hi; have := HC1.out.size; have := HC4.out.size; omega))
    clear hI hD p1 p2 p3 p4 p5
    rcases HTO.out with ⟨rfl, hno⟩ | ⟨k, i, rfl, hkn, hbest⟩
    · have HNO := Lib.hid hno
      clear hno
      go_wp2
      refine marks_ret1 HD.out ?_
      go_ret2
      exact ⟨df, -1, rfl, .inr ⟨HNO.out, rfl, rfl⟩, HPUT.out 0⟩
    · have HB := Lib.hid hbest
      obtain ⟨b', o, rfl, _, e0, e1, e2, e3, e4⟩ := itn_at HT4.out hbest.at_
      have c1 : ¬ (k : Int) < 0 := by omega
      have c2 : (0 : Int) ≤ (k : Int) := by omega
      have c3 : (k : Int) < (n : Int) := by omega
      clear hbest
      go_wp2
      go_quiet (fail)
      go_wp2
      refine marks_ret1 (w := X.drewN _) HD.out ?_
      go_ret2
      exact ⟨i.2.2.1, k, rfl, .inl ⟨k, i, HB.out, rfl, rfl⟩, HPUT.out _⟩
#print axioms i_choose
end Go.Proofs.Ytcibdcahcpcmaaa
