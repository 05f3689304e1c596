/- The law ProbeRound: the walk. -/
import Derived.Test.YtoiikjojknnobaaProbeRndPl
namespace Go.Proofs.Ytoiikjojknnobaa
open Go.RowKit
set_option linter.unusedVariables false
set_option linter.unusedSimpArgs false
/-- A ring, its draws, and a row of the call's own beside them: who lives. -/
def RdSt (W : World) (g : Nat) (p : Option Addr) (xs : List Int) (v : Value) (L : List Int) (j : Nat) (w : World) : Prop :=
  ∃ own s k, PSt W own g p xs s k w ∧ intK.R 3 w W.heap.size (fun b => ¬ own b) v L ∧ (∀ x ∈ s.1, x < (j : Int)) ∧ (∀ x ∈ L, x ∈ s.1) ∧ L.Nodup ∧ L.length ≤ j
theorem RdSt.call {W w w' : World} {own : Nat → Prop} {g k : Nat} {p : Option Addr} {xs : List Int} {s : List Int × Nat} {v : Value} {L : List Int} (hR : intK.R 3 w W.heap.size (fun b => ¬ own b) v L) (hp : PPost W own g p xs s k w w') : ∃ own', PSt W own' g p xs s k w' ∧ intK.R 3 w' W.heap.size (fun b => ¬ own' b) v L := by
  obtain ⟨hc, own', hs, ho⟩ := hp
  refine ⟨own', hs, Kd.R_mono (Kd.R_chg (Kd.R_bound hR) hc (fun k hk => hk.1)) (fun k hk e => ?_)⟩
  rcases ho k e with h | h
  · exact hk.1 h
  · omega
theorem good_new {j : Nat} {s : List Int × Nat} (h : ∀ x ∈ s.1, x < (j : Int)) (hj : j < 8) (xs : List Int) (k : Nat) : (addF xs k s j).1 = true ∧ (∀ x ∈ (addF xs k s j).2.1.1, x < ((j + 1 : Nat) : Int)) ∧ (∀ x, (x = (j : Int) ∨ x ∈ s.1) → x ∈ (addF xs k s j).2.1.1) := by
  have hn : (j : Int) ∉ s.1 := fun e => by have := h _ e; omega
  unfold addF
  rw [if_pos ⟨by omega, by omega, hn⟩]
  obtain ⟨q, hq⟩ : ∃ q, (drawVal xs k (s.1.length + 1)).toNat = q := ⟨_, rfl⟩
  rw [hq]
  have hp : (s.1.take q ++ (j : Int) :: s.1.drop q).Perm ((j : Int) :: s.1) := List.perm_middle.trans (by rw [List.take_append_drop])
  refine ⟨rfl, fun x hx => ?_, fun x hx => ?_⟩
  · rcases List.mem_cons.1 (hp.mem_iff.1 hx) with rfl | hx
    · omega
    · have := h x hx; omega
  · exact hp.mem_iff.2 (List.mem_cons.2 hx)
/-- Behind Add: the new node stands in the row. -/
def RdMid (W : World) (g : Nat) (p : Option Addr) (xs : List Int) (v : Value) (L : List Int) (j : Nat) (w : World) : Prop :=
  ∃ own s k, PSt W own g p xs s k w ∧ intK.R 3 w W.heap.size (fun b => ¬ own b) v L ∧ (∀ x ∈ s.1, x < ((j + 1 : Nat) : Int)) ∧ (∀ x, (x = (j : Int) ∨ x ∈ L) → x ∈ s.1) ∧ (L ++ [(j : Int)]).Nodup ∧ L.length ≤ j
theorem rd_add {W w : World} {g j : Nat} {p : Option Addr} {xs L : List Int} {v : Value} (h : RdSt W g p xs v L j w) (hj : j < 8) :
    Calls Try.prog 10 #[.pointer (some ⟨g, 0, none⟩), .int .i64 j, .pointer p] w fun e w' => e = .returned (.bool true) ∧ RdMid W g p xs v L j w' := by
  obtain ⟨own, s, k, hst, hR, h1, h2, h3, h4⟩ := h
  obtain ⟨a1, a2, a3⟩ := good_new h1 hj xs k
  refine (p_add hst (j : Int)).mono ?_
  rintro e w' ⟨rfl, hp⟩
  obtain ⟨own', hs', hR'⟩ := RdSt.call hR hp
  refine ⟨by rw [a1], own', _, _, hs', hR', a2, fun x hx => ?_, ?_, h4⟩
  · rcases hx with hx | hx
    · exact a3 x (.inl hx)
    · exact a3 x (.inr (h2 x hx))
  · refine List.nodup_append.2 ⟨h3, by simp, fun x hx y hy => ?_⟩
    have h5 := h1 x (h2 x hx)
    rw [List.mem_singleton] at hy
    omega
theorem RdMid.skip {W w : World} {g j : Nat} {p : Option Addr} {xs L : List Int} {v : Value} (h : RdMid W g p xs v L j w) : RdSt W g p xs v L (j + 1) w := by
  obtain ⟨own, s, k, hst, hR, h1, h2, h3, h4⟩ := h
  exact ⟨own, s, k, hst, hR, h1, fun x hx => h2 x (.inr hx), (List.nodup_append.1 h3).1, by omega⟩
theorem RdMid.app {W w w' : World} {g j : Nat} {p : Option Addr} {xs L : List Int} {v v' : Value} (h : RdMid W g p xs v L j w) (hR' : intK.R 3 w' W.heap.size (fun b => some b = v'.ownBlock) v' (L ++ [(j : Int)])) (hc : Chg (fun b => some b = v.ownBlock) w w') (ho : v'.ownBlock = v.ownBlock ∨ ∃ b, v'.ownBlock = some b ∧ w.heap.size ≤ b) : RdSt W g p xs v' (L ++ [(j : Int)]) (j + 1) w' := by
  obtain ⟨own, s, k, hst, hR, h1, h2, h3, h4⟩ := h
  have hv : ∀ b, some b = v.ownBlock → ¬ own b ∧ W.heap.size ≤ b := fun b hb => ⟨hR.1 b hb.symm, (Kd.R_own hR b hb.symm).1⟩
  refine ⟨own, s, k, hst.chg hc hv, Kd.R_mono hR' (fun b hb e => ?_), h1, fun x hx => h2 x (by rcases List.mem_append.1 hx with hx | hx; exact .inr hx; exact .inl (by simpa using hx)), h3, by rw [List.length_append, List.length_singleton]; omega⟩
  rcases ho with ho | ⟨q, ho, hq⟩
  · exact (hv b (by rw [hb, ho])).1 e
  · rw [ho] at hb
    cases hb
    have := (hst.lt _ e).2
    omega
theorem rd_next {W w : World} {g j ln lc : Nat} {p A : Option Addr} {xs L : List Int} (h : RdSt W g p xs (.slice A ln lc) L j w) :
    Calls Try.prog 11 #[.pointer (some ⟨g, 0, none⟩), .slice A ln lc, .pointer p] w fun e w' => (∃ y b, e = .returned (.tuple #[.int .i64 y, .bool b])) ∧ RdSt W g p xs (.slice A ln lc) L j w' := by
  obtain ⟨own, s, k, hst, hR, h1, h2, h3, h4⟩ := h
  obtain ⟨k1, k2, k3⟩ := Kd.R_read hR
  refine (p_next hst k1 k2 (fun b hb => hb)).mono ?_
  rintro e w' ⟨rfl, hp⟩
  obtain ⟨own', hs', hR'⟩ := RdSt.call hR hp
  obtain ⟨_, hperm⟩ := (next_ok (xs := xs) (k := k) (by obtain ⟨_, _, _, h2, _⟩ := hst; exact h2.bd) (by obtain ⟨_, _, _, _, _, _, _, _, h7⟩ := hst; exact h7) L).2
  exact ⟨⟨_, _, rfl⟩, own', _, _, hs', hR', fun x hx => h1 x (hperm.mem_iff.1 hx), fun x hx => hperm.mem_iff.2 (h2 x hx), h3, h4⟩
/-- Ahead of asks for x: it lasts d asks at most. -/
def RdAsk (W : World) (g : Nat) (p : Option Addr) (xs : List Int) (v : Value) (L : List Int) (x : Int) (d : Nat) (w : World) : Prop :=
  ∃ own s k, PSt W own g p xs s k w ∧ intK.R 3 w W.heap.size (fun b => ¬ own b) v L ∧ (∀ x ∈ L, x ∈ s.1) ∧ L.Nodup ∧ distL L x s ≤ d
def RdB (W : World) (g : Nat) (p : Option Addr) (xs : List Int) (v : Value) (L : List Int) (w : World) : Prop :=
  ∃ own s k, PSt W own g p xs s k w ∧ intK.R 3 w W.heap.size (fun b => ¬ own b) v L ∧ (∀ x ∈ L, x ∈ s.1) ∧ L.Nodup
theorem RdSt.b {W w : World} {g j : Nat} {p : Option Addr} {xs L : List Int} {v : Value} (h : RdSt W g p xs v L j w) : RdB W g p xs v L w := by
  obtain ⟨own, s, k, hst, hR, h1, h2, h3, h4⟩ := h
  exact ⟨own, s, k, hst, hR, h2, h3⟩
theorem RdB.ask {W w : World} {g : Nat} {p : Option Addr} {xs L : List Int} {v : Value} (h : RdB W g p xs v L w) {x : Int} (hx : x ∈ L) : RdAsk W g p xs v L x (2 * L.length - 1) w := by
  obtain ⟨own, s, k, hst, hR, h2, h3⟩ := h
  exact ⟨own, s, k, hst, hR, h2, h3, dist_le (by obtain ⟨_, _, _, _, _, _, _, _, h7⟩ := hst; exact h7) hx⟩
theorem rd_ask {W w : World} {g d ln lc : Nat} {p A : Option Addr} {xs L : List Int} {x : Int} (h : RdAsk W g p xs (.slice A ln lc) L x d w) (hx : x ∈ L) :
    Calls Try.prog 11 #[.pointer (some ⟨g, 0, none⟩), .slice A ln lc, .pointer p] w fun e w' => ∃ y, e = .returned (.tuple #[.int .i64 y, .bool true]) ∧ RdB W g p xs (.slice A ln lc) L w' ∧ 1 ≤ d ∧ (y ≠ x → RdAsk W g p xs (.slice A ln lc) L x (d - 1) w') := by
  obtain ⟨own, s, k, hst, hR, h2, h3, h4⟩ := h
  obtain ⟨k1, k2, k3⟩ := Kd.R_read hR
  have hbd : ∀ x ∈ xs, 0 ≤ x ∧ x < 4294967296 := by obtain ⟨_, _, _, h2, _⟩ := hst; exact h2.bd
  have hg : GoodR s := by obtain ⟨_, _, _, _, _, _, _, _, h7⟩ := hst; exact h7
  obtain ⟨a1, a2, _⟩ := next_round hbd (k := k) hg h2 (fun e => by rw [e] at hx; simp at hx)
  have hpos := dist_pos (s := s) hx
  refine (p_next hst k1 k2 (fun b hb => hb)).mono ?_
  rintro e w' ⟨rfl, hp⟩
  obtain ⟨own', hs', hR'⟩ := RdSt.call hR hp
  have h2' : ∀ x ∈ L, x ∈ (nextF xs k s L).2.1.1 := fun x hx => a2.mem_iff.2 (h2 x hx)
  exact ⟨_, by rw [a1], ⟨own', _, _, hs', hR', h2', h3⟩, by omega, fun hne => ⟨own', _, _, hs', hR', h2', h3, by have := dist_step hbd (k := k) hg h2 hx hne; omega⟩⟩
end Go.Proofs.Ytoiikjojknnobaa
