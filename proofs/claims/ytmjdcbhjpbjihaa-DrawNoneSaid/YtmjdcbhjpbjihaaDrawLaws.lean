/- The draws' own laws. -/
import Derived.Test.YtmjdcbhjpbjihaaDraw
namespace Go.Proofs.Ytmjdcbhjpbjihaa
open Go.RowKit
set_option linter.unusedVariables false

theorem C_lit (k : IntKind) (w : World) (xs : List Int) (cs : Array Value) (e : TypeId) (h : cs.toList = xs.map (Value.int k)) (hl : xs.length ≤ 9223372036854775807) : (Kd.int k).C (w.alloc (.cells cs e)) (fun b => b = w.heap.size) (some ⟨w.heap.size, 0, none⟩) xs :=
  ⟨hl, xs.map (Value.int k), reps_of_scalar xs, fun _ => ⟨_, rfl, rfl, fun j u hu => World.news_of_block (heap_alloc_new w _) j u (h ▸ hu)⟩⟩
set_option maxHeartbeats 400000 in
theorem draw_works (w : World) : Calls Try.prog 12 #[] w fun e w' => e = .returned (.bool true) ∧ Chg nob w w' := by
  have hv : drawVal [2147483648] 0 10 = 5 := by decide
  have HV := Lib.hid hv
  clear hv
  have c0 : Chg nob w (w.alloc (.cells #[.int .u32 2147483648] 46)) := (Chg.refl _ _).alloc _
  go_enter Try.func12, Try.ntmps12
  go_wp2_with fail
  refine (draw_new (xs := [2147483648]) (C_lit .u32 w [2147483648] _ _ rfl (by simp)) (Nat.le_refl _) (by simp)).mono ?_
  rintro e w1 ⟨g, rfl, hd, hc⟩
  replace hd : IsDraws w1 (fun b => w.heap.size + 1 ≤ b) g [2147483648] 0 := by simpa using hd
  go_wp2_with fail
  refine (draw_below hd 10).mono ?_
  rintro e w2 ⟨rfl, hd2, hc2⟩
  have hg := hd.ok_
  rw [HV.out]
  go_wp2
  go_ret
  exact ⟨rfl, (c0.trans hc (fun _ h => h.elim)).trans hc2 (fun i hi => .inr (by subst hi; have := c0.size; omega))⟩

theorem drawAdv_01 (xs : List Int) (k : Nat) (m : Int) : drawAdv xs k m = 0 ∨ (drawAdv xs k m = 1 ∧ k < xs.length) := by
  by_cases h : m < 2 ∨ xs.length ≤ k
  · exact .inl (drawAdv_small h)
  · exact .inr ⟨drawAdv_big h, by omega⟩
set_option maxHeartbeats 1000000 in
theorem drawBelow_walk {w : World} {ok : Nat → Prop} {A : Option Addr} {c : Nat} {xs : List Int} (h : (Kd.int .u32).C w ok A xs) (hc : xs.length ≤ c) (hb : ∀ x ∈ xs, 0 ≤ x ∧ x < 4294967296) (n : Int) :
    Calls Try.prog 3 #[.slice A xs.length c, .int .i64 n] w fun e w' => e = .returned (.bool true) ∧ Chg nob w w' := by
  go_enter Try.func3, Try.ntmps3
  go_wp2_with fail
  refine (draw_new h hc hb).mono ?_
  rintro e w1 ⟨g, rfl, hd, hc1⟩
  generalize List.take 4096 xs = ys at hd
  clear h hc hb
  have hg := hd.ok_
  have hbd := drawVal_bd hd.bd 0 n
  have hle := hd.le
  go_wp2_with fail
  refine (draw_left hd).mono ?_
  rintro e w2 ⟨rfl, hc2⟩
  have hd2 := hd.chg hc2 (fun b _ => not_nob b)
  go_wp2_with fail
  refine (draw_below hd2 n).mono ?_
  rintro e w3 ⟨rfl, hd3, hc3⟩
  have hS : Chg nob w w3 := (hc1.thenNew hc2).trans hc3 (fun i hi => .inr (by subst hi; exact hg))
  clear hc1 hc2 hc3 hd hd2 hg
  have ha := drawAdv_01 ys 0 n
  generalize drawVal ys 0 n = x at *
  generalize drawAdv ys 0 n = q at *
  obtain ⟨hx0, hx1⟩ := hbd
  have hx2 : x < n ∨ (¬ x < n ∧ x = 0) := by omega
  clear hx1
  rcases ha with rfl | ⟨rfl, hlt⟩
  · simp only [Nat.zero_add] at hd3
    rcases hx2 with hx2 | ⟨hx2, rfl⟩
    all_goals
      go_wp2_with fail
      refine (draw_left hd3).mono ?_
      rintro e w4 ⟨rfl, hc4⟩
      have hd4 := hd3.chg hc4 (fun b _ => not_nob b)
      go_wp2_with fail
      refine (draw_left hd4).mono ?_
      rintro e w5 ⟨rfl, hc5⟩
      have hd5 := hd4.chg hc5 (fun b _ => not_nob b)
      go_wp2_with fail
      refine (draw_taken hd5).mono ?_
      rintro e w6 ⟨rfl, rfl⟩
      go_wp2_with fail
      refine (draw_works w5).mono ?_
      rintro e w7 ⟨rfl, hc7⟩
      go_wp2
      go_ret
      exact ⟨rfl, ((hS.thenNew hc4).thenNew hc5).thenNew hc7⟩
  · simp only [Nat.zero_add] at hd3
    rcases hx2 with hx2 | ⟨hx2, rfl⟩
    all_goals
      go_wp2_with fail
      refine (draw_left hd3).mono ?_
      rintro e w4 ⟨rfl, hc4⟩
      have hd4 := hd3.chg hc4 (fun b _ => not_nob b)
      go_wp2_with fail
      refine (draw_left hd4).mono ?_
      rintro e w5 ⟨rfl, hc5⟩
      have hd5 := hd4.chg hc5 (fun b _ => not_nob b)
      go_wp2_with fail
      refine (draw_left hd5).mono ?_
      rintro e w6 ⟨rfl, hc6⟩
      have hd6 := hd5.chg hc6 (fun b _ => not_nob b)
      go_wp2_with fail
      refine (draw_taken hd6).mono ?_
      rintro e w7 ⟨rfl, rfl⟩
      go_wp2_with fail
      refine (draw_works w6).mono ?_
      rintro e w8 ⟨rfl, hc8⟩
      go_wp2
      go_ret
      exact ⟨rfl, (((hS.thenNew hc4).thenNew hc5).thenNew hc6).thenNew hc8⟩
end Go.Proofs.Ytmjdcbhjpbjihaa
