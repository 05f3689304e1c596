/- The law ProbeRound: the walk. -/
import Derived.Test.YtoiikjojknnobaaProbeRound
namespace Go.Proofs.Ytoiikjojknnobaa
open Go.RowKit
set_option linter.unusedVariables false
set_option linter.unusedSimpArgs false
theorem RdSt.more {W w : World} {g j : Nat} {p : Option Addr} {xs L : List Int} {v : Value} (h : RdSt W g p xs v L j w) : RdSt W g p xs v L (j + 1) w := by
  obtain ⟨own, s, k, hst, hR, h1, h2, h3, h4⟩ := h
  exact ⟨own, s, k, hst, hR, fun x hx => by have := h1 x hx; omega, h2, h3, by omega⟩
theorem RdSt.row {W w : World} {g j n c : Nat} {A p : Option Addr} {xs L : List Int} (h : RdSt W g p xs (.slice A n c) L j w) : L.length = n := by
  obtain ⟨own, s, k, hst, hR, _⟩ := h
  exact (Kd.R_read hR).2.1
set_option maxRecDepth 100000 in
set_option maxHeartbeats 4000000 in
theorem probeRound_walk {w : World} {ok : Nat → Prop} {A : Option Addr} {c : Nat} {xs : List Int} (h : (Kd.int .u32).C w ok A xs) (hc : xs.length ≤ c) (hb : ∀ x ∈ xs, 0 ≤ x ∧ x < 4294967296) (x0 x1 bf : Int) (hbf : 0 ≤ bf ∧ bf < 256) :
    Calls Try.prog 3 #[.slice A xs.length c, .agg #[.int .u8 x0, .int .u8 x1], .int .u8 bf] w fun e w' => e = .returned (.bool true) ∧ Chg nob w w' := by
  obtain ⟨n, hn⟩ : ∃ n, xs.length = n := ⟨_, rfl⟩
  have HX := Lib.hid h
  have HXN := Lib.hid hn
  have HXC := Lib.hid hc
  have HXB := Lib.hid hb
  have r0 := heap_alloc_new w (.cells #[.int .u8 x0, .int .u8 x1] 23)
  obtain ⟨w0, hw0⟩ : ∃ w0, w0 = w.alloc (.cells #[.int .u8 x0, .int .u8 x1] 23) := ⟨_, rfl⟩
  have hc0 : Chg nob w w0 := by rw [hw0]; exact (Chg.refl nob w).alloc _
  rw [← hw0] at r0
  have q0 : w0.cell? ⟨w.heap.size, 0, none⟩ = some (.int .u8 x0) := by rw [cell_of_row _ w.heap.size 0 _ _ _ r0]; rfl
  have q1 : w0.cell? ⟨w.heap.size, 1, none⟩ = some (.int .u8 x1) := by rw [cell_of_row _ w.heap.size 1 _ _ _ r0]; rfl
  have HC0 := Lib.hid hc0
  rw [hn]
  clear h hn hc hb r0 hc0
  go_enter Try.func3, Try.ntmps3
  go_wp2_with fail
  rw [← hw0]
  clear hw0
  go_quiet (fail)
  go_wp2_with fail
  refine (rg_new _).mono ?_
  rintro e w1 ⟨g, rfl, hg, hr, hc1⟩
  go_wp2_with fail
  have hcx : Chg nob w w1 := (HC0.out.drewN _).thenNew hc1
  have hdn := draw_new (c := c) (Kd.C_new HX.out hcx) HXC.out HXB.out
  rw [HXN.out] at hdn
  refine hdn.mono ?_
  rintro e w2 ⟨gd, rfl, hd, hc2⟩
  generalize List.take 4096 xs = ys at hd
  have HS : Hid (RdSt w g (some ⟨gd, 0, none⟩) ys (.slice none 0 0) [] 0 w2) := ⟨_, _, _, p_start hr (by have := hcx.size; have := HC0.out.size; simp only [World.heap_drewN] at hg; omega) hd hcx hc2, Kd.R_nil _ _ _ _ _, by simp, by simp, List.nodup_nil, Nat.le_refl _⟩
  clear hdn hg hr hd hc1 hc2 hcx HX HXN HXC HXB q0 q1
  go_wp2
  go_loopw [11, 12] (fun v i wr => ∃ (j m : Nat) (V : Option Addr) (cv : Nat) (L : List Int), j ≤ 8 ∧ m ≤ j ∧ v = .slice V m cv ∧ i = .int .i64 j ∧ Hid (RdSt w g (some ⟨gd, 0, none⟩) ys (.slice V m cv) L j wr)) (fun _ i _ => 8 - (intOf i).toNat)
  case atStart => exact ⟨0, 0, none, 0, [], Nat.zero_le _, Nat.le_refl _, rfl, rfl, HS⟩
  case round =>
    obtain ⟨j, m, V, cv, L, hj, hmj, rfl, rfl, HR⟩ := hrel
    clear HS
    by_cases hlt : j < 8
    · have b1 : (j : Int) < 8 := by omega
      have b3 : ¬ (j : Int) < 0 := by omega
      by_cases hbit : bitF x0 j = true
      · have t : (Go.bits .and .u8 (x0 / 2 ^ j) 1 == 1) = true := hbit
        clear hbit
        go_wp2_with fail
        refine (rd_add HR.out hlt).mono ?_
        rintro e w3 ⟨rfl, hmid⟩
        have HM := Lib.hid hmid
        clear hmid t
        by_cases hbit : bitF x1 j = true
        · have t : (Go.bits .and .u8 (x1 / 2 ^ j) 1 == 1) = true := hbit
          have HLM : Hid (L.length = m) := HR.out.row
          clear hbit
          go_wp2_with (at_builtin; obtain ⟨own, s, k, hst, hRR, _⟩ := HM.out; refine wp_app1I rfl _ _ rfl w.heap.size _ (.slice V m cv) L (j : Int) rfl rfl hRR (by obtain ⟨_, _, _, _, _, _, _, h6, _⟩ := hst; exact h6.size) (m + 1) (by rw [HLM.out]) (by omega) ?_; clear hst hRR)
          intro A5 c5 w5 hR5 hC5 ho
          have HS5 := Lib.hid (HM.out.app hR5 hC5 ho)
          clear hR5 hC5 ho t
          go_wp2
          exact ⟨⟨j + 1, m + 1, A5, c5, _, by omega, by omega, rfl, by go_num, HS5⟩, by simp [intOf]; omega⟩
        · have t : (Go.bits .and .u8 (x1 / 2 ^ j) 1 == 1) = false := by simpa [bitF] using hbit
          have HS5 := Lib.hid HM.out.skip
          clear hbit
          go_wp2
          exact ⟨⟨j + 1, m, V, cv, L, by omega, by omega, rfl, by go_num, HS5⟩, by simp [intOf]; omega⟩
      · have t : (Go.bits .and .u8 (x0 / 2 ^ j) 1 == 1) = false := by simpa [bitF] using hbit
        have HS5 := Lib.hid HR.out.more
        clear hbit
        go_wp2
        exact ⟨⟨j + 1, m, V, cv, L, by omega, by omega, rfl, by go_num, HS5⟩, by simp [intOf]; omega⟩
    · obtain rfl : j = 8 := by omega
      have b1 : ¬ ((8 : Nat) : Int) < 8 := by omega
      rw [show ((8 : Nat) : Int) = 8 from rfl]
      go_wp2
      go_loopw [13] (fun v wr => ∃ i : Nat, i ≤ 20 ∧ v = .int .i64 i ∧ Hid (RdSt w g (some ⟨gd, 0, none⟩) ys (.slice V m cv) L 8 wr)) (fun v _ => 20 - (intOf v).toNat)
      case atStart => exact ⟨0, Nat.zero_le _, rfl, HR⟩
      case round =>
        obtain ⟨i, hi, rfl, HR2⟩ := hrel
        by_cases hlt2 : (i : Int) < bf % 20
        · go_wp2_with fail
          refine (rd_next HR2.out).mono ?_
          rintro e w4 ⟨⟨y, b, rfl⟩, hr4⟩
          have HR4 := Lib.hid hr4
          clear hr4
          go_wp2
          exact ⟨⟨i + 1, by omega, by go_num, HR4⟩, by simp [intOf]; omega⟩
        · have hlt3 : bf % 20 ≤ (i : Int) := by omega
          have HB := Lib.hid HR2.out.b
          have HLM : Hid (L.length = m) := HR2.out.row
          clear HR HR2
          go_wp2
          go_loopw [14] (fun v wr => ∃ q : Nat, q ≤ m ∧ v = .int .i64 q ∧ Hid (RdB w g (some ⟨gd, 0, none⟩) ys (.slice V m cv) L wr)) (fun v _ => m - (intOf v).toNat)
          case atStart => exact ⟨0, Nat.zero_le _, rfl, HB⟩
          case round =>
            obtain ⟨q, hq, rfl, HB2⟩ := hrel
            clear HB
            by_cases hqm : q < m
            · have g1 : (q : Int) < (m : Int) := by omega
              have g3 : (0 : Int) ≤ (q : Int) := by omega
              obtain ⟨x, hx⟩ : ∃ x, L[q]? = some x := ⟨_, List.getElem?_eq_getElem (by rw [HLM.out]; exact hqm)⟩
              have HX := Lib.hid hx
              have HXL : Hid (x ∈ L) := List.mem_of_getElem? hx
              have HASK : Hid (RdAsk w g (some ⟨gd, 0, none⟩) ys (.slice V m cv) L x (2 * m - 1 - 0) wr) := by have := HB2.out.ask HXL.out; rwa [HLM.out] at this
              clear hx
              go_wp2
              go_loopw [15, 16] (fun f v wx => ∃ (i : Nat) (b : Bool), i ≤ 2 * m - 1 ∧ f = .bool b ∧ v = .int .i64 i ∧ Hid (RdB w g (some ⟨gd, 0, none⟩) ys (.slice V m cv) L wx) ∧ Hid (b = false → RdAsk w g (some ⟨gd, 0, none⟩) ys (.slice V m cv) L x (2 * m - 1 - i) wx)) (fun _ v _ => 2 * m - 1 - (intOf v).toNat)
              case atStart => exact ⟨0, false, Nat.zero_le _, rfl, rfl, HB2, fun _ => HASK.out⟩
              case round =>
                obtain ⟨i2, b, hi2, rfl, rfl, HB3, HA3⟩ := hrel
                have hm1 : (2 : Int) * (m : Int) - 1 = ((2 * m - 1 : Nat) : Int) := by omega
                have hw1 : IntKind.i64.wrap (2 * (m : Int)) = 2 * (m : Int) := IntWalk.i64_in _ (by omega)
                have hw2 : IntKind.i64.wrap (2 * (m : Int) - 1) = 2 * (m : Int) - 1 := IntWalk.i64_in _ (by omega)
                cases b with
                | true =>
                  by_cases hlt4 : (i2 : Int) < 2 * (m : Int) - 1
                  · go_wp2
                    exact ⟨⟨q + 1, by omega, by go_num, HB3⟩, by simp [intOf]; omega⟩
                  · go_wp2
                    exact ⟨⟨q + 1, by omega, by go_num, HB3⟩, by simp [intOf]; omega⟩
                | false =>
                  have HA4 := Lib.hid (HA3.out rfl)
                  by_cases hlt4 : (i2 : Int) < 2 * (m : Int) - 1
                  · go_wp2_with fail
                    refine (rd_ask HA4.out HXL.out).mono ?_
                    rintro e w5 ⟨y, rfl, hb5, hd5, ha5⟩
                    have HB5 := Lib.hid hb5
                    have HA5 := Lib.hid ha5
                    obtain ⟨own, s, k, hst, hRR, _⟩ := hb5
                    obtain ⟨k1, k2, k3⟩ := Kd.R_read hRR
                    obtain ⟨ad, rfl, _, hcell⟩ := at_scalar k1 HX.out
                    clear hst hRR k1 k2 k3 ha5
                    by_cases hyx : y = x
                    · subst hyx
                      have t : (y == y) = true := by simp
                      go_wp2
                      exact ⟨⟨i2 + 1, true, by omega, rfl, by go_num, HB5, fun e => by cases e⟩, by simp [intOf]; omega⟩
                    · have t : (y == x) = false := by simpa using hyx
                      have HA6 : Hid (RdAsk w g (some ⟨gd, 0, none⟩) ys (.slice (some ad) m cv) L x (2 * m - 1 - (i2 + 1)) w5) := by have := HA5.out hyx; rwa [show 2 * m - 1 - i2 - 1 = 2 * m - 1 - (i2 + 1) from by omega] at this
                      clear hyx
                      go_wp2
                      exact ⟨⟨i2 + 1, false, by omega, rfl, by go_num, HB5, fun _ => HA6.out⟩, by simp [intOf]; omega⟩
                  · exfalso
                    obtain ⟨own, s, k, hst, _, hsub, _, hd⟩ := HA4.out
                    have := dist_pos (s := s) HXL.out
                    omega
            · obtain rfl : q = m := by omega
              have g1 : ¬ (q : Int) < (q : Int) := by omega
              go_wp2_with fail
              refine (probe_works _).mono ?_
              rintro e w9 ⟨rfl, hc9⟩
              obtain ⟨own, s, k, hst, _⟩ := HB2.out
              have HC9 : Hid (Chg nob w w9) := by obtain ⟨_, _, _, _, _, _, _, h6, _⟩ := hst; exact Lib.hid (h6.thenNew hc9)
              clear hst
              go_wp2
              go_ret
              exact ⟨rfl, HC9.out⟩
end Go.Proofs.Ytoiikjojknnobaa
