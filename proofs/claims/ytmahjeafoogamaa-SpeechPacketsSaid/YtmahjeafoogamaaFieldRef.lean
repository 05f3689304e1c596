/- What the reference's Num, Text and Flag lay. -/
import Derived.Test.YtmahjeafoogamaaFieldPut
namespace Go.Proofs.Ytmahjeafoogamaa
open Go.RowKit
set_option linter.unusedVariables false
theorem Laid.of {w w' : World} {l : List UInt8} {base : Nat} {ok : Nat → Prop} {v : Value} (h : Kd.byte.R 5 w' base ok v l) (hb : w.heap.size ≤ base) (hc : Chg nob w w') : Laid w l (.returned v) w' :=
  ⟨v, rfl, Kd.R_mono (Kd.R_ge Kd.scalar_flat (Kd.R_lower h hb)) (fun _ hk => hk), hc⟩
theorem R_lit (w : World) (base : Nat) (bs : List UInt8) (cs : Array Value) (n : Nat) (h : cs.toList = bs.map encB) (hn : bs.length = n) (hb : base ≤ w.heap.size) (hl : n ≤ maxLen) :
    Kd.byte.R 5 (w.alloc (.cells cs 5)) base (fun b => some b = (Value.slice (some ⟨w.heap.size, 0, none⟩) n n).ownBlock) (.slice (some ⟨w.heap.size, 0, none⟩) n n) bs := by
  have hs : cs.size = n := by rw [← Array.length_toList, h, List.length_map, hn]
  have := World.ownsRow_lit (base := base) (e := 5) (size := 1) w cs n hb hl (by omega)
  rw [h] at this
  exact Kd.R_of_own this
set_option maxHeartbeats 2000000 in
theorem ref_num {w : World} (n : Int) (h0 : 0 ≤ n) (h1 : n < 18446744073709551616) :
    Calls Try.prog 29 #[.int .u64 n] w (Laid w (numB n.toNat)) := by
  obtain ⟨n, rfl⟩ := Int.eq_ofNat_of_zero_le h0
  rw [Int.toNat_natCast]
  have hn : n < 18446744073709551616 := by omega
  have hl8 := leB_len8 hn
  clear h0 h1
  go_enter Try.func29, Try.ntmps29
  go_wp2
  go_loopw [0, 3] (fun i v wr => ∃ (x k : Nat) (lo : List UInt8) (A : Option Addr) (c : Nat), i = .int .u64 x ∧ v = .slice A k c ∧ x ≤ n ∧ k ≤ 8 ∧ Hid (lo.length = k ∧ leB n = lo ++ leB x) ∧ Kd.byte.R 5 wr w.heap.size (fun b => w.heap.size ≤ b) (.slice A k c) lo ∧ Chg nob w wr) (fun i _ _ => (intOf i).toNat)
  case atStart => exact ⟨n, 0, [], none, 0, rfl, rfl, Nat.le_refl _, by omega, ⟨rfl, rfl⟩, Kd.R_nil _ _ _ _ _, Chg.refl _ _⟩
  case round =>
    obtain ⟨x, k, lo, A, c, rfl, rfl, hxn, hk8, HL, hR, hC⟩ := hrel
    have s1 := hC.size
    by_cases hx : 0 < x
    · have hk : k < 8 := by
        have h2 := HL.out.2
        rw [leB_pos hx] at h2
        have h3 := congrArg List.length h2
        simp at h3
        have := HL.out.1
        omega
      have HN : Hid ((lo ++ [UInt8.ofNat (x % 256)]).length = k + 1 ∧ leB n = (lo ++ [UInt8.ofNat (x % 256)]) ++ leB (x / 256)) := by
        refine ⟨by simp [HL.out.1], ?_⟩
        rw [HL.out.2, leB_pos hx]
        simp
      go_wp2_with (at_builtin; refine wp_app1B rfl _ _ rfl w.heap.size (fun b => w.heap.size ≤ b) (.slice A k c) lo (UInt8.ofNat (x % 256)) _ ?_ rfl rfl hR s1 (k + 1) ?_ ?_ ?_)
      · exact byte_mod x
      · rw [HL.out.1]
      · omega
      intro A1 c1 w1 hR1 hC1 _
      have hc1 := hC.trans hC1 (fun b hb => .inr (Kd.R_own hR b hb.symm).1)
      have hR2 := byte_ge hR1
      clear hR1 hC1 hR hC HL
      go_wp2
      exact ⟨⟨x / 256, k + 1, _, A1, c1, by go_num, by go_num, by omega, by omega, HN, hR2, hc1⟩, by simp [intOf]; omega⟩
    · obtain rfl : x = 0 := by omega
      have hlo : leB n = lo := by have := HL.out.2; rwa [leB_zero, List.append_nil] at this
      have hkl := HL.out.1
      have hby : Value.int .u8 ((k : Int)) = encB (UInt8.ofNat (leB n).length) := by
        unfold encB; rw [UInt8.toNat_ofNat_of_lt' (show (leB n).length < 256 by omega), hlo, hkl]
      have HBY := Lib.hid hby
      have HLO := Lib.hid hlo
      have HKL := Lib.hid hkl
      clear hby hlo hkl HL
      rw [show (((0 : Nat) : Int)) = (0 : Int) from rfl]
      go_wp2
      have hR0 : Kd.byte.R 5 (wr.alloc (.cells #[.int .u8 (k : Int)] 5)) wr.heap.size (fun b => some b = (Value.slice (some ⟨wr.heap.size, 0, none⟩) 1 1).ownBlock) (.slice (some ⟨wr.heap.size, 0, none⟩) 1 1) [UInt8.ofNat (leB n).length] :=
        R_lit wr _ _ _ 1 (by rw [HBY.out]; rfl) rfl (Nat.le_refl _) (by simp [maxLen])
      have hC0 : Chg nob wr (wr.alloc (.cells #[.int .u8 (k : Int)] 5)) := (Chg.refl _ _).alloc _
      obtain ⟨wo, hwo⟩ : ∃ wo : World, wo = wr := ⟨_, rfl⟩
      subst hwo
      go_loopw [4, 5] (fun v i w2 => ∃ (j : Int) (q : Nat) (B : Option Addr) (d : Nat), v = .slice B q d ∧ i = .int .i64 j ∧ -1 ≤ j ∧ j < k ∧ Hid ((q : Int) = k - j) ∧ Kd.byte.R 5 w2 wo.heap.size (fun b => wo.heap.size ≤ b) (.slice B q d) (UInt8.ofNat (leB n).length :: (lo.reverse.take (q - 1))) ∧ Chg nob wo w2) (fun _ i _ => (intOf i + 1).toNat)
      case atStart => exact ⟨(k : Int) - 1, 1, _, _, rfl, rfl, by omega, by omega, (show ((1 : Nat) : Int) = k - ((k : Int) - 1) by omega), byte_ge hR0, hC0⟩
      case round =>
        obtain ⟨j, q, B, d, rfl, rfl, j1, j2, HQ, hR2, hC2⟩ := hrel
        have s2 := hC2.size
        by_cases hj : 0 ≤ j
        · obtain ⟨J, rfl⟩ := Int.eq_ofNat_of_zero_le hj
          have hqk : 1 ≤ q ∧ q ≤ k := by have := HQ.out; omega
          obtain ⟨hq1, hq2⟩ := hqk
          have hJ : J < lo.length := by rw [HKL.out]; omega
          have hCl := (Kd.R_read (Kd.R_new hR hC2)).1
          obtain ⟨ad, rfl, _, hx⟩ := at_scalar hCl (List.getElem?_eq_getElem hJ)
          have hx' : wr.cell? (ad.add J) = some (encB lo[J]) := hx
          obtain ⟨y, hy⟩ : ∃ y, lo[J] = y := ⟨_, rfl⟩
          have hrev : lo.reverse.take (q - 1) ++ [y] = lo.reverse.take q := by
            obtain ⟨q', rfl⟩ : ∃ q', q = q' + 1 := ⟨q - 1, by omega⟩
            rw [Nat.add_sub_cancel, List.take_add_one, List.getElem?_reverse (by rw [HKL.out]; omega), HKL.out, show k - 1 - q' = J from by have := HQ.out; omega, List.getElem?_eq_getElem hJ, hy]
            rfl
          have HREV := Lib.hid hrev
          rw [hy] at hx'
          have hxe : wr.cell? (ad.add J) = some (.int .u8 (y.toNat : Int)) := hx'
          have b1 : (J : Int) < (k : Int) := j2
          have hql : (UInt8.ofNat (leB n).length :: lo.reverse.take (q - 1)).length = q := by
            rw [List.length_cons, List.length_take, List.length_reverse, HKL.out]; omega
          have HQL := Lib.hid hql
          clear hrev hx hx' hCl hy hql
          go_wp2_with (at_builtin; refine wp_app1B rfl _ _ rfl wo.heap.size (fun b => wo.heap.size ≤ b) (.slice B q d) (UInt8.ofNat (leB n).length :: lo.reverse.take (q - 1)) y _ rfl rfl rfl hR2 s2 (q + 1) ?_ ?_ ?_)
          · rw [HQL.out]
          · omega
          intro B1 d1 w3 hR3 hC3 _
          have hc3 := hC2.trans hC3 (fun b hb => .inr (Kd.R_own hR2 b hb.symm).1)
          have hR4 : Kd.byte.R 5 w3 wo.heap.size (fun b => wo.heap.size ≤ b) (.slice B1 (q + 1) d1) (UInt8.ofNat (leB n).length :: (lo.reverse.take (q + 1 - 1))) := by
            have h5 := byte_ge hR3
            have h6 : UInt8.ofNat (leB n).length :: lo.reverse.take (q - 1) ++ [y] = UInt8.ofNat (leB n).length :: (lo.reverse.take (q + 1 - 1)) := by rw [List.cons_append, HREV.out, Nat.add_sub_cancel]
            rw [← h6]
            first | exact h5 | (simpa using h5)
          have HQ1 : Hid (((q + 1 : Nat) : Int) = k - ((J : Int) - 1)) := by have := HQ.out; show _ = _; omega
          clear hR3 hC3 hR2 hC2 HQ
          go_wp2
          go_roundw
          case rel => exact ⟨(J : Int) - 1, q + 1, B1, d1, by go_num, by (first | rfl | go_num), by omega, by omega, HQ1, hR4, hc3⟩
          case measure => simp [intOf]
        · have hq : q = k + 1 := by have := HQ.out; omega
          have HE : Hid (Laid w (numB n) (.returned (.slice B q d)) wr) := by
            refine Laid.of (base := wo.heap.size) (ok := fun b => wo.heap.size ≤ b) ?_ s1 (hC.thenNew hC2)
            have h5 : numB n = UInt8.ofNat (leB n).length :: lo.reverse.take (q - 1) := by
              unfold numB
              rw [HLO.out, hq, Nat.add_sub_cancel, List.take_of_length_le (by rw [List.length_reverse, HKL.out]; omega)]
            rw [h5]
            exact hR2
          clear hq hR2
          go_wp2
          go_ret
          exact HE.out

theorem Laid.lit {w w' : World} {l : List UInt8} {v : Value} (h : Kd.byte.R 5 w' w.heap.size (fun b => some b = v.ownBlock) v l) (hc : Chg nob w w') : Laid w l (.returned v) w' := Laid.of h (Nat.le_refl _) hc
theorem numB_one : numB 1 = [1, 1] := by simp [numB, leB]
theorem numB_zero : numB 0 = [0] := by simp [numB, leB]
set_option maxHeartbeats 1000000 in
theorem ref_flag {w : World} (is : Bool) :
    Calls Try.prog 30 #[.bool is] w (Laid w (numB (if is then 1 else 0))) := by
  cases is
  · have HE : Hid (Laid w (numB 0) (.returned (.slice (some ⟨w.heap.size, 0, none⟩) 1 1)) (w.alloc (.cells #[.int .u8 0] 5))) := by
      rw [numB_zero]
      exact Laid.lit (R_lit w _ _ _ 1 rfl rfl (Nat.le_refl _) (by simp [maxLen])) ((Chg.refl _ _).alloc _)
    go_enter Try.func30, Try.ntmps30
    go_wp2
    go_ret
    exact HE.out
  · have HE : Hid (Laid w (numB 1) (.returned (.slice (some ⟨w.heap.size, 0, none⟩) 2 2)) (w.alloc (.cells #[.int .u8 1, .int .u8 1] 5))) := by
      rw [numB_one]
      exact Laid.lit (R_lit w _ _ _ 2 rfl rfl (Nat.le_refl _) (by simp [maxLen])) ((Chg.refl _ _).alloc _)
    go_enter Try.func30, Try.ntmps30
    go_wp2
    go_ret
    exact HE.out
end Go.Proofs.Ytmahjeafoogamaa
