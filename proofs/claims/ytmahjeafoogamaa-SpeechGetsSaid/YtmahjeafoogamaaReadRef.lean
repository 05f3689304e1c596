/- The reference's number: what bytes begin with. -/
import Derived.Test.YtmahjeafoogamaaReadNum
namespace Go.Proofs.Ytmahjeafoogamaa
open Go.RowKit
set_option linter.unusedVariables false
set_option maxHeartbeats 2000000 in
theorem ref_number {w : World} {ok : Nat → Prop} {A : Option Addr} {m c : Nat} {bs : List UInt8} (hb : Kd.byte.C w ok A bs) (hm : bs.length = m) (hc : m ≤ c) :
    Calls Try.prog 52 #[.slice A m c] w fun e w' => e = .returned (numV (numAt bs)) ∧ Chg nob w w' := by
  have hs := hb.small
  go_enter Try.func52, Try.ntmps52
  cases bs with
  | nil =>
    obtain rfl : m = 0 := hm.symm
    go_wp2
    go_ret3
    exact ⟨rfl, Chg.refl _ _⟩
  | cons k t =>
    obtain ⟨b, o, rfl, _, hcells⟩ := at_bytes hb
    have hk0 : w.cell? ⟨b, o, none⟩ = some (.int .u8 (k.toNat : Int)) := hcells 0 k rfl
    have HC := Lib.hid hcells
    clear hcells
    have hk256 := k.toNat_lt
    obtain ⟨K, hK⟩ : ∃ K, k.toNat = K := ⟨_, rfl⟩
    rw [hK] at hk0 hk256
    have hm0 : 0 < m := by rw [← hm]; simp
    have hms : m ≤ 9223372036854775807 := by rw [← hm]; exact hs
    have HM := Lib.hid hm
    have HK := Lib.hid hK
    clear hm hK hs
    by_cases h8 : 8 < K
    · have HE : Hid (numV (numAt (k :: t)) = numV (0, 0, 40)) := by show _ = _; rw [numAt, if_pos (.inl (by rw [HK.out]; exact h8))]
      go_wp2
      go_ret3
      refine ⟨?_, Chg.refl _ _⟩
      rw [HE.out]
      rfl
    · by_cases hz : 0 < K ∧ t.head? = some 0
      · obtain ⟨hz0, hz1⟩ := hz
        have HE : Hid (numV (numAt (k :: t)) = numV (0, 0, 40)) := by show _ = _; rw [numAt, if_pos (.inr ⟨by rw [HK.out]; exact hz0, hz1⟩)]
        cases t with
        | nil => cases hz1
        | cons x t =>
          obtain rfl : x = 0 := by simpa using hz1
          have hx1 : w.cell? ⟨b, o + 1, none⟩ = some (.int .u8 0) := HC.out 1 0 rfl
          have hm1 : 1 < m := by rw [← HM.out]; simp
          go_wp2
          go_ret3
          refine ⟨?_, Chg.refl _ _⟩
          rw [HE.out]
          rfl
      · have hnz : ¬ (8 < k.toNat ∨ (0 < k.toNat ∧ t.head? = some 0)) := by rw [HK.out]; rintro (h | h); exact h8 h; exact hz h
        by_cases hl : m < K + 1
        · have HE : Hid (numV (numAt (k :: t)) = numV (0, 0, 30)) := by show _ = _; rw [numAt, if_neg hnz, if_pos (by rw [HM.out, HK.out]; exact hl)]
          have HZ := Lib.hid hnz
          clear hnz hz
          have h0 : 0 < K := by omega
          cases t with
          | nil =>
            have hm1 : m = 1 := by rw [← HM.out]; rfl
            subst hm1
            go_wp2
            go_ret3
            refine ⟨?_, Chg.refl _ _⟩
            rw [HE.out]
            rfl
          | cons x t =>
            obtain ⟨X, hX⟩ : ∃ X, x.toNat = X := ⟨_, rfl⟩
            have hX0 : 0 < X := by
              apply Nat.pos_of_ne_zero
              intro e
              refine HZ.out (.inr ⟨by rw [HK.out]; exact h0, ?_⟩)
              have : x = 0 := by apply UInt8.toNat.inj; rw [hX, e]; rfl
              rw [this]; rfl
            have hx1 : w.cell? ⟨b, o + 1, none⟩ = some (.int .u8 (X : Int)) := by rw [← hX]; exact HC.out 1 x rfl
            have hm1 : 1 < m := by rw [← HM.out]; simp
            have hXb : ((X : Int) == 0) = false := by simp; omega
            have hKb : decide ((8 : Int) < (K : Int)) = false := by simp; omega
            clear hX
            go_wp2
            go_ret3
            refine ⟨?_, Chg.refl _ _⟩
            rw [HE.out]
            rfl
        · have hbe : beV 0 (t.take K) < 18446744073709551616 := beV_lt8 _ (by rw [List.length_take]; omega)
          have hlt : K ≤ t.length := by have := HM.out; rw [List.length_cons] at this; omega
          have HE : Hid (numV (numAt (k :: t)) = .tuple #[.int .u64 (beV 0 (t.take K) : Nat), .int .i64 (1 + (K : Int)), .int .i64 0]) := by
            show _ = _
            rw [numAt, if_neg hnz, if_neg (by rw [HM.out, HK.out]; exact hl), HK.out]
            show Value.tuple #[_, .int .i64 ((K + 1 : Nat) : Int), _] = _
            rw [show ((K + 1 : Nat) : Int) = 1 + (K : Int) from by omega]
            rfl
          have hKb : decide ((8 : Int) < (K : Int)) = false := by simp; omega
          by_cases h0 : 0 < K
          · obtain ⟨x, t', rfl⟩ : ∃ x t', t = x :: t' := by cases t with
              | nil => simp at hlt; omega
              | cons x t' => exact ⟨x, t', rfl⟩
            obtain ⟨X, hX⟩ : ∃ X, x.toNat = X := ⟨_, rfl⟩
            have hX0 : 0 < X := by
              apply Nat.pos_of_ne_zero
              intro e
              refine hnz (.inr ⟨by rw [HK.out]; exact h0, ?_⟩)
              have : x = 0 := by apply UInt8.toNat.inj; rw [hX, e]; rfl
              rw [this]; rfl
            have hx1 : w.cell? ⟨b, o + 1, none⟩ = some (.int .u8 (X : Int)) := by rw [← hX]; exact HC.out 1 x rfl
            have hm1 : 1 < m := by rw [← HM.out]; simp
            have hXb : ((X : Int) == 0) = false := by simp; omega
            have HZ := Lib.hid hnz
            have HLT := Lib.hid hlt
            clear hX hnz hz hlt
            have hcc : ¬ c = 1 := by omega
            go_wp2
            go_loopw [6, 7] (fun v i wr => ∃ (j V : Nat), v = .int .u64 V ∧ i = .int .i64 ((j : Int) + 1) ∧ j ≤ K ∧ Hid (V = beV 0 ((x :: t').take j)) ∧ wr = w) (fun _ i _ => K + 1 - (intOf i).toNat)
            case atStart => exact ⟨0, 0, rfl, rfl, Nat.zero_le _, rfl, rfl⟩
            case round =>
              obtain ⟨j, V, rfl, rfl, hj, HV, rfl⟩ := hrel
              by_cases hlt : j < K
              · obtain ⟨y, hy⟩ : ∃ y, (x :: t')[j]? = some y := ⟨_, List.getElem?_eq_getElem (by have := HLT.out; omega)⟩
                have hVlt : V < 72057594037927936 := by
                  have h1 := beV_lt ((x :: t').take j)
                  rw [← HV.out] at h1
                  have h2 : (256 : Nat) ^ ((x :: t').take j).length ≤ 256 ^ 7 := Nat.pow_le_pow_right (by omega) (by rw [List.length_take]; omega)
                  have h3 : (256 : Nat) ^ 7 = 72057594037927936 := by decide
                  omega
                have hcy : wr.cell? ⟨b, o + (j + 1), none⟩ = some (.int .u8 (y.toNat : Int)) := HC.out (j + 1) y (by simpa using hy)
                have HN : Hid (V * 256 + y.toNat = beV 0 ((x :: t').take (j + 1))) := by show _ = _; rw [beV_take 0 _ j y hy, ← HV.out]
                have hy256 := y.toNat_lt
                obtain ⟨Y, hY⟩ : ∃ Y, y.toNat = Y := ⟨_, rfl⟩
                rw [hY] at hcy HN hy256
                clear hY hy
                have b1 : (0 : Int) ≤ (j : Int) := by omega
                have b2 : (j : Int) < (K : Int) := by omega
                go_wp2
                exact ⟨⟨j + 1, V * 256 + Y, by go_num, by go_num, by omega, HN, trivial⟩, by simp [intOf]; omega⟩
              · obtain rfl : j = K := by omega
                go_wp2
                go_ret3
                refine ⟨?_, Chg.refl _ _⟩
                rw [HE.out, ← HV.out]
                rfl
          · obtain rfl : K = 0 := by omega
            clear hnz hz
            go_wp2
            all_goals
              go_loopw [6, 7] (fun v i wr => v = .int .u64 0 ∧ i = .int .i64 1 ∧ wr = w) (fun _ _ _ => 0)
              case atStart => exact ⟨rfl, rfl, rfl⟩
              case round =>
                obtain ⟨rfl, rfl, rfl⟩ := hrel
                go_wp2
                go_ret3
                refine ⟨?_, Chg.refl _ _⟩
                rw [HE.out]
                rfl
end Go.Proofs.Ytmahjeafoogamaa
