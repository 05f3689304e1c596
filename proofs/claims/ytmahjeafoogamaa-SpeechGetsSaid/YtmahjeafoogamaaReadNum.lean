/- field.number and the reference's number: what bytes begin with. -/
import Derived.Test.YtmahjeafoogamaaFieldRef
import Derived.OwnWalk
import Derived.Laws.Bits64b
namespace Go.Proofs.Ytmahjeafoogamaa
open Go.RowKit
set_option linter.unusedVariables false
/-- The number that bytes spell, the highest first. -/
def beV (n : Nat) (l : List UInt8) : Nat := l.foldl (fun n b => n * 256 + b.toNat) n
theorem beV_take (n : Nat) (l : List UInt8) (j : Nat) (x : UInt8) (hx : l[j]? = some x) : beV n (l.take (j + 1)) = beV n (l.take j) * 256 + x.toNat := by
  rw [List.take_add_one, hx]
  simp [beV]
theorem beV_lt (l : List UInt8) : beV 0 l < 256 ^ l.length := by
  have : ∀ (l : List UInt8) (n k : Nat), n < 256 ^ k → beV n l < 256 ^ (k + l.length) := by
    intro l
    induction l with
    | nil => intro n k h; simpa [beV] using h
    | cons x l ih =>
      intro n k h
      have := x.toNat_lt
      have h2 := ih (n * 256 + x.toNat) (k + 1) (by rw [Nat.pow_succ]; omega)
      rw [List.length_cons, show k + (l.length + 1) = k + 1 + l.length from by omega]
      exact h2
  have := this l 0 0 (by simp)
  simpa using this
theorem beV_lt8 (l : List UInt8) (h : l.length ≤ 8) : beV 0 l < 18446744073709551616 := by
  have h1 := beV_lt l
  have h2 : 256 ^ l.length ≤ 256 ^ 8 := Nat.pow_le_pow_right (by omega) h
  have h3 : (256 : Nat) ^ 8 = 18446744073709551616 := by decide
  omega
theorem at_bytes {w : World} {ok : Nat → Prop} {A : Option Addr} {x : UInt8} {t : List UInt8} (h : Kd.byte.C w ok A (x :: t)) :
    ∃ b o, A = some ⟨b, o, none⟩ ∧ ok b ∧ ∀ (j : Nat) (y : UInt8), (x :: t)[j]? = some y → w.cell? ⟨b, o + j, none⟩ = some (.int .u8 (y.toNat : Int)) := by
  obtain ⟨b, o, c, e, ho, hk, hc⟩ := Kd.C_at' h (j := 0) (x := x) rfl
  refine ⟨b, o, e, ho, fun j y hy => ?_⟩
  obtain ⟨b', o', c', e', _, hk', hc'⟩ := Kd.C_at' h hy
  rw [e] at e'
  cases e'
  have h1 : c' = [.int .u8 (y.toNat : Int)] := hk'
  subst h1
  have h2 := hc' 0 _ rfl
  rw [show Kd.byte.sz = 1 from rfl, Nat.mul_one, Nat.add_zero] at h2
  exact h2
theorem or_byte (V Y : Nat) (hV : V < 72057594037927936) (hY : Y < 2 ^ 8) : bits .or .u64 ((V : Int) * 256) (Y : Int) = ((V * 256 + Y : Nat) : Int) := by
  rw [show (V : Int) * 256 = ((V * 256 : Nat) : Int) from by omega, bits_or_u64_nat _ _ (by omega) (by omega), Nat.mul_comm V 256, show (256 : Nat) = 2 ^ 8 from rfl, Nat.two_pow_add_eq_or_of_lt hY]
/-- What bytes begin with: the number, how many bytes it has, the error. -/
def numAt (bs : List UInt8) : Nat × Nat × Nat :=
  match bs with
  | [] => (0, 0, 30)
  | k :: t => if 8 < k.toNat ∨ (0 < k.toNat ∧ t.head? = some 0) then (0, 0, 40) else if bs.length < k.toNat + 1 then (0, 0, 30) else (beV 0 (t.take k.toNat), k.toNat + 1, 0)
def numV (x : Nat × Nat × Nat) : Value := .tuple #[.int .u64 (x.1 : Int), .int .i64 (x.2.1 : Int), .int .i64 (x.2.2 : Int)]
set_option maxHeartbeats 2000000 in
theorem field_number {w : World} {ok : Nat → Prop} {A : Option Addr} {m c : Nat} {bs : List UInt8} (hb : Kd.byte.C w ok A bs) (hm : bs.length = m) (hc : m ≤ c) :
    Calls Try.prog 60 #[.slice A m c] w fun e w' => e = .returned (numV (numAt bs)) ∧ Chg nob w w' := by
  have hs := hb.small
  go_enter Try.func60, Try.ntmps60
  cases bs with
  | nil =>
    obtain rfl : m = 0 := hm.symm
    go_wp2
    go_ret3
    exact ⟨rfl, Chg.refl _ _⟩
  | cons k t =>
    obtain ⟨b, o, rfl, _, hcells⟩ := at_bytes hb
    have hk0 : w.cell? ⟨b, o, none⟩ = some (.int .u8 (k.toNat : Int)) := hcells 0 k rfl
    have HC := Lib.hid hcells
    clear hcells
    have hk256 := k.toNat_lt
    obtain ⟨K, hK⟩ : ∃ K, k.toNat = K := ⟨_, rfl⟩
    rw [hK] at hk0 hk256
    have hm0 : 0 < m := by rw [← hm]; simp
    have hms : m ≤ 9223372036854775807 := by rw [← hm]; exact hs
    have HM := Lib.hid hm
    have HK := Lib.hid hK
    clear hm hK hs
    by_cases h8 : 8 < K
    · have HE : Hid (numV (numAt (k :: t)) = numV (0, 0, 40)) := by show _ = _; rw [numAt, if_pos (.inl (by rw [HK.out]; exact h8))]
      go_wp2
      go_ret3
      refine ⟨?_, Chg.refl _ _⟩
      rw [HE.out]
      rfl
    · by_cases hz : 0 < K ∧ t.head? = some 0
      · obtain ⟨hz0, hz1⟩ := hz
        have HE : Hid (numV (numAt (k :: t)) = numV (0, 0, 40)) := by show _ = _; rw [numAt, if_pos (.inr ⟨by rw [HK.out]; exact hz0, hz1⟩)]
        cases t with
        | nil => cases hz1
        | cons x t =>
          obtain rfl : x = 0 := by simpa using hz1
          have hx1 : w.cell? ⟨b, o + 1, none⟩ = some (.int .u8 0) := HC.out 1 0 rfl
          have hm1 : 1 < m := by rw [← HM.out]; simp
          go_wp2
          go_ret3
          refine ⟨?_, Chg.refl _ _⟩
          rw [HE.out]
          rfl
      · have hnz : ¬ (8 < k.toNat ∨ (0 < k.toNat ∧ t.head? = some 0)) := by rw [HK.out]; rintro (h | h); exact h8 h; exact hz h
        by_cases hl : m < K + 1
        · have HE : Hid (numV (numAt (k :: t)) = numV (0, 0, 30)) := by show _ = _; rw [numAt, if_neg hnz, if_pos (by rw [HM.out, HK.out]; exact hl)]
          have HZ := Lib.hid hnz
          clear hnz hz
          have h0 : 0 < K := by omega
          cases t with
          | nil =>
            have hm1 : m = 1 := by rw [← HM.out]; rfl
            subst hm1
            go_wp2
            go_ret3
            refine ⟨?_, Chg.refl _ _⟩
            rw [HE.out]
            rfl
          | cons x t =>
            obtain ⟨X, hX⟩ : ∃ X, x.toNat = X := ⟨_, rfl⟩
            have hX0 : 0 < X := by
              apply Nat.pos_of_ne_zero
              intro e
              refine HZ.out (.inr ⟨by rw [HK.out]; exact h0, ?_⟩)
              have : x = 0 := by apply UInt8.toNat.inj; rw [hX, e]; rfl
              rw [this]; rfl
            have hx1 : w.cell? ⟨b, o + 1, none⟩ = some (.int .u8 (X : Int)) := by rw [← hX]; exact HC.out 1 x rfl
            have hm1 : 1 < m := by rw [← HM.out]; simp
            have hXb : ((X : Int) == 0) = false := by simp; omega
            have hKb : decide ((8 : Int) < (K : Int)) = false := by simp; omega
            clear hX
            go_wp2
            go_ret3
            refine ⟨?_, Chg.refl _ _⟩
            rw [HE.out]
            rfl
        · have hbe : beV 0 (t.take K) < 18446744073709551616 := beV_lt8 _ (by rw [List.length_take]; omega)
          have hlt : K ≤ t.length := by have := HM.out; rw [List.length_cons] at this; omega
          have HE : Hid (numV (numAt (k :: t)) = .tuple #[.int .u64 (beV 0 (t.take K) : Nat), .int .i64 ((K : Int) + 1), .int .i64 0]) := by
            show _ = _
            rw [numAt, if_neg hnz, if_neg (by rw [HM.out, HK.out]; exact hl), HK.out]
            rfl
          have hKb : decide ((8 : Int) < (K : Int)) = false := by simp; omega
          by_cases h0 : 0 < K
          · obtain ⟨x, t', rfl⟩ : ∃ x t', t = x :: t' := by cases t with
              | nil => simp at hlt; omega
              | cons x t' => exact ⟨x, t', rfl⟩
            obtain ⟨X, hX⟩ : ∃ X, x.toNat = X := ⟨_, rfl⟩
            have hX0 : 0 < X := by
              apply Nat.pos_of_ne_zero
              intro e
              refine hnz (.inr ⟨by rw [HK.out]; exact h0, ?_⟩)
              have : x = 0 := by apply UInt8.toNat.inj; rw [hX, e]; rfl
              rw [this]; rfl
            have hx1 : w.cell? ⟨b, o + 1, none⟩ = some (.int .u8 (X : Int)) := by rw [← hX]; exact HC.out 1 x rfl
            have hm1 : 1 < m := by rw [← HM.out]; simp
            have hXb : ((X : Int) == 0) = false := by simp; omega
            have HZ := Lib.hid hnz
            have HLT := Lib.hid hlt
            clear hX hnz hz hlt
            have hcc : ¬ c = 1 := by omega
            go_wp2
            go_loopw [6, 45] (fun v i wr => ∃ (j V : Nat), v = .int .u64 V ∧ i = .int .i64 j ∧ j ≤ K ∧ Hid (V = beV 0 ((x :: t').take j)) ∧ wr = w) (fun _ i _ => K - (intOf i).toNat)
            case atStart => exact ⟨0, 0, rfl, rfl, Nat.zero_le _, rfl, rfl⟩
            case round =>
              obtain ⟨j, V, rfl, rfl, hj, HV, rfl⟩ := hrel
              by_cases hlt : j < K
              · obtain ⟨y, hy⟩ : ∃ y, (x :: t')[j]? = some y := ⟨_, List.getElem?_eq_getElem (by have := HLT.out; omega)⟩
                have hVlt : V < 72057594037927936 := by
                  have h1 := beV_lt ((x :: t').take j)
                  rw [← HV.out] at h1
                  have h2 : (256 : Nat) ^ ((x :: t').take j).length ≤ 256 ^ 7 := Nat.pow_le_pow_right (by omega) (by rw [List.length_take]; omega)
                  have h3 : (256 : Nat) ^ 7 = 72057594037927936 := by decide
                  omega
                have hcy : wr.cell? ⟨b, o + 1 + j, none⟩ = some (.int .u8 (y.toNat : Int)) := by
                  have := HC.out (j + 1) y (by simpa using hy)
                  rw [show o + 1 + j = o + (j + 1) from by omega]
                  exact this
                have HN : Hid (V * 256 + y.toNat = beV 0 ((x :: t').take (j + 1))) := by show _ = _; rw [beV_take 0 _ j y hy, ← HV.out]
                have hy256 := y.toNat_lt
                obtain ⟨Y, hY⟩ : ∃ Y, y.toNat = Y := ⟨_, rfl⟩
                rw [hY] at hcy HN hy256
                clear hY hy
                have b1 : (0 : Int) ≤ (j : Int) := by omega
                have b2 : (j : Int) < (K : Int) := by omega
                go_wp2
                refine ⟨⟨j + 1, V * 256 + Y, ?_, by go_num, by omega, HN, trivial⟩, by simp [intOf]; omega⟩
                rw [or_byte V Y hVlt hy256]
              · obtain rfl : j = K := by omega
                go_wp2
                go_ret3
                refine ⟨?_, Chg.refl _ _⟩
                rw [HE.out, ← HV.out]
                rfl
          · obtain rfl : K = 0 := by omega
            clear hnz hz
            go_wp2
            all_goals
              go_loopw [6, 45] (fun v i wr => v = .int .u64 0 ∧ i = .int .i64 0 ∧ wr = w) (fun _ _ _ => 0)
              case atStart => exact ⟨rfl, rfl, rfl⟩
              case round =>
                obtain ⟨rfl, rfl, rfl⟩ := hrel
                go_wp2
                go_ret3
                refine ⟨?_, Chg.refl _ _⟩
                rw [HE.out]
                rfl
end Go.Proofs.Ytmahjeafoogamaa
