/- field.number and the reference's number: what bytes begin with. -/
import Derived.Test.YtmahjeafoogamaaFieldRef
import Derived.OwnWalk
import Derived.Laws.Bits64b
import Derived.Handy
namespace Go.Proofs.Ytmahjeafoogamaa
open Go.RowKit
set_option linter.unusedVariables false
/-- The number that bytes spell, the highest first. -/
def beV (n : Nat) (l : List UInt8) : Nat := l.foldl (fun n b => n * 256 + b.toNat) n
theorem beV_take (n : Nat) (l : List UInt8) (j : Nat) (x : UInt8) (hx : l[j]? = some x) : beV n (l.take (j + 1)) = beV n (l.take j) * 256 + x.toNat := by
  rw [List.take_add_one, hx]
  simp [beV]
theorem beV_lt (l : List UInt8) : beV 0 l < 256 ^ l.length := by
  have : ∀ (l : List UInt8) (n k : Nat), n < 256 ^ k → beV n l < 256 ^ (k + l.length) := by
    intro l
    induction l with
    | nil => intro n k h; simpa [beV] using h
    | cons x l ih =>
      intro n k h
      have := x.toNat_lt
      have h2 := ih (n * 256 + x.toNat) (k + 1) (by rw [Nat.pow_succ]; omega)
      rw [List.length_cons, show k + (l.length + 1) = k + 1 + l.length from by omega]
      exact h2
  have := this l 0 0 (by simp)
  simpa using this
theorem beV_lt8 (l : List UInt8) (h : l.length ≤ 8) : beV 0 l < 18446744073709551616 := by
  have h1 := beV_lt l
  have h2 : 256 ^ l.length ≤ 256 ^ 8 := Nat.pow_le_pow_right (by omega) h
  have h3 : (256 : Nat) ^ 8 = 18446744073709551616 := by decide
  omega
theorem at_bytes {w : World} {ok : Nat → Prop} {A : Option Addr} {x : UInt8} {t : List UInt8} (h : Kd.byte.C w ok A (x :: t)) :
    ∃ b o, A = some ⟨b, o, none⟩ ∧ ok b ∧ ∀ (j : Nat) (y : UInt8), (x :: t)[j]? = some y → w.cell? ⟨b, o + j, none⟩ = some (.int .u8 (y.toNat : Int)) := by
  obtain ⟨b, o, c, e, ho, hk, hc⟩ := Kd.C_at' h (j := 0) (x := x) rfl
  refine ⟨b, o, e, ho, fun j y hy => ?_⟩
  obtain ⟨b', o', c', e', _, hk', hc'⟩ := Kd.C_at' h hy
  rw [e] at e'
  cases e'
  have h1 : c' = [.int .u8 (y.toNat : Int)] := hk'
  subst h1
  have h2 := hc' 0 _ rfl
  rw [show Kd.byte.sz = 1 from rfl, Nat.mul_one, Nat.add_zero] at h2
  exact h2
theorem or_byte (V Y : Nat) (hV : V < 72057594037927936) (hY : Y < 2 ^ 8) : bits .or .u64 ((V : Int) * 256) (Y : Int) = ((V * 256 + Y : Nat) : Int) := by
  rw [show (V : Int) * 256 = ((V * 256 : Nat) : Int) from by omega, bits_or_u64_nat _ _ (by omega) (by omega), Nat.mul_comm V 256, show (256 : Nat) = 2 ^ 8 from rfl, Nat.two_pow_add_eq_or_of_lt hY]
/-- What bytes begin with: the number, how many bytes it has, the error. -/
def numAt (bs : List UInt8) : Nat × Nat × Nat :=
  match bs with
  | [] => (0, 0, 30)
  | k :: t => if 8 < k.toNat ∨ (0 < k.toNat ∧ t.head? = some 0) then (0, 0, 40) else if bs.length < k.toNat + 1 then (0, 0, 30) else (beV 0 (t.take k.toNat), k.toNat + 1, 0)
def numV (x : Nat × Nat × Nat) : Value := .tuple #[.int .u64 (x.1 : Int), .int .i64 (x.2.1 : Int), .int .i64 (x.2.2 : Int)]
set_option maxHeartbeats 2000000 in
theorem field_number {w : World} {ok : Nat → Prop} {A : Option Addr} {m c : Nat} {bs : List UInt8} (hb : Kd.byte.C w ok A bs) (hm : bs.length = m) (hc : m ≤ c) :
    Calls Try.prog 60 #[.slice A m c] w fun e w' => e = .returned (numV (numAt bs)) ∧ Chg nob w w' := by
  have hs := hb.small
  go_enter Try.func60, Try.ntmps60
  cases bs with
  | nil =>
    obtain rfl : m = 0 := hm.symm
    go_wp2
    go_ret3
    exact ⟨rfl, Chg.refl _ _⟩
  | cons k t =>
    obtain ⟨b, o, rfl, _, hcells⟩ := at_bytes hb
    have hk0 : w.cell? ⟨b, o, none⟩ = some (.int .u8 (k.toNat : Int)) := hcells 0 k rfl
    have HC := Lib.hid hcells
    clear hcells
    have hk256 := k.toNat_lt
    obtain ⟨K, hK⟩ : ∃ K, k.toNat = K := ⟨_, rfl⟩
    rw [hK] at hk0 hk256
    have hm0 : 0 < m := by rw [← hm]; simp
    have hms : m ≤ 9223372036854775807 := by rw [← hm]; exact hs
    have HM := Lib.hid hm
    have HK := Lib.hid hK
    clear hm hK hs
    by_cases h8 : 8 < K
    · have HE : Hid (numV (numAt (k :: t)) = numV (0, 0, 40)) := by show _ = _; rw [numAt, if_pos (.inl (by rw [HK.out]; exact h8))]
      go_wp2
      go_ret3
      refine ⟨?_, Chg.refl _ _⟩
      rw [HE.out]
      rfl
    · by_cases hz : 0 < K ∧ t.head? = some 0
      · obtain ⟨hz0, hz1⟩ := hz
        have HE : Hid (numV (numAt (k :: t)) = numV (0, 0, 40)) := by show _ = _; rw [numAt, if_pos (.inr ⟨by rw [HK.out]; exact hz0, hz1⟩)]
        cases t with
        | nil => cases hz1
        | cons x t =>
          obtain rfl : x = 0 := by simpa using hz1
          have hx1 : w.cell? ⟨b, o + 1, none⟩ = some (.int .u8 0) := HC.out 1 0 rfl
          have hm1 : 1 < m := by rw [← HM.out]; simp
          go_wp2
          go_ret3
          refine ⟨?_, Chg.refl _ _⟩
          rw [HE.out]
          rfl
      · have hnz : ¬ (8 < k.toNat ∨ (0 < k.toNat ∧ t.head? = some 0)) := by rw [HK.out]; rintro (h | h); exact h8 h; exact hz h
        by_cases hl : m < K + 1
        · have HE : Hid (numV (numAt (k :: t)) = numV (0, 0, 30)) := by show _ = _; rw [numAt, if_neg hnz, if_pos (by rw [HM.out, HK.out]; exact hl)]
          have HZ := Lib.hid hnz
          clear hnz hz
          have h0 : 0 < K := by omega
          cases t with
          | nil =>
            have hm1 : m = 1 := by rw [← HM.out]; rfl
            subst hm1
            go_wp2
            go_ret3
            refine ⟨?_, Chg.refl _ _⟩
            rw [HE.out]
            rfl
          | cons x t =>
            obtain ⟨X, hX⟩ : ∃ X, x.toNat = X := ⟨_, rfl⟩
            have hX0 : 0 < X := by
              apply Nat.pos_of_ne_zero
              intro e
              refine HZ.out (.inr ⟨by rw [HK.out]; exact h0, ?_⟩)
              have : x = 0 := by apply UInt8.toNat.inj; rw [hX, e]; rfl
              rw [this]; rfl
            have hx1 : w.cell? ⟨b, o + 1, none⟩ = some (.int .u8 (X : Int)) := by rw [← hX]; exact HC.out 1 x rfl
            have hm1 : 1 < m := by rw [← HM.out]; simp
            have hXb : ((X : Int) == 0) = false := by simp; omega
            have hKb : decide ((8 : Int) < (K : Int)) = false := by simp; omega
            clear hX
            go_wp2
            go_ret3
            refine ⟨?_, Chg.refl _ _⟩
            rw [HE.out]
            rfl
        · have hbe : beV 0 (t.take K) < 18446744073709551616 := beV_lt8 _ (by rw [List.length_take]; omega)
          have hlt : K ≤ t.length := by have := HM.out; rw [List.length_cons] at this; omega
          have HE : Hid (numV (numAt (k :: t)) = .tuple #[.int .u64 (beV 0 (t.take K) : Nat), .int .i64 ((K : Int) + 1), .int .i64 0]) := by
            show _ = _
            rw [numAt, if_neg hnz, if_neg (by rw [HM.out, HK.out]; exact hl), HK.out]
            rfl
          have hKb : decide ((8 : Int) < (K : Int)) = false := by simp; omega
          by_cases h0 : 0 < K
          · obtain ⟨x, t', rfl⟩ : ∃ x t', t = x :: t' := by cases t with
              | nil => simp at hlt; omega
              | cons x t' => exact ⟨x, t', rfl⟩
            obtain ⟨X, hX⟩ : ∃ X, x.toNat = X := ⟨_, rfl⟩
            have hX0 : 0 < X := by
              apply Nat.pos_of_ne_zero
              intro e
              refine hnz (.inr ⟨by rw [HK.out]; exact h0, ?_⟩)
              have : x = 0 := by apply UInt8.toNat.inj; rw [hX, e]; rfl
              rw [this]; rfl
            have hx1 : w.cell? ⟨b, o + 1, none⟩ = some (.int .u8 (X : Int)) := by rw [← hX]; exact HC.out 1 x rfl
            have hm1 : 1 < m := by rw [← HM.out]; simp
            have hXb : ((X : Int) == 0) = false := by simp; omega
            have HZ := Lib.hid hnz
            have HLT := Lib.hid hlt
            clear hX hnz hz hlt
            have hcc : ¬ c = 1 := by omega
            go_wp2
            go_loopw [6, 45] (fun v i wr => ∃ (j V : Nat), v = .int .u64 V ∧ i = .int .i64 j ∧ j ≤ K ∧ Hid (V = beV 0 ((x :: t').take j)) ∧ wr = w) (fun _ i _ => K - (intOf i).toNat)
            case atStart => exact ⟨0, 0, rfl, rfl, Nat.zero_le _, rfl, rfl⟩
            case round =>
              obtain ⟨j, V, rfl, rfl, hj, HV, rfl⟩ := hrel
              by_cases hlt : j < K
              · obtain ⟨y, hy⟩ : ∃ y, (x :: t')[j]? = some y := ⟨_, List.getElem?_eq_getElem (by have := HLT.out; omega)⟩
                have hVlt : V < 72057594037927936 := by
                  have h1 := beV_lt ((x :: t').take j)
                  rw [← HV.out] at h1
                  have h2 : (256 : Nat) ^ ((x :: t').take j).length ≤ 256 ^ 7 := Nat.pow_le_pow_right (by omega) (by rw [List.length_take]; omega)
                  have h3 : (256 : Nat) ^ 7 = 72057594037927936 := by decide
                  omega
                have hcy : wr.cell? ⟨b, o + 1 + j, none⟩ = some (.int .u8 (y.toNat : Int)) := by
                  have := HC.out (j + 1) y (by simpa using hy)
                  rw [show o + 1 + j = o + (j + 1) from by omega]
                  exact this
                have HN : Hid (V * 256 + y.toNat = beV 0 ((x :: t').take (j + 1))) := by show _ = _; rw [beV_take 0 _ j y hy, ← HV.out]
                have hy256 := y.toNat_lt
                obtain ⟨Y, hY⟩ : ∃ Y, y.toNat = Y := ⟨_, rfl⟩
                rw [hY] at hcy HN hy256
                clear hY hy
                have b1 : (0 : Int) ≤ (j : Int) := by omega
                have b2 : (j : Int) < (K : Int) := by omega
                go_wp2
                refine ⟨⟨j + 1, V * 256 + Y, ?_, by go_num, by omega, HN, trivial⟩, by simp [intOf]; omega⟩
                rw [or_byte V Y hVlt hy256]
              · obtain rfl : j = K := by omega
                go_wp2
                go_ret3
                refine ⟨?_, Chg.refl _ _⟩
                rw [HE.out, ← HV.out]
                rfl
          · obtain rfl : K = 0 := by omega
            clear hnz hz
            go_wp2
            all_goals
              go_loopw [6, 45] (fun v i wr => v = .int .u64 0 ∧ i = .int .i64 0 ∧ wr = w) (fun _ _ _ => 0)
              case atStart => exact ⟨rfl, rfl, rfl⟩
              case round =>
                obtain ⟨rfl, rfl, rfl⟩ := hrel
                go_wp2
                go_ret3
                refine ⟨?_, Chg.refl _ _⟩
                rw [HE.out]
                rfl
end Go.Proofs.Ytmahjeafoogamaa

/- The reference's number: what bytes begin with. -/
namespace Go.Proofs.Ytmahjeafoogamaa
open Go.RowKit
set_option linter.unusedVariables false
set_option maxHeartbeats 2000000 in
theorem ref_number {w : World} {ok : Nat → Prop} {A : Option Addr} {m c : Nat} {bs : List UInt8} (hb : Kd.byte.C w ok A bs) (hm : bs.length = m) (hc : m ≤ c) :
    Calls Try.prog 52 #[.slice A m c] w fun e w' => e = .returned (numV (numAt bs)) ∧ Chg nob w w' := by
  have hs := hb.small
  go_enter Try.func52, Try.ntmps52
  cases bs with
  | nil =>
    obtain rfl : m = 0 := hm.symm
    go_wp2
    go_ret3
    exact ⟨rfl, Chg.refl _ _⟩
  | cons k t =>
    obtain ⟨b, o, rfl, _, hcells⟩ := at_bytes hb
    have hk0 : w.cell? ⟨b, o, none⟩ = some (.int .u8 (k.toNat : Int)) := hcells 0 k rfl
    have HC := Lib.hid hcells
    clear hcells
    have hk256 := k.toNat_lt
    obtain ⟨K, hK⟩ : ∃ K, k.toNat = K := ⟨_, rfl⟩
    rw [hK] at hk0 hk256
    have hm0 : 0 < m := by rw [← hm]; simp
    have hms : m ≤ 9223372036854775807 := by rw [← hm]; exact hs
    have HM := Lib.hid hm
    have HK := Lib.hid hK
    clear hm hK hs
    by_cases h8 : 8 < K
    · have HE : Hid (numV (numAt (k :: t)) = numV (0, 0, 40)) := by show _ = _; rw [numAt, if_pos (.inl (by rw [HK.out]; exact h8))]
      go_wp2
      go_ret3
      refine ⟨?_, Chg.refl _ _⟩
      rw [HE.out]
      rfl
    · by_cases hz : 0 < K ∧ t.head? = some 0
      · obtain ⟨hz0, hz1⟩ := hz
        have HE : Hid (numV (numAt (k :: t)) = numV (0, 0, 40)) := by show _ = _; rw [numAt, if_pos (.inr ⟨by rw [HK.out]; exact hz0, hz1⟩)]
        cases t with
        | nil => cases hz1
        | cons x t =>
          obtain rfl : x = 0 := by simpa using hz1
          have hx1 : w.cell? ⟨b, o + 1, none⟩ = some (.int .u8 0) := HC.out 1 0 rfl
          have hm1 : 1 < m := by rw [← HM.out]; simp
          go_wp2
          go_ret3
          refine ⟨?_, Chg.refl _ _⟩
          rw [HE.out]
          rfl
      · have hnz : ¬ (8 < k.toNat ∨ (0 < k.toNat ∧ t.head? = some 0)) := by rw [HK.out]; rintro (h | h); exact h8 h; exact hz h
        by_cases hl : m < K + 1
        · have HE : Hid (numV (numAt (k :: t)) = numV (0, 0, 30)) := by show _ = _; rw [numAt, if_neg hnz, if_pos (by rw [HM.out, HK.out]; exact hl)]
          have HZ := Lib.hid hnz
          clear hnz hz
          have h0 : 0 < K := by omega
          cases t with
          | nil =>
            have hm1 : m = 1 := by rw [← HM.out]; rfl
            subst hm1
            go_wp2
            go_ret3
            refine ⟨?_, Chg.refl _ _⟩
            rw [HE.out]
            rfl
          | cons x t =>
            obtain ⟨X, hX⟩ : ∃ X, x.toNat = X := ⟨_, rfl⟩
            have hX0 : 0 < X := by
              apply Nat.pos_of_ne_zero
              intro e
              refine HZ.out (.inr ⟨by rw [HK.out]; exact h0, ?_⟩)
              have : x = 0 := by apply UInt8.toNat.inj; rw [hX, e]; rfl
              rw [this]; rfl
            have hx1 : w.cell? ⟨b, o + 1, none⟩ = some (.int .u8 (X : Int)) := by rw [← hX]; exact HC.out 1 x rfl
            have hm1 : 1 < m := by rw [← HM.out]; simp
            have hXb : ((X : Int) == 0) = false := by simp; omega
            have hKb : decide ((8 : Int) < (K : Int)) = false := by simp; omega
            clear hX
            go_wp2
            go_ret3
            refine ⟨?_, Chg.refl _ _⟩
            rw [HE.out]
            rfl
        · have hbe : beV 0 (t.take K) < 18446744073709551616 := beV_lt8 _ (by rw [List.length_take]; omega)
          have hlt : K ≤ t.length := by have := HM.out; rw [List.length_cons] at this; omega
          have HE : Hid (numV (numAt (k :: t)) = .tuple #[.int .u64 (beV 0 (t.take K) : Nat), .int .i64 (1 + (K : Int)), .int .i64 0]) := by
            show _ = _
            rw [numAt, if_neg hnz, if_neg (by rw [HM.out, HK.out]; exact hl), HK.out]
            show Value.tuple #[_, .int .i64 ((K + 1 : Nat) : Int), _] = _
            rw [show ((K + 1 : Nat) : Int) = 1 + (K : Int) from by omega]
            rfl
          have hKb : decide ((8 : Int) < (K : Int)) = false := by simp; omega
          by_cases h0 : 0 < K
          · obtain ⟨x, t', rfl⟩ : ∃ x t', t = x :: t' := by cases t with
              | nil => simp at hlt; omega
              | cons x t' => exact ⟨x, t', rfl⟩
            obtain ⟨X, hX⟩ : ∃ X, x.toNat = X := ⟨_, rfl⟩
            have hX0 : 0 < X := by
              apply Nat.pos_of_ne_zero
              intro e
              refine hnz (.inr ⟨by rw [HK.out]; exact h0, ?_⟩)
              have : x = 0 := by apply UInt8.toNat.inj; rw [hX, e]; rfl
              rw [this]; rfl
            have hx1 : w.cell? ⟨b, o + 1, none⟩ = some (.int .u8 (X : Int)) := by rw [← hX]; exact HC.out 1 x rfl
            have hm1 : 1 < m := by rw [← HM.out]; simp
            have hXb : ((X : Int) == 0) = false := by simp; omega
            have HZ := Lib.hid hnz
            have HLT := Lib.hid hlt
            clear hX hnz hz hlt
            have hcc : ¬ c = 1 := by omega
            go_wp2
            go_loopw [6, 7] (fun v i wr => ∃ (j V : Nat), v = .int .u64 V ∧ i = .int .i64 ((j : Int) + 1) ∧ j ≤ K ∧ Hid (V = beV 0 ((x :: t').take j)) ∧ wr = w) (fun _ i _ => K + 1 - (intOf i).toNat)
            case atStart => exact ⟨0, 0, rfl, rfl, Nat.zero_le _, rfl, rfl⟩
            case round =>
              obtain ⟨j, V, rfl, rfl, hj, HV, rfl⟩ := hrel
              by_cases hlt : j < K
              · obtain ⟨y, hy⟩ : ∃ y, (x :: t')[j]? = some y := ⟨_, List.getElem?_eq_getElem (by have := HLT.out; omega)⟩
                have hVlt : V < 72057594037927936 := by
                  have h1 := beV_lt ((x :: t').take j)
                  rw [← HV.out] at h1
                  have h2 : (256 : Nat) ^ ((x :: t').take j).length ≤ 256 ^ 7 := Nat.pow_le_pow_right (by omega) (by rw [List.length_take]; omega)
                  have h3 : (256 : Nat) ^ 7 = 72057594037927936 := by decide
                  omega
                have hcy : wr.cell? ⟨b, o + (j + 1), none⟩ = some (.int .u8 (y.toNat : Int)) := HC.out (j + 1) y (by simpa using hy)
                have HN : Hid (V * 256 + y.toNat = beV 0 ((x :: t').take (j + 1))) := by show _ = _; rw [beV_take 0 _ j y hy, ← HV.out]
                have hy256 := y.toNat_lt
                obtain ⟨Y, hY⟩ : ∃ Y, y.toNat = Y := ⟨_, rfl⟩
                rw [hY] at hcy HN hy256
                clear hY hy
                have b1 : (0 : Int) ≤ (j : Int) := by omega
                have b2 : (j : Int) < (K : Int) := by omega
                go_wp2
                exact ⟨⟨j + 1, V * 256 + Y, by go_num, by go_num, by omega, HN, trivial⟩, by simp [intOf]; omega⟩
              · obtain rfl : j = K := by omega
                go_wp2
                go_ret3
                refine ⟨?_, Chg.refl _ _⟩
                rw [HE.out, ← HV.out]
                rfl
          · obtain rfl : K = 0 := by omega
            clear hnz hz
            go_wp2
            all_goals
              go_loopw [6, 7] (fun v i wr => v = .int .u64 0 ∧ i = .int .i64 1 ∧ wr = w) (fun _ _ _ => 0)
              case atStart => exact ⟨rfl, rfl, rfl⟩
              case round =>
                obtain ⟨rfl, rfl, rfl⟩ := hrel
                go_wp2
                go_ret3
                refine ⟨?_, Chg.refl _ _⟩
                rw [HE.out]
                rfl
end Go.Proofs.Ytmahjeafoogamaa

/- What a reader answers: the plain laws of it. -/
namespace Go.Proofs.Ytmahjeafoogamaa
open Go.RowKit
set_option linter.unusedVariables false
theorem numAt_size {bs : List UInt8} (h : (numAt bs).2.2 = 0) : 1 ≤ (numAt bs).2.1 ∧ (numAt bs).2.1 ≤ bs.length := by
  unfold numAt at h ⊢
  cases bs with
  | nil => simp at h
  | cons k t =>
    simp only at h ⊢
    split at h
    · cases h
    · split at h
      · cases h
      · rename_i h1 h2
        rw [if_neg h1, if_neg h2]
        simp only at h2 ⊢
        omega
theorem numAt_lt (bs : List UInt8) : (numAt bs).1 < 18446744073709551616 ∧ (numAt bs).2.1 ≤ 9 ∧ (numAt bs).2.2 ≤ 40 := by
  unfold numAt
  cases bs with
  | nil => simp
  | cons k t =>
    simp only
    split
    · simp
    · rename_i h1
      have h8 : k.toNat ≤ 8 := by omega
      split
      · simp
      · refine ⟨beV_lt8 _ (by rw [List.length_take]; omega), by simp; omega, by simp⟩
theorem numAt_err {bs : List UInt8} (h : (numAt bs).2.2 ≠ 0) : (numAt bs).1 = 0 := by
  unfold numAt at h ⊢
  cases bs with
  | nil => rfl
  | cons k t =>
    simp only at h ⊢
    split at h
    · rename_i h1; rw [if_pos h1]
    · rename_i h1
      rw [if_neg h1]
      split at h
      · rename_i h2; rw [if_pos h2]
      · exact absurd rfl h
/-- A number is read: what it is, what is left, what is wrong. st: the reader was made. -/
def rNumE (bs : List UInt8) (most : Nat) : Nat := if (numAt bs).2.2 = 0 ∧ most < (numAt bs).1 then 3 else (numAt bs).2.2
def rNum (st : Bool) (bs : List UInt8) (e most : Nat) : Nat × List UInt8 × Nat :=
  if st = true ∧ e = 0 then (if rNumE bs most = 0 then ((numAt bs).1, bs.drop (numAt bs).2.1, 0) else (0, bs, rNumE bs most)) else (0, bs, e)
def rTextE (bs : List UInt8) (most : Int) : Nat :=
  if (numAt bs).2.2 ≠ 0 then (numAt bs).2.2 else if (max most 0).toNat < (numAt bs).1 then 3 else if bs.length - (numAt bs).2.1 < (numAt bs).1 then 30 else 0
def rText (st : Bool) (bs : List UInt8) (e : Nat) (most : Int) : ByteArray × List UInt8 × Nat :=
  if st = true ∧ e = 0 then (if rTextE bs most = 0 then (strOf ((bs.drop (numAt bs).2.1).take (numAt bs).1), bs.drop ((numAt bs).2.1 + (numAt bs).1), 0) else (strOf [], bs, rTextE bs most)) else (strOf [], bs, e)
def rFlagE (bs : List UInt8) : Nat := if (numAt bs).2.2 = 0 ∧ 1 < (numAt bs).1 then 40 else (numAt bs).2.2
def rFlag (st : Bool) (bs : List UInt8) (e : Nat) : Bool × List UInt8 × Nat :=
  if st = true ∧ e = 0 then (if rFlagE bs = 0 then ((numAt bs).1 == 1, bs.drop (numAt bs).2.1, 0) else (false, bs, rFlagE bs)) else (false, bs, e)
def rItems {α : Type} (f : List UInt8 → Nat → α × List UInt8 × Nat) : Nat → List UInt8 → Nat → List α × List UInt8 × Nat
  | 0, bs, e => ([], bs, e)
  | n + 1, bs, e => if e = 0 then ((f bs e).1 :: (rItems f n (f bs e).2.1 (f bs e).2.2).1, (rItems f n (f bs e).2.1 (f bs e).2.2).2) else ([], bs, e)
def rList {α : Type} (f : List UInt8 → Nat → α × List UInt8 × Nat) (st : Bool) (bs : List UInt8) (e : Nat) (many : Int) : List α × List UInt8 × Nat :=
  if st = true ∧ e = 0 then
    (let x := rNum true bs 0 (max many 0).toNat
     let y := rItems f x.1 x.2.1 x.2.2
     if y.2.2 = 0 then y else ([], y.2))
  else ([], bs, e)
def rDone (bs : List UInt8) (e : Nat) : Nat := if e ≠ 0 then e else if 0 < bs.length then 41 else 0
/-- What is left is the end of what there was. -/
def Rest (bs bs' : List UInt8) : Prop := ∃ k, bs' = bs.drop k
theorem Rest.refl (bs : List UInt8) : Rest bs bs := ⟨0, rfl⟩
theorem Rest.trans {a b c : List UInt8} (h : Rest a b) (k : Rest b c) : Rest a c := by
  obtain ⟨i, rfl⟩ := h
  obtain ⟨j, rfl⟩ := k
  exact ⟨i + j, by rw [List.drop_drop]⟩
theorem Rest.len {a b : List UInt8} (h : Rest a b) : b.length ≤ a.length := by
  obtain ⟨i, rfl⟩ := h
  rw [List.length_drop]
  omega
theorem rNum_rest (st : Bool) (bs : List UInt8) (e most : Nat) : Rest bs (rNum st bs e most).2.1 := by
  unfold rNum
  split
  · split
    · exact ⟨_, rfl⟩
    · exact .refl _
  · exact .refl _
theorem rText_rest (st : Bool) (bs : List UInt8) (e : Nat) (most : Int) : Rest bs (rText st bs e most).2.1 := by
  unfold rText
  split
  · split
    · exact ⟨_, rfl⟩
    · exact .refl _
  · exact .refl _
theorem rNum_lt (st : Bool) (bs : List UInt8) (e most : Nat) : (rNum st bs e most).1 < 18446744073709551616 := by
  unfold rNum
  split
  · split
    · exact (numAt_lt bs).1
    · simp
  · simp
theorem rNum_err {st : Bool} {bs : List UInt8} {e most : Nat} (h : (rNum st bs e most).2.2 ≠ 0) : (rNum st bs e most).1 = 0 := by
  unfold rNum at h ⊢
  split at h
  · rename_i h1
    rw [if_pos h1]
    split at h
    · exact absurd rfl h
    · rename_i h2; rw [if_neg h2]
  · rename_i h1; rw [if_neg h1]
theorem rNum_shorter {st : Bool} {bs : List UInt8} {e most : Nat} (hs : st = true ∧ e = 0) (h : (rNum st bs e most).2.2 = 0) : (rNum st bs e most).2.1.length < bs.length := by
  unfold rNum at h ⊢
  rw [if_pos hs] at h ⊢
  split at h
  · rename_i h2
    rw [if_pos h2]
    have h3 : (numAt bs).2.2 = 0 := by unfold rNumE at h2; split at h2; cases h2; exact h2
    have := numAt_size h3
    simp only [List.length_drop]
    omega
  · rename_i h2; exact absurd h h2
theorem rText_shorter {st : Bool} {bs : List UInt8} {e : Nat} {most : Int} (hs : st = true ∧ e = 0) (h : (rText st bs e most).2.2 = 0) : (rText st bs e most).2.1.length < bs.length := by
  unfold rText at h ⊢
  rw [if_pos hs] at h ⊢
  split at h
  · rename_i h2
    rw [if_pos h2]
    have h3 : (numAt bs).2.2 = 0 := by unfold rTextE at h2; split at h2 <;> simp_all
    have := numAt_size h3
    simp only [List.length_drop]
    omega
  · rename_i h2; exact absurd h h2
section
variable {α : Type} {f : List UInt8 → Nat → α × List UInt8 × Nat}
theorem rItems_len (hf : ∀ bs, (f bs 0).2.2 = 0 → (f bs 0).2.1.length < bs.length) : ∀ (n : Nat) (bs : List UInt8) (e : Nat), (rItems f n bs e).1.length ≤ bs.length + 1
  | 0, bs, e => by simp [rItems]
  | n + 1, bs, e => by
    unfold rItems
    split
    · rename_i he
      subst he
      simp only [List.length_cons]
      by_cases h : (f bs 0).2.2 = 0
      · have h1 := hf bs h
        have h2 := rItems_len hf n (f bs 0).2.1 (f bs 0).2.2
        omega
      · have : rItems f n (f bs 0).2.1 (f bs 0).2.2 = ([], (f bs 0).2.1, (f bs 0).2.2) := by
          cases n with
          | zero => rfl
          | succ n => rw [rItems, if_neg h]
        rw [this]
        simp
    · simp
theorem rItems_stop {n : Nat} {bs : List UInt8} {e : Nat} (h : e ≠ 0) : rItems f n bs e = ([], bs, e) := by
  cases n with
  | zero => rfl
  | succ n => rw [rItems, if_neg h]
theorem rItems_rest (hf : ∀ bs e, Rest bs (f bs e).2.1) : ∀ (n : Nat) (bs : List UInt8) (e : Nat), Rest bs (rItems f n bs e).2.1
  | 0, bs, e => .refl _
  | n + 1, bs, e => by
    unfold rItems
    split
    · exact (hf bs e).trans (rItems_rest hf n _ _)
    · exact .refl _
end
end Go.Proofs.Ytmahjeafoogamaa

/- field.Reader: what a call of stands, fail, Left, Wrong, Num does. -/
namespace Go.Proofs.Ytmahjeafoogamaa
open Go.RowKit
set_option linter.unusedVariables false
/-- Block g is a reader: whether it was made, the bytes that are left, what is wrong. What it rests on is ok. -/
def IsRdAt (w : World) (ok : Nat → Prop) (g : Nat) (mk : Bool) (bs : List UInt8) (e : Nat) : Prop :=
  ok g ∧ ∃ A c, w.heap[g]? = some (.cells #[.bool mk, .slice A bs.length c, .int .i64 e] 87 (0, 0)) ∧ bs.length ≤ c ∧ Kd.byte.C w (fun b => ok b ∧ b ≠ g) A bs
def IsRd (w : World) (ok : Nat → Prop) (p : Option Addr) (mk : Bool) (bs : List UInt8) (e : Nat) : Prop :=
  (∃ g, p = some ⟨g, 0, none⟩ ∧ IsRdAt w ok g mk bs e) ∨ (p = none ∧ mk = false ∧ bs = [] ∧ e = 0)
/-- The reader's own block. -/
def At (p : Option Addr) : Nat → Prop := fun b => p = some ⟨b, 0, none⟩
section
variable {w w' : World} {ok ok' : Nat → Prop} {g : Nat} {mk : Bool} {bs : List UInt8} {e : Nat} {p : Option Addr}
theorem IsRdAt.chg {S : Nat → Prop} (h : IsRdAt w ok g mk bs e) (hc : Chg S w w') (hs : ∀ b, ok b → ¬ S b) : IsRdAt w' ok g mk bs e := by
  obtain ⟨h0, A, c, h1, h2, h3⟩ := h
  exact ⟨h0, A, c, hc.heap h1 (hs g h0), h2, Kd.C_chg h3 hc (fun b hb => hs b hb.1)⟩
theorem IsRdAt.mono (h : IsRdAt w ok g mk bs e) (hk : ∀ b, ok b → ok' b) : IsRdAt w ok' g mk bs e := by
  obtain ⟨h0, A, c, h1, h2, h3⟩ := h
  exact ⟨hk g h0, A, c, h1, h2, Kd.C_mono h3 (fun b hb => ⟨hk b hb.1, hb.2⟩)⟩
theorem IsRdAt.lt (h : IsRdAt w ok g mk bs e) : g < w.heap.size := by
  obtain ⟨_, A, c, h1, _⟩ := h
  exact heap_lt h1
theorem IsRdAt.err (h : IsRdAt w ok g mk bs e) (e' : Nat) : IsRdAt (w.setCell ⟨g, 2, none⟩ (.int .i64 e')) ok g mk bs e' := by
  obtain ⟨h0, A, c, h1, h2, h3⟩ := h
  refine ⟨h0, A, c, ?_, h2, Kd.C_step h3 (fun b hb _ => Below.heap_setCell _ _ _ _ hb.2)⟩
  simp [World.setCell, Array.getElem?_modify, h1]
theorem IsRdAt.put {A' : Option Addr} {c' n : Nat} {bs' : List UInt8} (h : IsRdAt w ok g mk bs e) (hC : Kd.byte.C w (fun b => ok b ∧ b ≠ g) A' bs') (hn : bs'.length = n) (hc : n ≤ c') : IsRdAt (w.setCell ⟨g, 1, none⟩ (.slice A' n c')) ok g mk bs' e := by
  subst hn
  obtain ⟨h0, A, c, h1, h2, h3⟩ := h
  refine ⟨h0, A', c', ?_, hc, Kd.C_step hC (fun b hb _ => Below.heap_setCell _ _ _ _ hb.2)⟩
  simp [World.setCell, Array.getElem?_modify, h1]
theorem IsRd.chg {S : Nat → Prop} (h : IsRd w ok p mk bs e) (hc : Chg S w w') (hs : ∀ b, ok b → ¬ S b) : IsRd w' ok p mk bs e := by
  rcases h with ⟨g, rfl, h⟩ | h
  · exact .inl ⟨g, rfl, h.chg hc hs⟩
  · exact .inr h
theorem IsRd.new (h : IsRd w ok p mk bs e) (hc : Chg nob w w') : IsRd w' ok p mk bs e := h.chg hc (fun b _ => not_nob b)
theorem IsRd.mono (h : IsRd w ok p mk bs e) (hk : ∀ b, ok b → ok' b) : IsRd w ok' p mk bs e := by
  rcases h with ⟨g, rfl, h⟩ | h
  · exact .inl ⟨g, rfl, h.mono hk⟩
  · exact .inr h
end
theorem set_chg {w : World} {g o : Nat} (u : Value) : Chg (At (some ⟨g, 0, none⟩)) w (w.setCell ⟨g, o, none⟩ u) := Chg.setCell (S := At (some ⟨g, 0, none⟩)) (Chg.refl _ w) (p := ⟨g, o, none⟩) (.inl rfl) u
theorem rd_stands {w : World} {ok : Nat → Prop} {p : Option Addr} {mk : Bool} {bs : List UInt8} {e : Nat} (h : IsRd w ok p mk bs e) :
    Calls Try.prog 59 #[.pointer p] w fun x w' => x = .returned (.bool (mk && decide (e = 0))) ∧ w' = w := by
  rcases h with ⟨g, rfl, h0, A, c, h1, h2, h3⟩ | ⟨rfl, rfl, rfl, rfl⟩
  · have e0 : w.cell? ⟨g, 0, none⟩ = some (.bool mk) := by rw [cell_of_row w g 0 _ _ _ h1]; rfl
    have e2 : w.cell? ⟨g, 2, none⟩ = some (.int .i64 e) := by rw [cell_of_row w g 2 _ _ _ h1]; rfl
    clear h1 h2 h3
    go_enter Try.func59, Try.ntmps59
    cases mk with
    | false =>
      go_wp2
      go_ret
      exact ⟨rfl, rfl⟩
    | true =>
      go_wp2
      go_ret
      refine ⟨?_, rfl⟩
      show Ending.returned (.bool _) = .returned (.bool _)
      congr 2
      rw [Bool.eq_iff_iff]
      simp
      try omega
  · go_enter Try.func59, Try.ntmps59
    go_wp2
    go_ret
    exact ⟨rfl, rfl⟩
theorem rd_fail {w : World} {ok : Nat → Prop} {g : Nat} {mk : Bool} {bs : List UInt8} {e : Nat} (h : IsRdAt w ok g mk bs e) (e' : Nat) :
    Calls Try.prog 61 #[.pointer (some ⟨g, 0, none⟩), .int .i64 e'] w fun x w' => x = .returned (.tuple #[]) ∧ IsRdAt w' ok g mk bs e' ∧ Chg (At (some ⟨g, 0, none⟩)) w w' := by
  have H := h
  obtain ⟨h0, A, c, h1, h2, h3⟩ := h
  have e2 : w.cell? ⟨g, 2, none⟩ = some (.int .i64 e) := by rw [cell_of_row w g 2 _ _ _ h1]; rfl
  have ef : w.frozen? ⟨g, 2, none⟩ = false := by simp [World.frozen?, h1]
  clear h1 h2 h3
  go_enter Try.func61, Try.ntmps61
  go_wp2
  go_returns
  exact ⟨rfl, H.err e', set_chg _⟩
theorem rd_left {w : World} {ok : Nat → Prop} {p : Option Addr} {mk : Bool} {bs : List UInt8} {e : Nat} (h : IsRd w ok p mk bs e) :
    Calls Try.prog 50 #[.pointer p] w fun x w' => x = .returned (.int .i64 bs.length) ∧ w' = w := by
  rcases h with ⟨g, rfl, h0, A, c, h1, h2, h3⟩ | ⟨rfl, rfl, rfl, rfl⟩
  · have e1 : w.cell? ⟨g, 1, none⟩ = some (.slice A bs.length c) := by rw [cell_of_row w g 1 _ _ _ h1]; rfl
    clear h1 h2 h3
    go_enter Try.func50, Try.ntmps50
    go_wp2
    go_ret
    exact ⟨rfl, rfl⟩
  · go_enter Try.func50, Try.ntmps50
    go_wp2
    go_ret
    exact ⟨rfl, rfl⟩
theorem rd_wrong {w : World} {ok : Nat → Prop} {p : Option Addr} {mk : Bool} {bs : List UInt8} {e : Nat} (h : IsRd w ok p mk bs e) :
    Calls Try.prog 51 #[.pointer p] w fun x w' => x = .returned (.int .i64 e) ∧ w' = w := by
  rcases h with ⟨g, rfl, h0, A, c, h1, h2, h3⟩ | ⟨rfl, rfl, rfl, rfl⟩
  · have e1 : w.cell? ⟨g, 2, none⟩ = some (.int .i64 e) := by rw [cell_of_row w g 2 _ _ _ h1]; rfl
    clear h1 h2 h3
    go_enter Try.func51, Try.ntmps51
    go_wp2
    go_ret
    exact ⟨rfl, rfl⟩
  · go_enter Try.func51, Try.ntmps51
    go_wp2
    go_ret
    exact ⟨rfl, rfl⟩
/-- What the reader's block says. -/
theorem IsRdAt.read {w : World} {ok : Nat → Prop} {g : Nat} {mk : Bool} {bs : List UInt8} {e : Nat} (h : IsRdAt w ok g mk bs e) :
    ∃ A c, w.cell? ⟨g, 0, none⟩ = some (.bool mk) ∧ w.cell? ⟨g, 1, none⟩ = some (.slice A bs.length c) ∧ w.cell? ⟨g, 2, none⟩ = some (.int .i64 e) ∧ w.frozen? ⟨g, 1, none⟩ = false ∧ bs.length ≤ c ∧ Kd.byte.C w (fun b => ok b ∧ b ≠ g) A bs := by
  obtain ⟨h0, A, c, h1, h2, h3⟩ := h
  refine ⟨A, c, ?_, ?_, ?_, ?_, h2, h3⟩
  · rw [cell_of_row w g 0 _ _ _ h1]; rfl
  · rw [cell_of_row w g 1 _ _ _ h1]; rfl
  · rw [cell_of_row w g 2 _ _ _ h1]; rfl
  · simp [World.frozen?, h1]
set_option maxHeartbeats 1000000 in
theorem rd_num {w : World} {ok : Nat → Prop} {p : Option Addr} {mk : Bool} {bs : List UInt8} {e : Nat} (h : IsRd w ok p mk bs e) (most : Nat) (hmost : most < 18446744073709551616) :
    Calls Try.prog 44 #[.pointer p, .int .u64 most] w fun x w' => x = .returned (.int .u64 (rNum mk bs e most).1) ∧ IsRd w' ok p mk (rNum mk bs e most).2.1 (rNum mk bs e most).2.2 ∧ Chg (At p) w w' := by
  by_cases hst : mk = true ∧ e = 0
  · obtain ⟨rfl, rfl⟩ := hst
    rcases h with ⟨g, rfl, h⟩ | ⟨_, h, _⟩
    · have HI : Hid (IsRd w ok (some ⟨g, 0, none⟩) true bs 0) := .inl ⟨g, rfl, h⟩
      have HA := Lib.hid h
      obtain ⟨A, c, e0, e1, e2, ef, hl, hC⟩ := h.read
      have HC := Lib.hid hC
      have hsm := hC.small
      obtain ⟨m, hm⟩ : ∃ m, bs.length = m := ⟨_, rfl⟩
      rw [hm] at e1 hl hsm
      have HM := Lib.hid hm
      obtain ⟨na, nb, nc⟩ := numAt_lt bs
      obtain ⟨N, Z, E, hN⟩ : ∃ N Z E, numAt bs = (N, Z, E) := ⟨_, _, _, rfl⟩
      rw [hN] at na nb nc
      simp only at na nb nc
      have HZ : Hid (E = 0 → 1 ≤ Z ∧ Z ≤ m) := by
        show E = 0 → _
        intro he
        have := numAt_size (bs := bs) (by rw [hN]; exact he)
        rw [hN] at this
        rw [← hm]
        exact this
      have HN := Lib.hid hN
      clear h hC hm hN
      go_enter Try.func44, Try.ntmps44
      go_wp2_with fail
      refine (rd_stands HI.out).mono ?_
      rintro x w1 ⟨rfl, rfl⟩
      simp only [decide_true, Bool.and_true]
      go_wp2_with fail
      refine (field_number HC.out HM.out hl).mono ?_
      rintro x w2 ⟨rfl, hc2⟩
      rw [HN.out]
      have HA2 : Hid (IsRdAt w2 ok g true bs 0) := HA.out.chg hc2 (fun b _ => not_nob b)
      obtain ⟨A', c', e0', e1', e2', ef', hl', hC'⟩ := HA2.out.read
      have f1 : w2.cell? ⟨g, 1, none⟩ = some (.slice A m c) := hc2.cell e1 (not_nob _)
      have f2 : w2.cell? ⟨g, 2, none⟩ = some (.int .i64 (0 : Nat)) := hc2.cell e2 (not_nob _)
      have hC2 := Lib.hid (Kd.C_new HC.out hc2)
      have HC2 := Lib.hid hc2
      clear e0' e1' e2' hl' hC' e0 e1 e2 ef hc2
      by_cases he : E = 0
      · subst he
        obtain ⟨z1, z2⟩ := HZ.out rfl
        rw [show numV (N, Z, 0) = .tuple #[.int .u64 N, .int .i64 Z, .int .i64 0] from rfl]
        by_cases hb : most < N
        · have HR : Hid (rNum true bs 0 most = (0, bs, 3)) := by show _ = _; simp [rNum, rNumE, HN.out, hb]
          have b1 : (most : Int) < (N : Int) := by omega
          go_wp2_with fail
          refine (rd_fail HA2.out 3).mono ?_
          rintro x w3 ⟨rfl, hA3, hc3⟩
          go_wp2
          go_ret
          rw [HR.out]
          exact ⟨rfl, .inl ⟨g, rfl, hA3⟩, (Chg.ofNew HC2.out).trans hc3 (fun b hb => .inl hb)⟩
        · have HR : Hid (rNum true bs 0 most = (N, bs.drop Z, 0)) := by show _ = _; simp [rNum, rNumE, HN.out, hb]
          have b1 : ¬ (most : Int) < (N : Int) := by omega
          have hD := C_dropB hC2.out Z c (by rw [HM.out]; exact z2) (by rw [HM.out]; exact hl)
          have hdl : (bs.drop Z).length = m - Z := by rw [List.length_drop, HM.out]
          have HD := Lib.hid hD
          have HDL := Lib.hid hdl
          clear hD hdl
          go_wp2
          all_goals
            go_ret
            rw [HR.out]
            refine ⟨rfl, .inl ⟨g, rfl, IsRdAt.put HA2.out ?_ HDL.out (by omega)⟩, (Chg.ofNew HC2.out).trans (set_chg _) (fun b hb => .inl hb)⟩
            have hD := HD.out
            first | (rw [if_pos (by assumption)] at hD; exact hD) | (rw [if_neg (by assumption)] at hD; exact hD)
      · have he' : ((E : Int) == 0) = false := by simp; omega
        have HR : Hid (rNum true bs 0 most = (0, bs, E)) := by show _ = _; simp [rNum, rNumE, HN.out, he]
        rw [show numV (N, Z, E) = .tuple #[.int .u64 N, .int .i64 Z, .int .i64 E] from rfl]
        go_wp2_with fail
        refine (rd_fail HA2.out E).mono ?_
        rintro x w3 ⟨rfl, hA3, hc3⟩
        go_wp2
        go_ret
        rw [HR.out]
        exact ⟨rfl, .inl ⟨g, rfl, hA3⟩, (Chg.ofNew HC2.out).trans hc3 (fun b hb => .inl hb)⟩
    · cases h
  · have hb : (mk && decide (e = 0)) = false := by
      cases mk <;> simp_all
    have HR : Hid (rNum mk bs e most = (0, bs, e)) := by show _ = _; rw [rNum, if_neg hst]
    have HI := Lib.hid h
    go_enter Try.func44, Try.ntmps44
    clear h
    go_wp2_with fail
    refine (rd_stands HI.out).mono ?_
    rintro x w1 ⟨rfl, rfl⟩
    rw [hb]
    go_wp2
    go_ret
    rw [HR.out]
    exact ⟨rfl, HI.out, Chg.refl _ _⟩
end Go.Proofs.Ytmahjeafoogamaa

/- field.Reader: what a call of Text, Flag, Done does. -/
namespace Go.Proofs.Ytmahjeafoogamaa
open Go.RowKit
end Go.Proofs.Ytmahjeafoogamaa

/- field.Reader: what a call of Flag, Done, Read does. -/
namespace Go.Proofs.Ytmahjeafoogamaa
open Go.RowKit
set_option linter.unusedVariables false
set_option maxHeartbeats 1000000 in
theorem rd_flag {w : World} {ok : Nat → Prop} {p : Option Addr} {mk : Bool} {bs : List UInt8} {e : Nat} (h : IsRd w ok p mk bs e) :
    Calls Try.prog 47 #[.pointer p] w fun x w' => x = .returned (.bool (rFlag mk bs e).1) ∧ IsRd w' ok p mk (rFlag mk bs e).2.1 (rFlag mk bs e).2.2 ∧ Chg (At p) w w' := by
  by_cases hst : mk = true ∧ e = 0
  · obtain ⟨rfl, rfl⟩ := hst
    rcases h with ⟨g, rfl, h⟩ | ⟨_, h, _⟩
    · have HI : Hid (IsRd w ok (some ⟨g, 0, none⟩) true bs 0) := .inl ⟨g, rfl, h⟩
      obtain ⟨A, c, e0, e1, e2, ef, hl, hC⟩ := h.read
      have HC := Lib.hid hC
      obtain ⟨m, hm⟩ : ∃ m, bs.length = m := ⟨_, rfl⟩
      rw [hm] at e1 hl
      have HM := Lib.hid hm
      obtain ⟨na, nb, nc⟩ := numAt_lt bs
      obtain ⟨N, Z, E, hN⟩ : ∃ N Z E, numAt bs = (N, Z, E) := ⟨_, _, _, rfl⟩
      rw [hN] at na nb nc
      simp only at na nb nc
      have HN := Lib.hid hN
      have hnum : rNum true bs 0 18446744073709551615 = (if E = 0 then (N, bs.drop Z, 0) else (0, bs, E)) := by
        have h9 : ¬ 18446744073709551615 < N := by omega
        simp [rNum, rNumE, hN, h9]
      have HNUM := Lib.hid hnum
      clear h hC hm hN hnum
      go_enter Try.func47, Try.ntmps47
      go_wp2_with fail
      refine (rd_stands HI.out).mono ?_
      rintro x w1 ⟨rfl, rfl⟩
      simp only [decide_true, Bool.and_true]
      go_wp2_with fail
      refine (rd_num HI.out 18446744073709551615 (by omega)).mono ?_
      rintro x w2 ⟨rfl, hI2, hc2⟩
      rw [HNUM.out] at hI2 ⊢
      have HC2 := Lib.hid hc2
      clear e0 e1 e2 ef
      by_cases he : E = 0
      · subst he
        rw [if_pos rfl] at hI2 ⊢
        have HI2 : Hid (IsRd w2 ok (some ⟨g, 0, none⟩) true (bs.drop Z) 0) := hI2
        rcases hI2 with ⟨g', e', hA2⟩ | ⟨h9, _⟩
        · cases e'
          have HA2 := Lib.hid hA2
          obtain ⟨A', c', e0, e1, e2, ef, hl', hC'⟩ := hA2.read
          have HC3 : Hid (Kd.byte.C w2 (fun b => ok b ∧ b ≠ g) A bs) := Kd.C_chg HC.out hc2 (fun b hb => by rintro e; cases e; exact hb.2 rfl)
          clear hA2 hC' hc2
          by_cases hb : 1 < N
          · have HR : Hid (rFlag true bs 0 = (false, bs, 40)) := by show _ = _; simp [rFlag, rFlagE, HN.out, hb]
            have b1 : (1 : Int) < (N : Int) := by omega
            go_wp2_with fail
            have hA3 : IsRdAt (w2.setCell ⟨g, 1, none⟩ (.slice A m c)) ok g true bs 0 := IsRdAt.put HA2.out HC3.out HM.out hl
            refine (rd_fail hA3 40).mono ?_
            rintro x w3 ⟨rfl, hA4, hc4⟩
            go_wp2
            go_ret
            rw [HR.out]
            exact ⟨rfl, .inl ⟨g, rfl, hA4⟩, (HC2.out.trans (set_chg _) (fun b hb => .inl hb)).trans hc4 (fun b hb => .inl hb)⟩
          · have HR : Hid (rFlag true bs 0 = (N == 1, bs.drop Z, 0)) := by show _ = _; simp [rFlag, rFlagE, HN.out, hb]
            have b1 : ¬ (1 : Int) < (N : Int) := by omega
            go_wp2
            go_ret
            rw [HR.out]
            refine ⟨?_, HI2.out, HC2.out⟩
            show Ending.returned (.bool _) = .returned (.bool _)
            congr 2
            rw [Bool.eq_iff_iff]
            simp
            try omega
        · cases h9
      · rw [if_neg he] at hI2 ⊢
        have HI2 : Hid (IsRd w2 ok (some ⟨g, 0, none⟩) true bs E) := hI2
        rcases hI2 with ⟨g', e', hA2⟩ | ⟨h9, _⟩
        · cases e'
          obtain ⟨A', c', e0, e1, e2, ef, hl', hC'⟩ := hA2.read
          clear hA2 hC' hc2 e1
          have HR : Hid (rFlag true bs 0 = (false, bs, E)) := by show _ = _; simp [rFlag, rFlagE, HN.out, he]
          have he' : ((E : Int) == 0) = false := by simp; omega
          rw [show (((0 : Nat) : Int)) = (0 : Int) from rfl]
          go_wp2
          go_ret
          rw [HR.out]
          exact ⟨rfl, HI2.out, HC2.out⟩
        · cases h9
    · cases h
  · have hb : (mk && decide (e = 0)) = false := by
      cases mk <;> simp_all
    have HR : Hid (rFlag mk bs e = (false, bs, e)) := by show _ = _; rw [rFlag, if_neg hst]
    have HI := Lib.hid h
    go_enter Try.func47, Try.ntmps47
    clear h
    go_wp2_with fail
    refine (rd_stands HI.out).mono ?_
    rintro x w1 ⟨rfl, rfl⟩
    rw [hb]
    go_wp2
    go_ret
    rw [HR.out]
    exact ⟨rfl, HI.out, Chg.refl _ _⟩
theorem rd_done {w : World} {ok : Nat → Prop} {p : Option Addr} {mk : Bool} {bs : List UInt8} {e : Nat} (h : IsRd w ok p mk bs e) :
    Calls Try.prog 33 #[.pointer p] w fun x w' => x = .returned (.int .i64 (rDone bs e)) ∧ w' = w := by
  have HI := Lib.hid h
  clear h
  go_enter Try.func33, Try.ntmps33
  go_wp2_with fail
  refine (rd_wrong HI.out).mono ?_
  rintro x w1 ⟨rfl, rfl⟩
  by_cases he : e = 0
  · subst he
    rw [show (((0 : Nat) : Int)) = (0 : Int) from rfl]
    go_wp2_with fail
    refine (rd_left HI.out).mono ?_
    rintro x w1 ⟨rfl, rfl⟩
    have HR : Hid (rDone bs 0 = if 0 < bs.length then 41 else 0) := by show _ = _; simp [rDone]
    obtain ⟨m, hm⟩ : ∃ m, bs.length = m := ⟨_, rfl⟩
    rw [hm] at HR ⊢
    clear HI hm
    by_cases hm : 0 < m
    · rw [if_pos hm] at HR
      go_wp2
      go_ret
      rw [HR.out]
      exact ⟨rfl, rfl⟩
    · obtain rfl : m = 0 := by omega
      rw [if_neg hm] at HR
      rw [show (((0 : Nat) : Int)) = (0 : Int) from rfl]
      go_wp2
      go_ret
      rw [HR.out]
      exact ⟨rfl, rfl⟩
  · have he' : ((e : Int) == 0) = false := by simp; omega
    go_wp2
    go_ret
    rw [rDone, if_pos he]
    exact ⟨rfl, rfl⟩
/-- A new reader, of the call's own. -/
def RdNew (w : World) (bs : List UInt8) (x : Ending) (w' : World) : Prop := ∃ g, x = .returned (.pointer (some ⟨g, 0, none⟩)) ∧ IsRdAt w' (fun b => w.heap.size ≤ b) g true bs 0 ∧ Chg nob w w'
theorem rd_read {w : World} {ok : Nat → Prop} {A : Option Addr} {m c : Nat} {bs : List UInt8} (hb : Kd.byte.C w ok A bs) (hm : bs.length = m) (hm2 : m ≤ 140737488355328) :
    Calls Try.prog 31 #[.slice A m c] w (RdNew w bs) := by
  have HB := Lib.hid hb
  have HM := Lib.hid hm
  clear hb hm
  have HE : Hid (Kd.byte.R 5 (w.alloc (.cells #[] 5)) w.heap.size (fun k => k = w.heap.size) (.slice (some ⟨w.heap.size, 0, none⟩) 0 0) ([] : List UInt8)) := empty_own w w.heap.size 5 Kd.byte (Nat.le_refl _)
  go_enter Try.func31, Try.ntmps31
  go_wp2_with (at_builtin; refine wp_appB rfl _ _ rfl w.heap.size _ _ (.slice (some ⟨w.heap.size, 0, none⟩) 0 0) ([] : List UInt8) bs A m c rfl rfl HM.out HE.out (Kd.C_new HB.out ((Chg.refl _ _).alloc _)) (by simp) m ?_ ?_ ?_)
  · simp
  · omega
  intro A1 c1 w1 hR hC _
  have hc1 : Chg nob w w1 := ((Chg.refl _ w).alloc _).trans hC (fun b hb => .inr (by
    have : some b = some w.heap.size := hb
    cases this
    exact Nat.le_refl _))
  have s1 := hc1.size
  have HR := Lib.hid (Kd.R_read (byte_ge hR)).1
  obtain ⟨hlen, hcap⟩ := (Kd.R_read hR).2
  clear hR hC HE
  have HN : ∀ cs t, Chg nob w1 (w1.alloc (.cells cs t)) := fun cs t => (Chg.refl _ _).alloc _
  go_wp2
  go_ret
  refine ⟨w1.heap.size, rfl, ⟨s1, A1, c1, ?_, by rw [HM.out]; exact hcap, ?_⟩, hc1.thenNew ((Chg.refl _ _).alloc _)⟩
  · rw [HM.out]
    exact heap_alloc_new w1 _
  · exact Kd.C_new (Kd.C_mono (Kd.C_bound HR.out) (fun b hb => ⟨hb.1, by omega⟩)) ((Chg.refl _ _).alloc _)
end Go.Proofs.Ytmahjeafoogamaa

/- sodalityref04.Reader: what a call of Num, Text, Flag, Done does. -/
namespace Go.Proofs.Ytmahjeafoogamaa
open Go.RowKit
set_option linter.unusedVariables false
set_option linter.unusedSimpArgs false
/-- Block g is the reference's reader: the bytes that are left, what is wrong. What it rests on is ok. -/
def IsRef (w : World) (ok : Nat → Prop) (g : Nat) (bs : List UInt8) (e : Nat) : Prop :=
  ¬ ok g ∧ ∃ A c, w.heap[g]? = some (.cells #[.slice A bs.length c, .int .i64 e] 74 (0, 0)) ∧ bs.length ≤ c ∧ Kd.byte.C w ok A bs
section
variable {w w' : World} {ok ok' : Nat → Prop} {g : Nat} {bs : List UInt8} {e : Nat}
theorem IsRef.chg {S : Nat → Prop} (h : IsRef w ok g bs e) (hc : Chg S w w') (hg : ¬ S g) (hs : ∀ b, ok b → ¬ S b) : IsRef w' ok g bs e := by
  obtain ⟨h0, A, c, h1, h2, h3⟩ := h
  exact ⟨h0, A, c, hc.heap h1 hg, h2, Kd.C_chg h3 hc hs⟩
theorem IsRef.new (h : IsRef w ok g bs e) (hc : Chg nob w w') : IsRef w' ok g bs e := h.chg hc (not_nob _) (fun _ _ => not_nob _)
theorem IsRef.lt (h : IsRef w ok g bs e) : g < w.heap.size := by
  obtain ⟨_, A, c, h1, _⟩ := h
  exact heap_lt h1
theorem IsRef.err (h : IsRef w ok g bs e) (e' : Nat) : IsRef (w.setCell ⟨g, 1, none⟩ (.int .i64 e')) ok g bs e' := by
  obtain ⟨h0, A, c, h1, h2, h3⟩ := h
  refine ⟨h0, A, c, ?_, h2, Kd.C_step h3 (fun b hb _ => Below.heap_setCell _ _ _ _ (fun e => h0 (by rw [← show b = g from e]; exact hb)))⟩
  simp [World.setCell, Array.getElem?_modify, h1]
theorem IsRef.put {A' : Option Addr} {c' n : Nat} {bs' : List UInt8} (h : IsRef w ok g bs e) (hC : Kd.byte.C w ok A' bs') (hn : bs'.length = n) (hc : n ≤ c') : IsRef (w.setCell ⟨g, 0, none⟩ (.slice A' n c')) ok g bs' e := by
  subst hn
  obtain ⟨h0, A, c, h1, h2, h3⟩ := h
  refine ⟨h0, A', c', ?_, hc, Kd.C_step hC (fun b hb _ => Below.heap_setCell _ _ _ _ (fun e => h0 (by rw [← show b = g from e]; exact hb)))⟩
  simp [World.setCell, Array.getElem?_modify, h1]
theorem IsRef.read (h : IsRef w ok g bs e) :
    ∃ A c, w.cell? ⟨g, 0, none⟩ = some (.slice A bs.length c) ∧ w.cell? ⟨g, 1, none⟩ = some (.int .i64 e) ∧ w.frozen? ⟨g, 0, none⟩ = false ∧ w.frozen? ⟨g, 1, none⟩ = false ∧ bs.length ≤ c ∧ Kd.byte.C w ok A bs := by
  obtain ⟨h0, A, c, h1, h2, h3⟩ := h
  refine ⟨A, c, ?_, ?_, ?_, ?_, h2, h3⟩
  · rw [cell_of_row w g 0 _ _ _ h1]; rfl
  · rw [cell_of_row w g 1 _ _ _ h1]; rfl
  · simp [World.frozen?, h1]
  · simp [World.frozen?, h1]
end
set_option maxHeartbeats 1000000 in
theorem rr_num {w : World} {ok : Nat → Prop} {g : Nat} {bs : List UInt8} {e : Nat} (h : IsRef w ok g bs e) (most : Nat) (hmost : most < 18446744073709551616) :
    Calls Try.prog 34 #[.pointer (some ⟨g, 0, none⟩), .int .u64 most] w fun x w' => x = .returned (.int .u64 (rNum true bs e most).1) ∧ IsRef w' ok g (rNum true bs e most).2.1 (rNum true bs e most).2.2 ∧ Chg (At (some ⟨g, 0, none⟩)) w w' := by
  by_cases hst : e = 0
  · subst hst
    have hdummy : True := trivial
    · obtain ⟨A, c, e0, e1, ef0, ef1, hl, hC⟩ := h.read
      have HI := Lib.hid h
      have HC := Lib.hid hC
      have hsm := hC.small
      obtain ⟨m, hm⟩ : ∃ m, bs.length = m := ⟨_, rfl⟩
      rw [hm] at e0 hl hsm
      have HM := Lib.hid hm
      obtain ⟨na, nb, nc⟩ := numAt_lt bs
      obtain ⟨N, Z, E, hN⟩ : ∃ N Z E, numAt bs = (N, Z, E) := ⟨_, _, _, rfl⟩
      rw [hN] at na nb nc
      simp only at na nb nc
      have HZ : Hid (E = 0 → 1 ≤ Z ∧ Z ≤ m) := by
        show E = 0 → _
        intro he
        have := numAt_size (bs := bs) (by rw [hN]; exact he)
        rw [hN] at this
        rw [← hm]
        exact this
      have HN := Lib.hid hN
      clear h hC hm hN
      rw [show (((0 : Nat) : Int)) = (0 : Int) from rfl] at e1
      go_enter Try.func34, Try.ntmps34
      go_wp2_with fail
      refine (ref_number HC.out HM.out hl).mono ?_
      rintro x w2 ⟨rfl, hc2⟩
      rw [HN.out]
      have HI2 : Hid (IsRef w2 ok g bs 0) := HI.out.new hc2
      obtain ⟨A', c', e0', e1', f0, f1, hl', hC'⟩ := HI2.out.read
      have d0 : w2.cell? ⟨g, 0, none⟩ = some (.slice A m c) := hc2.cell e0 (not_nob _)
      have d1 : w2.cell? ⟨g, 1, none⟩ = some (.int .i64 0) := hc2.cell e1 (not_nob _)
      have hC2 := Lib.hid (Kd.C_new HC.out hc2)
      have HC2 := Lib.hid hc2
      clear e0' e1' hl' hC' e0 e1 ef0 ef1 hc2
      by_cases he : E = 0
      · subst he
        obtain ⟨z1, z2⟩ := HZ.out rfl
        rw [show numV (N, Z, 0) = .tuple #[.int .u64 N, .int .i64 Z, .int .i64 0] from rfl]
        by_cases hb : most < N
        · have HR : Hid (rNum true bs 0 most = (0, bs, 3)) := by show _ = _; simp [rNum, rNumE, HN.out, hb]
          have b1 : (most : Int) < (N : Int) := by omega
          go_wp2
          go_ret
          rw [HR.out]
          exact ⟨rfl, HI2.out.err 3, (Chg.ofNew HC2.out).trans (set_chg _) (fun b hb => .inl hb)⟩
        · have HR : Hid (rNum true bs 0 most = (N, bs.drop Z, 0)) := by show _ = _; simp [rNum, rNumE, HN.out, hb]
          have b1 : ¬ (most : Int) < (N : Int) := by omega
          have HD := Lib.hid (C_dropB hC2.out Z c (by rw [HM.out]; exact z2) (by rw [HM.out]; exact hl))
          have hdl : (bs.drop Z).length = m - Z := by rw [List.length_drop, HM.out]
          have HDL := Lib.hid hdl
          clear hdl
          go_wp2
          all_goals
            go_ret
            rw [HR.out]
            refine ⟨rfl, IsRef.put HI2.out ?_ HDL.out (by omega), (Chg.ofNew HC2.out).trans (set_chg _) (fun b hb => .inl hb)⟩
            have hD := HD.out
            first | (rw [if_pos (by omega)] at hD; exact hD) | (rw [if_neg (by omega)] at hD; exact hD)
      · have he' : ((E : Int) == 0) = false := by simp; omega
        have HR : Hid (rNum true bs 0 most = (0, bs, E)) := by show _ = _; simp [rNum, rNumE, HN.out, he]
        rw [show numV (N, Z, E) = .tuple #[.int .u64 N, .int .i64 Z, .int .i64 E] from rfl]
        go_wp2
        go_ret
        rw [HR.out]
        exact ⟨rfl, HI2.out.err E, (Chg.ofNew HC2.out).trans (set_chg _) (fun b hb => .inl hb)⟩
  · have HR : Hid (rNum true bs e most = (0, bs, e)) := by show _ = _; rw [rNum, if_neg (fun h => hst h.2)]
    obtain ⟨A, c, e0, e1, ef0, ef1, hl, hC⟩ := h.read
    have HI := Lib.hid h
    have he' : ((e : Int) == 0) = false := by simp; omega
    clear h hC hl
    go_enter Try.func34, Try.ntmps34
    go_wp2
    go_ret
    rw [HR.out]
    exact ⟨rfl, HI.out, Chg.refl _ _⟩
set_option maxHeartbeats 1000000 in
theorem rr_flag {w : World} {ok : Nat → Prop} {g : Nat} {bs : List UInt8} {e : Nat} (h : IsRef w ok g bs e) :
    Calls Try.prog 35 #[.pointer (some ⟨g, 0, none⟩)] w fun x w' => x = .returned (.bool (rFlag true bs e).1) ∧ IsRef w' ok g (rFlag true bs e).2.1 (rFlag true bs e).2.2 ∧ Chg (At (some ⟨g, 0, none⟩)) w w' := by
  by_cases hst : e = 0
  · subst hst
    have hdummy : True := trivial
    · obtain ⟨A, c, e0, e1, ef0, ef1, hl, hC⟩ := h.read
      have HI := Lib.hid h
      have HC := Lib.hid hC
      have hsm := hC.small
      obtain ⟨m, hm⟩ : ∃ m, bs.length = m := ⟨_, rfl⟩
      rw [hm] at e0 hl hsm
      have HM := Lib.hid hm
      obtain ⟨na, nb, nc⟩ := numAt_lt bs
      obtain ⟨N, Z, E, hN⟩ : ∃ N Z E, numAt bs = (N, Z, E) := ⟨_, _, _, rfl⟩
      rw [hN] at na nb nc
      simp only at na nb nc
      have HZ : Hid (E = 0 → 1 ≤ Z ∧ Z ≤ m) := by
        show E = 0 → _
        intro he
        have := numAt_size (bs := bs) (by rw [hN]; exact he)
        rw [hN] at this
        rw [← hm]
        exact this
      have HN := Lib.hid hN
      clear h hC hm hN
      rw [show (((0 : Nat) : Int)) = (0 : Int) from rfl] at e1
      go_enter Try.func35, Try.ntmps35
      go_wp2_with fail
      refine (ref_number HC.out HM.out hl).mono ?_
      rintro x w2 ⟨rfl, hc2⟩
      rw [HN.out]
      have HI2 : Hid (IsRef w2 ok g bs 0) := HI.out.new hc2
      obtain ⟨A', c', e0', e1', f0, f1, hl', hC'⟩ := HI2.out.read
      have d0 : w2.cell? ⟨g, 0, none⟩ = some (.slice A m c) := hc2.cell e0 (not_nob _)
      have d1 : w2.cell? ⟨g, 1, none⟩ = some (.int .i64 0) := hc2.cell e1 (not_nob _)
      have hC2 := Lib.hid (Kd.C_new HC.out hc2)
      have HC2 := Lib.hid hc2
      clear e0' e1' hl' hC' e0 e1 ef0 ef1 hc2
      by_cases he : E = 0
      · subst he
        obtain ⟨z1, z2⟩ := HZ.out rfl
        rw [show numV (N, Z, 0) = .tuple #[.int .u64 N, .int .i64 Z, .int .i64 0] from rfl]
        by_cases hb : 1 < N
        · have HR : Hid (rFlag true bs 0 = (false, bs, 40)) := by show _ = _; simp [rFlag, rFlagE, HN.out, hb]
          have b1 : (1 : Int) < (N : Int) := by omega
          go_wp2
          go_ret
          rw [HR.out]
          exact ⟨rfl, HI2.out.err 40, (Chg.ofNew HC2.out).trans (set_chg _) (fun b hb => .inl hb)⟩
        · have HR : Hid (rFlag true bs 0 = (N == 1, bs.drop Z, 0)) := by show _ = _; simp [rFlag, rFlagE, HN.out, hb]
          have hbn : (((N : Int)) == 1) = (N == 1) := by rw [Bool.eq_iff_iff]; simp; omega
          have HBN := Lib.hid hbn
          have b1 : ¬ (1 : Int) < (N : Int) := by omega
          have HD := Lib.hid (C_dropB hC2.out Z c (by rw [HM.out]; exact z2) (by rw [HM.out]; exact hl))
          have hdl : (bs.drop Z).length = m - Z := by rw [List.length_drop, HM.out]
          have HDL := Lib.hid hdl
          clear hdl hbn
          go_wp2
          all_goals
            go_ret
            rw [HR.out]
            refine ⟨by rw [← HBN.out]; rfl, IsRef.put HI2.out ?_ HDL.out (by omega), (Chg.ofNew HC2.out).trans (set_chg _) (fun b hb => .inl hb)⟩
            have hD := HD.out
            first | (rw [if_pos (by omega)] at hD; exact hD) | (rw [if_neg (by omega)] at hD; exact hD)
      · have he' : ((E : Int) == 0) = false := by simp; omega
        have HR : Hid (rFlag true bs 0 = (false, bs, E)) := by show _ = _; simp [rFlag, rFlagE, HN.out, he]
        rw [show numV (N, Z, E) = .tuple #[.int .u64 N, .int .i64 Z, .int .i64 E] from rfl]
        go_wp2
        go_ret
        rw [HR.out]
        exact ⟨rfl, HI2.out.err E, (Chg.ofNew HC2.out).trans (set_chg _) (fun b hb => .inl hb)⟩
  · have HR : Hid (rFlag true bs e = (false, bs, e)) := by show _ = _; rw [rFlag, if_neg (fun h => hst h.2)]
    obtain ⟨A, c, e0, e1, ef0, ef1, hl, hC⟩ := h.read
    have HI := Lib.hid h
    have he' : ((e : Int) == 0) = false := by simp; omega
    clear h hC hl
    go_enter Try.func35, Try.ntmps35
    go_wp2
    go_ret
    rw [HR.out]
    exact ⟨rfl, HI.out, Chg.refl _ _⟩
theorem rr_done {w : World} {ok : Nat → Prop} {g : Nat} {bs : List UInt8} {e : Nat} (h : IsRef w ok g bs e) :
    Calls Try.prog 36 #[.pointer (some ⟨g, 0, none⟩)] w fun x w' => x = .returned (.int .i64 (rDone bs e)) ∧ w' = w := by
  obtain ⟨A, c, e0, e1, ef0, ef1, hl, hC⟩ := h.read
  obtain ⟨m, hm⟩ : ∃ m, bs.length = m := ⟨_, rfl⟩
  have HR : Hid (rDone bs e = if e ≠ 0 then e else if 0 < m then 41 else 0) := by show _ = _; rw [rDone, hm]
  rw [hm] at e0
  clear h hC hl hm
  by_cases he : e = 0
  · subst he
    rw [show (((0 : Nat) : Int)) = (0 : Int) from rfl] at e1
    rw [if_neg (by simp)] at HR
    by_cases hm : 0 < m
    · rw [if_pos hm] at HR
      go_enter Try.func36, Try.ntmps36
      go_wp2
      go_ret
      rw [HR.out]
      exact ⟨rfl, rfl⟩
    · obtain rfl : m = 0 := by omega
      rw [if_neg hm] at HR
      rw [show (((0 : Nat) : Nat)) = (0 : Nat) from rfl] at e0
      go_enter Try.func36, Try.ntmps36
      go_wp2
      go_ret
      rw [HR.out]
      exact ⟨rfl, rfl⟩
  · have he' : ((e : Int) == 0) = false := by simp; omega
    rw [if_pos he] at HR
    go_enter Try.func36, Try.ntmps36
    go_wp2
    go_ret
    rw [HR.out]
    exact ⟨rfl, rfl⟩
end Go.Proofs.Ytmahjeafoogamaa

/- The plain law of reading and laying: what was laid is read, and what is read was laid. -/
namespace Go.Proofs.Ytmahjeafoogamaa
open Go.RowKit
set_option linter.unusedVariables false
theorem beV_snoc (n : Nat) (l : List UInt8) (x : UInt8) : beV n (l ++ [x]) = beV n l * 256 + x.toNat := by simp [beV]
theorem leB_step {v : Nat} (x : UInt8) (h : 0 < v * 256 + x.toNat) : leB (v * 256 + x.toNat) = x :: leB v := by
  have hx := x.toNat_lt
  rw [leB_pos h]
  have h1 : (v * 256 + x.toNat) % 256 = x.toNat := by omega
  have h2 : (v * 256 + x.toNat) / 256 = v := by omega
  rw [h1, h2]
  congr 1
  exact UInt8.ofNat_toNat
theorem leB_beV : ∀ (k : Nat) (l : List UInt8), l.length = k → l.head? ≠ some 0 → leB (beV 0 l) = l.reverse
  | 0, l, hk, _ => by
    rw [List.eq_nil_of_length_eq_zero hk]
    exact leB_zero
  | k + 1, l, hk, hh => by
    obtain ⟨l', x, rfl⟩ : ∃ l' x, l = l' ++ [x] := by
      have hne : l ≠ [] := by intro e; rw [e] at hk; cases hk
      exact ⟨l.dropLast, l.getLast hne, (List.dropLast_concat_getLast hne).symm⟩
    have hk' : l'.length = k := by simpa using hk
    rw [beV_snoc, List.reverse_append]
    cases l' with
    | nil =>
      have hx : x.toNat ≠ 0 := by
        intro e
        apply hh
        have : x = 0 := by apply UInt8.toNat.inj; rw [e]; rfl
        rw [this]; rfl
      rw [leB_step x (by simp [beV]; omega)]
      show x :: leB 0 = _
      rw [leB_zero]
      rfl
    | cons y t =>
      have ih := leB_beV k (y :: t) hk' (by simpa using hh)
      have hpos : 0 < beV 0 (y :: t) := by
        apply Nat.pos_of_ne_zero
        intro e
        rw [e, leB_zero] at ih
        simp at ih
      rw [leB_step x (by omega), ih]
      simp
theorem numB_len' (n : Nat) : (numB n).length = (leB n).length + 1 := by simp [numB]
/-- What is read was laid so. -/
theorem numAt_laid {bs : List UInt8} {N Z : Nat} (h : numAt bs = (N, Z, 0)) : bs = numB N ++ bs.drop Z ∧ N < 18446744073709551616 := by
  have hlt := (numAt_lt bs).1
  rw [h] at hlt
  refine ⟨?_, hlt⟩
  unfold numAt at h
  cases bs with
  | nil => simp at h
  | cons k t =>
    simp only at h
    split at h
    · simp at h
    · rename_i h1
      split at h
      · simp at h
      · rename_i h2
        simp only [Prod.mk.injEq] at h
        obtain ⟨hN, hZ, _⟩ := h
        subst hN hZ
        rw [List.length_cons] at h2
        have hl : (t.take k.toNat).length = k.toNat := by rw [List.length_take]; omega
        have hhd : (t.take k.toNat).head? ≠ some 0 := by
          intro e
          have hk0 : 0 < k.toNat := by
            apply Nat.pos_of_ne_zero
            intro e0
            rw [e0] at e
            simp at e
          apply h1
          refine .inr ⟨hk0, ?_⟩
          cases t with
          | nil => simp at e
          | cons y t => rw [show k.toNat = (k.toNat - 1) + 1 from by omega, List.take_succ_cons] at e; simpa using e
        have hle := leB_beV _ _ rfl hhd
        unfold numB
        rw [hle, List.reverse_reverse, List.length_reverse, hl, UInt8.ofNat_toNat, List.drop_succ_cons, List.cons_append, List.take_append_drop]
theorem beV_leB (n : Nat) : beV 0 (leB n).reverse = n := by
  induction n using Nat.strongRecOn with
  | ind n ih =>
    by_cases h : 0 < n
    · rw [leB_pos h, List.reverse_cons, beV_snoc, ih (n / 256) (by omega), UInt8.toNat_ofNat_of_lt' (by show n % 256 < 256; omega)]
      omega
    · obtain rfl : n = 0 := by omega
      rw [leB_zero]
      rfl
theorem leB_head (n : Nat) : (leB n).reverse.head? ≠ some 0 := by
  induction n using Nat.strongRecOn with
  | ind n ih =>
    by_cases h : 0 < n
    · rw [leB_pos h, List.reverse_cons]
      by_cases h2 : 0 < n / 256
      · have h3 := ih (n / 256) (by omega)
        cases hl : (leB (n / 256)).reverse with
        | nil =>
          have := congrArg List.length hl
          rw [leB_pos h2] at this
          simp at this
        | cons x t => rw [hl] at h3; simpa using h3
      · have : n / 256 = 0 := by omega
        rw [this, leB_zero]
        intro e
        have e2 : UInt8.ofNat (n % 256) = 0 := by simpa using e
        have e3 := congrArg UInt8.toNat e2
        rw [UInt8.toNat_ofNat_of_lt' (by show n % 256 < 256; omega)] at e3
        have : (0 : UInt8).toNat = 0 := rfl
        omega
    · obtain rfl : n = 0 := by omega
      rw [leB_zero]
      simp
/-- What was laid is read so. -/
theorem numAt_numB {n : Nat} (h : n < 18446744073709551616) (rest : List UInt8) : numAt (numB n ++ rest) = (n, (numB n).length, 0) := by
  have h8 := leB_len8 h
  have hk : (UInt8.ofNat (leB n).length).toNat = (leB n).length := UInt8.toNat_ofNat_of_lt' (by show (leB n).length < 256; omega)
  have hrl : (leB n).reverse.length = (leB n).length := List.length_reverse
  unfold numB
  rw [List.cons_append]
  unfold numAt
  simp only
  rw [hk, if_neg, if_neg]
  · rw [List.take_append_of_le_length (by omega), List.take_of_length_le (by omega), beV_leB]
    simp
  · simp
  · rintro (h1 | ⟨h1, h2⟩)
    · omega
    · apply leB_head n
      cases hl : (leB n).reverse with
      | nil => rw [hl] at hrl; simp at hrl; omega
      | cons x t => rw [hl] at h2; simpa using h2
theorem rNum_fwd {n most : Nat} (h : n < 18446744073709551616) (hm : n ≤ most) (rest : List UInt8) : rNum true (numB n ++ rest) 0 most = (n, rest, 0) := by
  have h1 : rNumE (numB n ++ rest) most = 0 := by unfold rNumE; rw [numAt_numB h]; simp; omega
  unfold rNum
  rw [if_pos ⟨rfl, rfl⟩, if_pos h1, numAt_numB h]
  simp
theorem rNum_bwd {n most : Nat} {bs bs' : List UInt8} (h : rNum true bs 0 most = (n, bs', 0)) : bs = numB n ++ bs' ∧ n < 18446744073709551616 := by
  unfold rNum at h
  rw [if_pos ⟨rfl, rfl⟩] at h
  split at h
  · rename_i h1
    have h2 : (numAt bs).2.2 = 0 := by unfold rNumE at h1; split at h1; cases h1; exact h1
    simp only [Prod.mk.injEq] at h
    obtain ⟨rfl, rfl, _⟩ := h
    exact numAt_laid (Z := (numAt bs).2.1) (by rw [← h2])
  · rename_i h1
    simp only [Prod.mk.injEq] at h
    exact absurd h.2.2 h1
theorem strOf_strB (s : ByteArray) : strOf (strB s) = s := by
  apply ByteArray.ext
  show (strB s).toArray = _
  simp [strB]
theorem strB_strOf (l : List UInt8) : strB (strOf l) = l := by simp [strB, strOf]
theorem rText_fwd {s : ByteArray} {most : Int} (h : s.size < 18446744073709551616) (hm : (s.size : Int) ≤ most) (rest : List UInt8) : rText true (txtB s ++ rest) 0 most = (s, rest, 0) := by
  have e : txtB s ++ rest = numB s.size ++ (strB s ++ rest) := by rw [txtB, List.append_assoc]
  have h0 := numAt_numB h (strB s ++ rest)
  have h1 : rTextE (txtB s ++ rest) most = 0 := by
    unfold rTextE
    rw [e, h0]
    simp only [List.length_append, strB_len]
    rw [if_neg (by simp), if_neg (by omega), if_neg (by omega)]
  unfold rText
  rw [if_pos ⟨rfl, rfl⟩, if_pos h1, e, h0]
  simp only
  rw [List.drop_left', List.take_left' (strB_len s), strOf_strB, List.drop_append, List.drop_of_length_le (by omega)]
  · simp [strB_len]
  · rfl
theorem rText_bwd {s : ByteArray} {most : Int} {bs bs' : List UInt8} (h : rText true bs 0 most = (s, bs', 0)) : bs = txtB s ++ bs' ∧ s.size ≤ bs.length := by
  unfold rText at h
  rw [if_pos ⟨rfl, rfl⟩] at h
  split at h
  · rename_i h1
    have h2 : (numAt bs).2.2 = 0 ∧ (numAt bs).1 ≤ bs.length - (numAt bs).2.1 := by
      unfold rTextE at h1
      split at h1
      · rename_i h3; exact absurd h1 h3
      · rename_i h3
        split at h1
        · cases h1
        · split at h1
          · cases h1
          · rename_i h4
            exact ⟨by simpa using h3, by omega⟩
    simp only [Prod.mk.injEq] at h
    obtain ⟨rfl, rfl, _⟩ := h
    obtain ⟨k1, k2⟩ := numAt_laid (bs := bs) (N := (numAt bs).1) (Z := (numAt bs).2.1) (by rw [← h2.1])
    have hl : ((bs.drop (numAt bs).2.1).take (numAt bs).1).length = (numAt bs).1 := by rw [List.length_take, List.length_drop]; omega
    refine ⟨?_, ?_⟩
    · rw [txtB, strB_strOf, strOf_size, hl, List.append_assoc]
      rw [show List.drop ((numAt bs).2.1 + (numAt bs).1) bs = (bs.drop (numAt bs).2.1).drop (numAt bs).1 from by rw [List.drop_drop], List.take_append_drop]
      exact k1
    · rw [strOf_size, hl]; omega
  · rename_i h1
    simp only [Prod.mk.injEq] at h
    exact absurd h.2.2 h1
theorem rFlag_fwd (fl : Bool) (rest : List UInt8) : rFlag true (numB (if fl then 1 else 0) ++ rest) 0 = (fl, rest, 0) := by
  have h0 := numAt_numB (n := if fl then 1 else 0) (by split <;> omega) rest
  have h1 : rFlagE (numB (if fl then 1 else 0) ++ rest) = 0 := by unfold rFlagE; rw [h0]; simp; cases fl <;> simp
  unfold rFlag
  rw [if_pos ⟨rfl, rfl⟩, if_pos h1, h0]
  simp
  cases fl <;> simp
theorem rFlag_bwd {fl : Bool} {bs bs' : List UInt8} (h : rFlag true bs 0 = (fl, bs', 0)) : bs = numB (if fl then 1 else 0) ++ bs' := by
  unfold rFlag at h
  rw [if_pos ⟨rfl, rfl⟩] at h
  split at h
  · rename_i h1
    have h2 : (numAt bs).2.2 = 0 ∧ (numAt bs).1 ≤ 1 := by
      unfold rFlagE at h1
      split at h1
      · cases h1
      · rename_i h3; exact ⟨h1, by omega⟩
    simp only [Prod.mk.injEq] at h
    obtain ⟨rfl, rfl, _⟩ := h
    obtain ⟨k1, k2⟩ := numAt_laid (bs := bs) (N := (numAt bs).1) (Z := (numAt bs).2.1) (by rw [← h2.1])
    rw [show (if ((numAt bs).1 == 1) = true then 1 else 0) = (numAt bs).1 from by by_cases h9 : (numAt bs).1 = 1 <;> simp [h9]; omega]
    exact k1
  · rename_i h1
    simp only [Prod.mk.injEq] at h
    exact absurd h.2.2 h1
section
variable {α : Type} {f : List UInt8 → Nat → α × List UInt8 × Nat} {lay : α → List UInt8}
theorem rItems_fwd (l : List α) (hf : ∀ x ∈ l, ∀ rest, f (lay x ++ rest) 0 = (x, rest, 0)) (rest : List UInt8) : rItems f l.length ((l.map lay).flatten ++ rest) 0 = (l, rest, 0) := by
  induction l with
  | nil => rfl
  | cons x l ih =>
    rw [List.length_cons, rItems, if_pos rfl, List.map_cons, List.flatten_cons, List.append_assoc, hf x List.mem_cons_self]
    rw [ih (fun y hy => hf y (List.mem_cons_of_mem _ hy))]
theorem rItems_bwd (hf : ∀ bs x bs', f bs 0 = (x, bs', 0) → bs = lay x ++ bs') : ∀ (n : Nat) (bs : List UInt8) (e : Nat) (l : List α) (bs' : List UInt8), rItems f n bs e = (l, bs', 0) → e = 0 ∧ l.length = n ∧ bs = (l.map lay).flatten ++ bs'
  | 0, bs, e, l, bs', h => by
    simp only [rItems, Prod.mk.injEq] at h
    obtain ⟨rfl, rfl, rfl⟩ := h
    exact ⟨rfl, rfl, rfl⟩
  | n + 1, bs, e, l, bs', h => by
    rw [rItems] at h
    split at h
    · rename_i he
      subst he
      simp only [Prod.mk.injEq] at h
      obtain ⟨rfl, h2⟩ := h
      obtain ⟨k1, k2, k3⟩ := rItems_bwd hf n (f bs 0).2.1 (f bs 0).2.2 (rItems f n (f bs 0).2.1 (f bs 0).2.2).1 bs' (by rw [← h2])
      refine ⟨rfl, by rw [List.length_cons, k2], ?_⟩
      rw [List.map_cons, List.flatten_cons, List.append_assoc, ← k3]
      exact hf bs _ _ (Prod.ext rfl (Prod.ext rfl k1))
    · rename_i he
      simp only [Prod.mk.injEq] at h
      exact absurd h.2.2 he
end
end Go.Proofs.Ytmahjeafoogamaa
