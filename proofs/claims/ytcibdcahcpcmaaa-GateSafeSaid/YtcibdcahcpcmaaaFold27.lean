import Derived.Test.YtcibdcahcpcmaaaFold26
/- The reference's number: what bytes begin with. -/
namespace Go.Proofs.Ytcibdcahcpcmaaa
open Go.RowKit
set_option maxRecDepth 100000
set_option linter.unusedVariables false
set_option maxHeartbeats 2000000 in
theorem ref_number {w : World} {ok : Nat → Prop} {A : Option Addr} {m c : Nat} {bs : List UInt8} (hb : Kd.byte.C w ok A bs) (hm : bs.length = m) (hc : m ≤ c) :
    Calls Try.prog 75 #[.slice A m c] w fun e w' => e = .returned (numV (numAt bs)) ∧ Chg nob w w' := by
  have hs := hb.small
  go_enter Try.func75, Try.ntmps75
  cases bs with
  | nil =>
    obtain rfl : m = 0 := hm.symm
    go_wp2
    go_ret3
    exact ⟨rfl, Chg.refl _ _⟩
  | cons k t =>
    obtain ⟨b, o, rfl, _, hcells⟩ := at_bytes hb
    have hk0 : w.cell? ⟨b, o, none⟩ = some (.int .u8 (k.toNat : Int)) := hcells 0 k rfl
    have HC := Lib.hid hcells
    clear hcells
    have hk256 := k.toNat_lt
    obtain ⟨K, hK⟩ : ∃ K, k.toNat = K := ⟨_, rfl⟩
    rw [hK] at hk0 hk256
    have hm0 : 0 < m := by rw [← hm]; simp
    have hms : m ≤ 9223372036854775807 := by rw [← hm]; exact hs
    have HM := Lib.hid hm
    have HK := Lib.hid hK
    clear hm hK hs
    by_cases h8 : 8 < K
    · have HE : Hid (numV (numAt (k :: t)) = numV (0, 0, 40)) := by show _ = _; rw [numAt, if_pos (.inl (by rw [HK.out]; exact h8))]
      go_wp2
      go_ret3
      refine ⟨?_, Chg.refl _ _⟩
      rw [HE.out]
      rfl
    · by_cases hz : 0 < K ∧ t.head? = some 0
      · obtain ⟨hz0, hz1⟩ := hz
        have HE : Hid (numV (numAt (k :: t)) = numV (0, 0, 40)) := by show _ = _; rw [numAt, if_pos (.inr ⟨by rw [HK.out]; exact hz0, hz1⟩)]
        cases t with
        | nil => cases hz1
        | cons x t =>
          obtain rfl : x = 0 := by simpa using hz1
          have hx1 : w.cell? ⟨b, o + 1, none⟩ = some (.int .u8 0) := HC.out 1 0 rfl
          have hm1 : 1 < m := by rw [← HM.out]; simp
          go_wp2
          go_ret3
          refine ⟨?_, Chg.refl _ _⟩
          rw [HE.out]
          rfl
      · have hnz : ¬ (8 < k.toNat ∨ (0 < k.toNat ∧ t.head? = some 0)) := by rw [HK.out]; rintro (h | h); exact h8 h; exact hz h
        by_cases hl : m < K + 1
        · have HE : Hid (numV (numAt (k :: t)) = numV (0, 0, 30)) := by show _ = _; rw [numAt, if_neg hnz, if_pos (by rw [HM.out, HK.out]; exact hl)]
          have HZ := Lib.hid hnz
          clear hnz hz
          have h0 : 0 < K := by omega
          cases t with
          | nil =>
            have hm1 : m = 1 := by rw [← HM.out]; rfl
            subst hm1
            go_wp2
            go_ret3
            refine ⟨?_, Chg.refl _ _⟩
            rw [HE.out]
            rfl
          | cons x t =>
            obtain ⟨X, hX⟩ : ∃ X, x.toNat = X := ⟨_, rfl⟩
            have hX0 : 0 < X := by
              apply Nat.pos_of_ne_zero
              intro e
              refine HZ.out (.inr ⟨by rw [HK.out]; exact h0, ?_⟩)
              have : x = 0 := by apply UInt8.toNat.inj; rw [hX, e]; rfl
              rw [this]; rfl
            have hx1 : w.cell? ⟨b, o + 1, none⟩ = some (.int .u8 (X : Int)) := by rw [← hX]; exact HC.out 1 x rfl
            have hm1 : 1 < m := by rw [← HM.out]; simp
            have hXb : ((X : Int) == 0) = false := by simp; omega
            have hKb : decide ((8 : Int) < (K : Int)) = false := by simp; omega
            clear hX
            go_wp2
            go_ret3
            refine ⟨?_, Chg.refl _ _⟩
            rw [HE.out]
            rfl
        · have hbe : beV 0 (t.take K) < 18446744073709551616 := beV_lt8 _ (by rw [List.length_take]; omega)
          have hlt : K ≤ t.length := by have := HM.out; rw [List.length_cons] at this; omega
          have HE : Hid (numV (numAt (k :: t)) = .tuple #[.int .u64 (beV 0 (t.take K) : Nat), .int .i64 (1 + (K : Int)), .int .i64 0]) := by
            show _ = _
            rw [numAt, if_neg hnz, if_neg (by rw [HM.out, HK.out]; exact hl), HK.out]
            show Value.tuple #[_, .int .i64 ((K + 1 : Nat) : Int), _] = _
            rw [show ((K + 1 : Nat) : Int) = 1 + (K : Int) from by omega]
            rfl
          have hKb : decide ((8 : Int) < (K : Int)) = false := by simp; omega
          by_cases h0 : 0 < K
          · obtain ⟨x, t', rfl⟩ : ∃ x t', t = x :: t' := by cases t with
              | nil => simp at hlt; omega
              | cons x t' => exact ⟨x, t', rfl⟩
            obtain ⟨X, hX⟩ : ∃ X, x.toNat = X := ⟨_, rfl⟩
            have hX0 : 0 < X := by
              apply Nat.pos_of_ne_zero
              intro e
              refine hnz (.inr ⟨by rw [HK.out]; exact h0, ?_⟩)
              have : x = 0 := by apply UInt8.toNat.inj; rw [hX, e]; rfl
              rw [this]; rfl
            have hx1 : w.cell? ⟨b, o + 1, none⟩ = some (.int .u8 (X : Int)) := by rw [← hX]; exact HC.out 1 x rfl
            have hm1 : 1 < m := by rw [← HM.out]; simp
            have hXb : ((X : Int) == 0) = false := by simp; omega
            have HZ := Lib.hid hnz
            have HLT := Lib.hid hlt
            clear hX hnz hz hlt
            have hcc : ¬ c = 1 := by omega
            go_wp2
            go_loopw [6, 7] (fun v i wr => ∃ (j V : Nat), v = .int .u64 V ∧ i = .int .i64 ((j : Int) + 1) ∧ j ≤ K ∧ Hid (V = beV 0 ((x :: t').take j)) ∧ wr = w) (fun _ i _ => K + 1 - (intOf i).toNat)
            case atStart => exact ⟨0, 0, rfl, rfl, Nat.zero_le _, rfl, rfl⟩
            case round =>
              obtain ⟨j, V, rfl, rfl, hj, HV, rfl⟩ := hrel
              by_cases hlt : j < K
              · obtain ⟨y, hy⟩ : ∃ y, (x :: t')[j]? = some y := ⟨_, List.getElem?_eq_getElem (by have := HLT.out; omega)⟩
                have hVlt : V < 72057594037927936 := by
                  have h1 := beV_lt ((x :: t').take j)
                  rw [← HV.out] at h1
                  have h2 : (256 : Nat) ^ ((x :: t').take j).length ≤ 256 ^ 7 := Nat.pow_le_pow_right (by omega) (by rw [List.length_take]; omega)
                  have h3 : (256 : Nat) ^ 7 = 72057594037927936 := by decide
                  omega
                have hcy : wr.cell? ⟨b, o + (j + 1), none⟩ = some (.int .u8 (y.toNat : Int)) := HC.out (j + 1) y (by simpa using hy)
                have HN : Hid (V * 256 + y.toNat = beV 0 ((x :: t').take (j + 1))) := by show _ = _; rw [beV_take 0 _ j y hy, ← HV.out]
                have hy256 := y.toNat_lt
                obtain ⟨Y, hY⟩ : ∃ Y, y.toNat = Y := ⟨_, rfl⟩
                rw [hY] at hcy HN hy256
                clear hY hy
                have b1 : (0 : Int) ≤ (j : Int) := by omega
                have b2 : (j : Int) < (K : Int) := by omega
                go_wp2
                exact ⟨⟨j + 1, V * 256 + Y, by go_num, by go_num, by omega, HN, trivial⟩, by simp [intOf]; omega⟩
              · obtain rfl : j = K := by omega
                go_wp2
                go_ret3
                refine ⟨?_, Chg.refl _ _⟩
                rw [HE.out, ← HV.out]
                rfl
          · obtain rfl : K = 0 := by omega
            clear hnz hz
            go_wp2
            all_goals
              go_loopw [6, 7] (fun v i wr => v = .int .u64 0 ∧ i = .int .i64 1 ∧ wr = w) (fun _ _ _ => 0)
              case atStart => exact ⟨rfl, rfl, rfl⟩
              case round =>
                obtain ⟨rfl, rfl, rfl⟩ := hrel
                go_wp2
                go_ret3
                refine ⟨?_, Chg.refl _ _⟩
                rw [HE.out]
                rfl
end Go.Proofs.Ytcibdcahcpcmaaa

/- What a reader answers: the plain laws of it. -/
namespace Go.Proofs.Ytcibdcahcpcmaaa
open Go.RowKit
set_option maxRecDepth 100000
set_option linter.unusedVariables false
theorem numAt_size {bs : List UInt8} (h : (numAt bs).2.2 = 0) : 1 ≤ (numAt bs).2.1 ∧ (numAt bs).2.1 ≤ bs.length := by
  unfold numAt at h ⊢
  cases bs with
  | nil => simp at h
  | cons k t =>
    simp only at h ⊢
    split at h
    · cases h
    · split at h
      · cases h
      · rename_i h1 h2
        rw [if_neg h1, if_neg h2]
        simp only at h2 ⊢
        omega
theorem numAt_lt (bs : List UInt8) : (numAt bs).1 < 18446744073709551616 ∧ (numAt bs).2.1 ≤ 9 ∧ (numAt bs).2.2 ≤ 40 := by
  unfold numAt
  cases bs with
  | nil => simp
  | cons k t =>
    simp only
    split
    · simp
    · rename_i h1
      have h8 : k.toNat ≤ 8 := by omega
      split
      · simp
      · refine ⟨beV_lt8 _ (by rw [List.length_take]; omega), by simp; omega, by simp⟩
theorem numAt_err {bs : List UInt8} (h : (numAt bs).2.2 ≠ 0) : (numAt bs).1 = 0 := by
  unfold numAt at h ⊢
  cases bs with
  | nil => rfl
  | cons k t =>
    simp only at h ⊢
    split at h
    · rename_i h1; rw [if_pos h1]
    · rename_i h1
      rw [if_neg h1]
      split at h
      · rename_i h2; rw [if_pos h2]
      · exact absurd rfl h
/-- A number is read: what it is, what is left, what is wrong. st: the reader was made. -/
def rNumE (bs : List UInt8) (most : Nat) : Nat := if (numAt bs).2.2 = 0 ∧ most < (numAt bs).1 then 3 else (numAt bs).2.2
def rNum (st : Bool) (bs : List UInt8) (e most : Nat) : Nat × List UInt8 × Nat :=
  if st = true ∧ e = 0 then (if rNumE bs most = 0 then ((numAt bs).1, bs.drop (numAt bs).2.1, 0) else (0, bs, rNumE bs most)) else (0, bs, e)
def rTextE (bs : List UInt8) (most : Int) : Nat :=
  if (numAt bs).2.2 ≠ 0 then (numAt bs).2.2 else if (max most 0).toNat < (numAt bs).1 then 3 else if bs.length - (numAt bs).2.1 < (numAt bs).1 then 30 else 0
def rText (st : Bool) (bs : List UInt8) (e : Nat) (most : Int) : ByteArray × List UInt8 × Nat :=
  if st = true ∧ e = 0 then (if rTextE bs most = 0 then (strOf ((bs.drop (numAt bs).2.1).take (numAt bs).1), bs.drop ((numAt bs).2.1 + (numAt bs).1), 0) else (strOf [], bs, rTextE bs most)) else (strOf [], bs, e)
def rFlagE (bs : List UInt8) : Nat := if (numAt bs).2.2 = 0 ∧ 1 < (numAt bs).1 then 40 else (numAt bs).2.2
def rFlag (st : Bool) (bs : List UInt8) (e : Nat) : Bool × List UInt8 × Nat :=
  if st = true ∧ e = 0 then (if rFlagE bs = 0 then ((numAt bs).1 == 1, bs.drop (numAt bs).2.1, 0) else (false, bs, rFlagE bs)) else (false, bs, e)
def rItems {α : Type} (f : List UInt8 → Nat → α × List UInt8 × Nat) : Nat → List UInt8 → Nat → List α × List UInt8 × Nat
  | 0, bs, e => ([], bs, e)
  | n + 1, bs, e => if e = 0 then ((f bs e).1 :: (rItems f n (f bs e).2.1 (f bs e).2.2).1, (rItems f n (f bs e).2.1 (f bs e).2.2).2) else ([], bs, e)
def rList {α : Type} (f : List UInt8 → Nat → α × List UInt8 × Nat) (st : Bool) (bs : List UInt8) (e : Nat) (many : Int) : List α × List UInt8 × Nat :=
  if st = true ∧ e = 0 then
    (let x := rNum true bs 0 (max many 0).toNat
     let y := rItems f x.1 x.2.1 x.2.2
     if y.2.2 = 0 then y else ([], y.2))
  else ([], bs, e)
def rDone (bs : List UInt8) (e : Nat) : Nat := if e ≠ 0 then e else if 0 < bs.length then 41 else 0
/-- What is left is the end of what there was. -/
def Rest (bs bs' : List UInt8) : Prop := ∃ k, bs' = bs.drop k
theorem Rest.refl (bs : List UInt8) : Rest bs bs := ⟨0, rfl⟩
theorem Rest.trans {a b c : List UInt8} (h : Rest a b) (k : Rest b c) : Rest a c := by
  obtain ⟨i, rfl⟩ := h
  obtain ⟨j, rfl⟩ := k
  exact ⟨i + j, by rw [List.drop_drop]⟩
theorem Rest.len {a b : List UInt8} (h : Rest a b) : b.length ≤ a.length := by
  obtain ⟨i, rfl⟩ := h
  rw [List.length_drop]
  omega
theorem rNum_rest (st : Bool) (bs : List UInt8) (e most : Nat) : Rest bs (rNum st bs e most).2.1 := by
  unfold rNum
  split
  · split
    · exact ⟨_, rfl⟩
    · exact .refl _
  · exact .refl _
theorem rText_rest (st : Bool) (bs : List UInt8) (e : Nat) (most : Int) : Rest bs (rText st bs e most).2.1 := by
  unfold rText
  split
  · split
    · exact ⟨_, rfl⟩
    · exact .refl _
  · exact .refl _
theorem rNum_lt (st : Bool) (bs : List UInt8) (e most : Nat) : (rNum st bs e most).1 < 18446744073709551616 := by
  unfold rNum
  split
  · split
    · exact (numAt_lt bs).1
    · simp
  · simp
theorem rNum_err {st : Bool} {bs : List UInt8} {e most : Nat} (h : (rNum st bs e most).2.2 ≠ 0) : (rNum st bs e most).1 = 0 := by
  unfold rNum at h ⊢
  split at h
  · rename_i h1
    rw [if_pos h1]
    split at h
    · exact absurd rfl h
    · rename_i h2; rw [if_neg h2]
  · rename_i h1; rw [if_neg h1]
theorem rNum_shorter {st : Bool} {bs : List UInt8} {e most : Nat} (hs : st = true ∧ e = 0) (h : (rNum st bs e most).2.2 = 0) : (rNum st bs e most).2.1.length < bs.length := by
  unfold rNum at h ⊢
  rw [if_pos hs] at h ⊢
  split at h
  · rename_i h2
    rw [if_pos h2]
    have h3 : (numAt bs).2.2 = 0 := by unfold rNumE at h2; split at h2; cases h2; exact h2
    have := numAt_size h3
    simp only [List.length_drop]
    omega
  · rename_i h2; exact absurd h h2
theorem rText_shorter {st : Bool} {bs : List UInt8} {e : Nat} {most : Int} (hs : st = true ∧ e = 0) (h : (rText st bs e most).2.2 = 0) : (rText st bs e most).2.1.length < bs.length := by
  unfold rText at h ⊢
  rw [if_pos hs] at h ⊢
  split at h
  · rename_i h2
    rw [if_pos h2]
    have h3 : (numAt bs).2.2 = 0 := by unfold rTextE at h2; split at h2 <;> simp_all
    have := numAt_size h3
    simp only [List.length_drop]
    omega
  · rename_i h2; exact absurd h h2
section
variable {α : Type} {f : List UInt8 → Nat → α × List UInt8 × Nat}
theorem rItems_len (hf : ∀ bs, (f bs 0).2.2 = 0 → (f bs 0).2.1.length < bs.length) : ∀ (n : Nat) (bs : List UInt8) (e : Nat), (rItems f n bs e).1.length ≤ bs.length + 1
  | 0, bs, e => by simp [rItems]
  | n + 1, bs, e => by
    unfold rItems
    split
    · rename_i he
      subst he
      simp only [List.length_cons]
      by_cases h : (f bs 0).2.2 = 0
      · have h1 := hf bs h
        have h2 := rItems_len hf n (f bs 0).2.1 (f bs 0).2.2
        omega
      · have : rItems f n (f bs 0).2.1 (f bs 0).2.2 = ([], (f bs 0).2.1, (f bs 0).2.2) := by
          cases n with
          | zero => rfl
          | succ n => rw [rItems, if_neg h]
        rw [this]
        simp
    · simp
theorem rItems_stop {n : Nat} {bs : List UInt8} {e : Nat} (h : e ≠ 0) : rItems f n bs e = ([], bs, e) := by
  cases n with
  | zero => rfl
  | succ n => rw [rItems, if_neg h]
theorem rItems_rest (hf : ∀ bs e, Rest bs (f bs e).2.1) : ∀ (n : Nat) (bs : List UInt8) (e : Nat), Rest bs (rItems f n bs e).2.1
  | 0, bs, e => .refl _
  | n + 1, bs, e => by
    unfold rItems
    split
    · exact (hf bs e).trans (rItems_rest hf n _ _)
    · exact .refl _
end
end Go.Proofs.Ytcibdcahcpcmaaa
