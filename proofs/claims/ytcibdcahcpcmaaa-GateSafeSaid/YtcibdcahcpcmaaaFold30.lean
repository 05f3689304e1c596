import Derived.Test.YtcibdcahcpcmaaaFold29
/- The plain law of reading and laying: what was laid is read, and what is read was laid. -/
namespace Go.Proofs.Ytcibdcahcpcmaaa
open Go.RowKit
set_option maxRecDepth 100000
set_option linter.unusedVariables false
theorem beV_snoc (n : Nat) (l : List UInt8) (x : UInt8) : beV n (l ++ [x]) = beV n l * 256 + x.toNat := by simp [beV]
theorem leB_step {v : Nat} (x : UInt8) (h : 0 < v * 256 + x.toNat) : leB (v * 256 + x.toNat) = x :: leB v := by
  have hx := x.toNat_lt
  rw [leB_pos h]
  have h1 : (v * 256 + x.toNat) % 256 = x.toNat := by omega
  have h2 : (v * 256 + x.toNat) / 256 = v := by omega
  rw [h1, h2]
  congr 1
  exact UInt8.ofNat_toNat
theorem leB_beV : ∀ (k : Nat) (l : List UInt8), l.length = k → l.head? ≠ some 0 → leB (beV 0 l) = l.reverse
  | 0, l, hk, _ => by
    rw [List.eq_nil_of_length_eq_zero hk]
    exact leB_zero
  | k + 1, l, hk, hh => by
    obtain ⟨l', x, rfl⟩ : ∃ l' x, l = l' ++ [x] := by
      have hne : l ≠ [] := by intro e; rw [e] at hk; cases hk
      exact ⟨l.dropLast, l.getLast hne, (List.dropLast_concat_getLast hne).symm⟩
    have hk' : l'.length = k := by simpa using hk
    rw [beV_snoc, List.reverse_append]
    cases l' with
    | nil =>
      have hx : x.toNat ≠ 0 := by
        intro e
        apply hh
        have : x = 0 := by apply UInt8.toNat.inj; rw [e]; rfl
        rw [this]; rfl
      rw [leB_step x (by simp [beV]; omega)]
      show x :: leB 0 = _
      rw [leB_zero]
      rfl
    | cons y t =>
      have ih := leB_beV k (y :: t) hk' (by simpa using hh)
      have hpos : 0 < beV 0 (y :: t) := by
        apply Nat.pos_of_ne_zero
        intro e
        rw [e, leB_zero] at ih
        simp at ih
      rw [leB_step x (by omega), ih]
      simp
theorem numB_len' (n : Nat) : (numB n).length = (leB n).length + 1 := by simp [numB]
/-- What is read was laid so. -/
theorem numAt_laid {bs : List UInt8} {N Z : Nat} (h : numAt bs = (N, Z, 0)) : bs = numB N ++ bs.drop Z ∧ N < 18446744073709551616 := by
  have hlt := (numAt_lt bs).1
  rw [h] at hlt
  refine ⟨?_, hlt⟩
  unfold numAt at h
  cases bs with
  | nil => simp at h
  | cons k t =>
    simp only at h
    split at h
    · simp at h
    · rename_i h1
      split at h
      · simp at h
      · rename_i h2
        simp only [Prod.mk.injEq] at h
        obtain ⟨hN, hZ, _⟩ := h
        subst hN hZ
        rw [List.length_cons] at h2
        have hl : (t.take k.toNat).length = k.toNat := by rw [List.length_take]; omega
        have hhd : (t.take k.toNat).head? ≠ some 0 := by
          intro e
          have hk0 : 0 < k.toNat := by
            apply Nat.pos_of_ne_zero
            intro e0
            rw [e0] at e
            simp at e
          apply h1
          refine .inr ⟨hk0, ?_⟩
          cases t with
          | nil => simp at e
          | cons y t => rw [show k.toNat = (k.toNat - 1) + 1 from by omega, List.take_succ_cons] at e; simpa using e
        have hle := leB_beV _ _ rfl hhd
        unfold numB
        rw [hle, List.reverse_reverse, List.length_reverse, hl, UInt8.ofNat_toNat, List.drop_succ_cons, List.cons_append, List.take_append_drop]
theorem beV_leB (n : Nat) : beV 0 (leB n).reverse = n := by
  induction n using Nat.strongRecOn with
  | ind n ih =>
    by_cases h : 0 < n
    · rw [leB_pos h, List.reverse_cons, beV_snoc, ih (n / 256) (by omega), UInt8.toNat_ofNat_of_lt' (by show n % 256 < 256; omega)]
      omega
    · obtain rfl : n = 0 := by omega
      rw [leB_zero]
      rfl
theorem leB_head (n : Nat) : (leB n).reverse.head? ≠ some 0 := by
  induction n using Nat.strongRecOn with
  | ind n ih =>
    by_cases h : 0 < n
    · rw [leB_pos h, List.reverse_cons]
      by_cases h2 : 0 < n / 256
      · have h3 := ih (n / 256) (by omega)
        cases hl : (leB (n / 256)).reverse with
        | nil =>
          have := congrArg List.length hl
          rw [leB_pos h2] at this
          simp at this
        | cons x t => rw [hl] at h3; simpa using h3
      · have : n / 256 = 0 := by omega
        rw [this, leB_zero]
        intro e
        have e2 : UInt8.ofNat (n % 256) = 0 := by simpa using e
        have e3 := congrArg UInt8.toNat e2
        rw [UInt8.toNat_ofNat_of_lt' (by show n % 256 < 256; omega)] at e3
        have : (0 : UInt8).toNat = 0 := rfl
        omega
    · obtain rfl : n = 0 := by omega
      rw [leB_zero]
      simp
/-- What was laid is read so. -/
theorem numAt_numB {n : Nat} (h : n < 18446744073709551616) (rest : List UInt8) : numAt (numB n ++ rest) = (n, (numB n).length, 0) := by
  have h8 := leB_len8 h
  have hk : (UInt8.ofNat (leB n).length).toNat = (leB n).length := UInt8.toNat_ofNat_of_lt' (by show (leB n).length < 256; omega)
  have hrl : (leB n).reverse.length = (leB n).length := List.length_reverse
  unfold numB
  rw [List.cons_append]
  unfold numAt
  simp only
  rw [hk, if_neg, if_neg]
  · rw [List.take_append_of_le_length (by omega), List.take_of_length_le (by omega), beV_leB]
    simp
  · simp
  · rintro (h1 | ⟨h1, h2⟩)
    · omega
    · apply leB_head n
      cases hl : (leB n).reverse with
      | nil => rw [hl] at hrl; simp at hrl; omega
      | cons x t => rw [hl] at h2; simpa using h2
theorem rNum_fwd {n most : Nat} (h : n < 18446744073709551616) (hm : n ≤ most) (rest : List UInt8) : rNum true (numB n ++ rest) 0 most = (n, rest, 0) := by
  have h1 : rNumE (numB n ++ rest) most = 0 := by unfold rNumE; rw [numAt_numB h]; simp; omega
  unfold rNum
  rw [if_pos ⟨rfl, rfl⟩, if_pos h1, numAt_numB h]
  simp
theorem rNum_bwd {n most : Nat} {bs bs' : List UInt8} (h : rNum true bs 0 most = (n, bs', 0)) : bs = numB n ++ bs' ∧ n < 18446744073709551616 := by
  unfold rNum at h
  rw [if_pos ⟨rfl, rfl⟩] at h
  split at h
  · rename_i h1
    have h2 : (numAt bs).2.2 = 0 := by unfold rNumE at h1; split at h1; cases h1; exact h1
    simp only [Prod.mk.injEq] at h
    obtain ⟨rfl, rfl, _⟩ := h
    exact numAt_laid (Z := (numAt bs).2.1) (by rw [← h2])
  · rename_i h1
    simp only [Prod.mk.injEq] at h
    exact absurd h.2.2 h1
theorem strOf_strB (s : ByteArray) : strOf (strB s) = s := by
  apply ByteArray.ext
  show (strB s).toArray = _
  simp [strB]
theorem strB_strOf (l : List UInt8) : strB (strOf l) = l := by simp [strB, strOf]
theorem rText_fwd {s : ByteArray} {most : Int} (h : s.size < 18446744073709551616) (hm : (s.size : Int) ≤ most) (rest : List UInt8) : rText true (txtB s ++ rest) 0 most = (s, rest, 0) := by
  have e : txtB s ++ rest = numB s.size ++ (strB s ++ rest) := by rw [txtB, List.append_assoc]
  have h0 := numAt_numB h (strB s ++ rest)
  have h1 : rTextE (txtB s ++ rest) most = 0 := by
    unfold rTextE
    rw [e, h0]
    simp only [List.length_append, strB_len]
    rw [if_neg (by simp), if_neg (by omega), if_neg (by omega)]
  unfold rText
  rw [if_pos ⟨rfl, rfl⟩, if_pos h1, e, h0]
  simp only
  rw [List.drop_left', List.take_left' (strB_len s), strOf_strB, List.drop_append, List.drop_of_length_le (by omega)]
  · simp [strB_len]
  · rfl
theorem rText_bwd {s : ByteArray} {most : Int} {bs bs' : List UInt8} (h : rText true bs 0 most = (s, bs', 0)) : bs = txtB s ++ bs' ∧ s.size ≤ bs.length := by
  unfold rText at h
  rw [if_pos ⟨rfl, rfl⟩] at h
  split at h
  · rename_i h1
    have h2 : (numAt bs).2.2 = 0 ∧ (numAt bs).1 ≤ bs.length - (numAt bs).2.1 := by
      unfold rTextE at h1
      split at h1
      · rename_i h3; exact absurd h1 h3
      · rename_i h3
        split at h1
        · cases h1
        · split at h1
          · cases h1
          · rename_i h4
            exact ⟨by simpa using h3, by omega⟩
    simp only [Prod.mk.injEq] at h
    obtain ⟨rfl, rfl, _⟩ := h
    obtain ⟨k1, k2⟩ := numAt_laid (bs := bs) (N := (numAt bs).1) (Z := (numAt bs).2.1) (by rw [← h2.1])
    have hl : ((bs.drop (numAt bs).2.1).take (numAt bs).1).length = (numAt bs).1 := by rw [List.length_take, List.length_drop]; omega
    refine ⟨?_, ?_⟩
    · rw [txtB, strB_strOf, strOf_size, hl, List.append_assoc]
      rw [show List.drop ((numAt bs).2.1 + (numAt bs).1) bs = (bs.drop (numAt bs).2.1).drop (numAt bs).1 from by rw [List.drop_drop], List.take_append_drop]
      exact k1
    · rw [strOf_size, hl]; omega
  · rename_i h1
    simp only [Prod.mk.injEq] at h
    exact absurd h.2.2 h1
theorem rFlag_fwd (fl : Bool) (rest : List UInt8) : rFlag true (numB (if fl then 1 else 0) ++ rest) 0 = (fl, rest, 0) := by
  have h0 := numAt_numB (n := if fl then 1 else 0) (by split <;> omega) rest
  have h1 : rFlagE (numB (if fl then 1 else 0) ++ rest) = 0 := by unfold rFlagE; rw [h0]; simp; cases fl <;> simp
  unfold rFlag
  rw [if_pos ⟨rfl, rfl⟩, if_pos h1, h0]
  simp
  cases fl <;> simp
theorem rFlag_bwd {fl : Bool} {bs bs' : List UInt8} (h : rFlag true bs 0 = (fl, bs', 0)) : bs = numB (if fl then 1 else 0) ++ bs' := by
  unfold rFlag at h
  rw [if_pos ⟨rfl, rfl⟩] at h
  split at h
  · rename_i h1
    have h2 : (numAt bs).2.2 = 0 ∧ (numAt bs).1 ≤ 1 := by
      unfold rFlagE at h1
      split at h1
      · cases h1
      · rename_i h3; exact ⟨h1, by omega⟩
    simp only [Prod.mk.injEq] at h
    obtain ⟨rfl, rfl, _⟩ := h
    obtain ⟨k1, k2⟩ := numAt_laid (bs := bs) (N := (numAt bs).1) (Z := (numAt bs).2.1) (by rw [← h2.1])
    rw [show (if ((numAt bs).1 == 1) = true then 1 else 0) = (numAt bs).1 from by by_cases h9 : (numAt bs).1 = 1 <;> simp [h9]; omega]
    exact k1
  · rename_i h1
    simp only [Prod.mk.injEq] at h
    exact absurd h.2.2 h1
section
variable {α : Type} {f : List UInt8 → Nat → α × List UInt8 × Nat} {lay : α → List UInt8}
theorem rItems_fwd (l : List α) (hf : ∀ x ∈ l, ∀ rest, f (lay x ++ rest) 0 = (x, rest, 0)) (rest : List UInt8) : rItems f l.length ((l.map lay).flatten ++ rest) 0 = (l, rest, 0) := by
  induction l with
  | nil => rfl
  | cons x l ih =>
    rw [List.length_cons, rItems, if_pos rfl, List.map_cons, List.flatten_cons, List.append_assoc, hf x List.mem_cons_self]
    rw [ih (fun y hy => hf y (List.mem_cons_of_mem _ hy))]
theorem rItems_bwd (hf : ∀ bs x bs', f bs 0 = (x, bs', 0) → bs = lay x ++ bs') : ∀ (n : Nat) (bs : List UInt8) (e : Nat) (l : List α) (bs' : List UInt8), rItems f n bs e = (l, bs', 0) → e = 0 ∧ l.length = n ∧ bs = (l.map lay).flatten ++ bs'
  | 0, bs, e, l, bs', h => by
    simp only [rItems, Prod.mk.injEq] at h
    obtain ⟨rfl, rfl, rfl⟩ := h
    exact ⟨rfl, rfl, rfl⟩
  | n + 1, bs, e, l, bs', h => by
    rw [rItems] at h
    split at h
    · rename_i he
      subst he
      simp only [Prod.mk.injEq] at h
      obtain ⟨rfl, h2⟩ := h
      obtain ⟨k1, k2, k3⟩ := rItems_bwd hf n (f bs 0).2.1 (f bs 0).2.2 (rItems f n (f bs 0).2.1 (f bs 0).2.2).1 bs' (by rw [← h2])
      refine ⟨rfl, by rw [List.length_cons, k2], ?_⟩
      rw [List.map_cons, List.flatten_cons, List.append_assoc, ← k3]
      exact hf bs _ _ (Prod.ext rfl (Prod.ext rfl k1))
    · rename_i he
      simp only [Prod.mk.injEq] at h
      exact absurd h.2.2 he
end
end Go.Proofs.Ytcibdcahcpcmaaa
