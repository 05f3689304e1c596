/- What a reader answers: the plain laws of it. -/
import Derived.Test.YtmahjeafoogamaaReadRef
namespace Go.Proofs.Ytmahjeafoogamaa
open Go.RowKit
set_option linter.unusedVariables false
theorem numAt_size {bs : List UInt8} (h : (numAt bs).2.2 = 0) : 1 ≤ (numAt bs).2.1 ∧ (numAt bs).2.1 ≤ bs.length := by
  unfold numAt at h ⊢
  cases bs with
  | nil => simp at h
  | cons k t =>
    simp only at h ⊢
    split at h
    · cases h
    · split at h
      · cases h
      · rename_i h1 h2
        rw [if_neg h1, if_neg h2]
        simp only at h2 ⊢
        omega
theorem numAt_lt (bs : List UInt8) : (numAt bs).1 < 18446744073709551616 ∧ (numAt bs).2.1 ≤ 9 ∧ (numAt bs).2.2 ≤ 40 := by
  unfold numAt
  cases bs with
  | nil => simp
  | cons k t =>
    simp only
    split
    · simp
    · rename_i h1
      have h8 : k.toNat ≤ 8 := by omega
      split
      · simp
      · refine ⟨beV_lt8 _ (by rw [List.length_take]; omega), by simp; omega, by simp⟩
theorem numAt_err {bs : List UInt8} (h : (numAt bs).2.2 ≠ 0) : (numAt bs).1 = 0 := by
  unfold numAt at h ⊢
  cases bs with
  | nil => rfl
  | cons k t =>
    simp only at h ⊢
    split at h
    · rename_i h1; rw [if_pos h1]
    · rename_i h1
      rw [if_neg h1]
      split at h
      · rename_i h2; rw [if_pos h2]
      · exact absurd rfl h
/-- A number is read: what it is, what is left, what is wrong. st: the reader was made. -/
def rNumE (bs : List UInt8) (most : Nat) : Nat := if (numAt bs).2.2 = 0 ∧ most < (numAt bs).1 then 3 else (numAt bs).2.2
def rNum (st : Bool) (bs : List UInt8) (e most : Nat) : Nat × List UInt8 × Nat :=
  if st = true ∧ e = 0 then (if rNumE bs most = 0 then ((numAt bs).1, bs.drop (numAt bs).2.1, 0) else (0, bs, rNumE bs most)) else (0, bs, e)
def rTextE (bs : List UInt8) (most : Int) : Nat :=
  if (numAt bs).2.2 ≠ 0 then (numAt bs).2.2 else if (max most 0).toNat < (numAt bs).1 then 3 else if bs.length - (numAt bs).2.1 < (numAt bs).1 then 30 else 0
def rText (st : Bool) (bs : List UInt8) (e : Nat) (most : Int) : ByteArray × List UInt8 × Nat :=
  if st = true ∧ e = 0 then (if rTextE bs most = 0 then (strOf ((bs.drop (numAt bs).2.1).take (numAt bs).1), bs.drop ((numAt bs).2.1 + (numAt bs).1), 0) else (strOf [], bs, rTextE bs most)) else (strOf [], bs, e)
def rFlagE (bs : List UInt8) : Nat := if (numAt bs).2.2 = 0 ∧ 1 < (numAt bs).1 then 40 else (numAt bs).2.2
def rFlag (st : Bool) (bs : List UInt8) (e : Nat) : Bool × List UInt8 × Nat :=
  if st = true ∧ e = 0 then (if rFlagE bs = 0 then ((numAt bs).1 == 1, bs.drop (numAt bs).2.1, 0) else (false, bs, rFlagE bs)) else (false, bs, e)
def rItems {α : Type} (f : List UInt8 → Nat → α × List UInt8 × Nat) : Nat → List UInt8 → Nat → List α × List UInt8 × Nat
  | 0, bs, e => ([], bs, e)
  | n + 1, bs, e => if e = 0 then ((f bs e).1 :: (rItems f n (f bs e).2.1 (f bs e).2.2).1, (rItems f n (f bs e).2.1 (f bs e).2.2).2) else ([], bs, e)
def rList {α : Type} (f : List UInt8 → Nat → α × List UInt8 × Nat) (st : Bool) (bs : List UInt8) (e : Nat) (many : Int) : List α × List UInt8 × Nat :=
  if st = true ∧ e = 0 then
    (let x := rNum true bs 0 (max many 0).toNat
     let y := rItems f x.1 x.2.1 x.2.2
     if y.2.2 = 0 then y else ([], y.2))
  else ([], bs, e)
def rDone (bs : List UInt8) (e : Nat) : Nat := if e ≠ 0 then e else if 0 < bs.length then 41 else 0
/-- What is left is the end of what there was. -/
def Rest (bs bs' : List UInt8) : Prop := ∃ k, bs' = bs.drop k
theorem Rest.refl (bs : List UInt8) : Rest bs bs := ⟨0, rfl⟩
theorem Rest.trans {a b c : List UInt8} (h : Rest a b) (k : Rest b c) : Rest a c := by
  obtain ⟨i, rfl⟩ := h
  obtain ⟨j, rfl⟩ := k
  exact ⟨i + j, by rw [List.drop_drop]⟩
theorem Rest.len {a b : List UInt8} (h : Rest a b) : b.length ≤ a.length := by
  obtain ⟨i, rfl⟩ := h
  rw [List.length_drop]
  omega
theorem rNum_rest (st : Bool) (bs : List UInt8) (e most : Nat) : Rest bs (rNum st bs e most).2.1 := by
  unfold rNum
  split
  · split
    · exact ⟨_, rfl⟩
    · exact .refl _
  · exact .refl _
theorem rText_rest (st : Bool) (bs : List UInt8) (e : Nat) (most : Int) : Rest bs (rText st bs e most).2.1 := by
  unfold rText
  split
  · split
    · exact ⟨_, rfl⟩
    · exact .refl _
  · exact .refl _
theorem rNum_lt (st : Bool) (bs : List UInt8) (e most : Nat) : (rNum st bs e most).1 < 18446744073709551616 := by
  unfold rNum
  split
  · split
    · exact (numAt_lt bs).1
    · simp
  · simp
theorem rNum_err {st : Bool} {bs : List UInt8} {e most : Nat} (h : (rNum st bs e most).2.2 ≠ 0) : (rNum st bs e most).1 = 0 := by
  unfold rNum at h ⊢
  split at h
  · rename_i h1
    rw [if_pos h1]
    split at h
    · exact absurd rfl h
    · rename_i h2; rw [if_neg h2]
  · rename_i h1; rw [if_neg h1]
theorem rNum_shorter {st : Bool} {bs : List UInt8} {e most : Nat} (hs : st = true ∧ e = 0) (h : (rNum st bs e most).2.2 = 0) : (rNum st bs e most).2.1.length < bs.length := by
  unfold rNum at h ⊢
  rw [if_pos hs] at h ⊢
  split at h
  · rename_i h2
    rw [if_pos h2]
    have h3 : (numAt bs).2.2 = 0 := by unfold rNumE at h2; split at h2; cases h2; exact h2
    have := numAt_size h3
    simp only [List.length_drop]
    omega
  · rename_i h2; exact absurd h h2
theorem rText_shorter {st : Bool} {bs : List UInt8} {e : Nat} {most : Int} (hs : st = true ∧ e = 0) (h : (rText st bs e most).2.2 = 0) : (rText st bs e most).2.1.length < bs.length := by
  unfold rText at h ⊢
  rw [if_pos hs] at h ⊢
  split at h
  · rename_i h2
    rw [if_pos h2]
    have h3 : (numAt bs).2.2 = 0 := by unfold rTextE at h2; split at h2 <;> simp_all
    have := numAt_size h3
    simp only [List.length_drop]
    omega
  · rename_i h2; exact absurd h h2
section
variable {α : Type} {f : List UInt8 → Nat → α × List UInt8 × Nat}
theorem rItems_len (hf : ∀ bs, (f bs 0).2.2 = 0 → (f bs 0).2.1.length < bs.length) : ∀ (n : Nat) (bs : List UInt8) (e : Nat), (rItems f n bs e).1.length ≤ bs.length + 1
  | 0, bs, e => by simp [rItems]
  | n + 1, bs, e => by
    unfold rItems
    split
    · rename_i he
      subst he
      simp only [List.length_cons]
      by_cases h : (f bs 0).2.2 = 0
      · have h1 := hf bs h
        have h2 := rItems_len hf n (f bs 0).2.1 (f bs 0).2.2
        omega
      · have : rItems f n (f bs 0).2.1 (f bs 0).2.2 = ([], (f bs 0).2.1, (f bs 0).2.2) := by
          cases n with
          | zero => rfl
          | succ n => rw [rItems, if_neg h]
        rw [this]
        simp
    · simp
theorem rItems_stop {n : Nat} {bs : List UInt8} {e : Nat} (h : e ≠ 0) : rItems f n bs e = ([], bs, e) := by
  cases n with
  | zero => rfl
  | succ n => rw [rItems, if_neg h]
theorem rItems_rest (hf : ∀ bs e, Rest bs (f bs e).2.1) : ∀ (n : Nat) (bs : List UInt8) (e : Nat), Rest bs (rItems f n bs e).2.1
  | 0, bs, e => .refl _
  | n + 1, bs, e => by
    unfold rItems
    split
    · exact (hf bs e).trans (rItems_rest hf n _ _)
    · exact .refl _
end
end Go.Proofs.Ytmahjeafoogamaa
