/- Plain laws of frames: what their bytes are, and how bytes are read as frames; nothing here speaks of the program. -/
import Derived.Test.YtmahjeafoogamaaSumLaws
namespace Go.Proofs.Ytmahjeafoogamaa
set_option linter.unusedVariables false
/-- A frame: its kind, its body. -/
abbrev Fr := UInt8 × List UInt8
def headB (f : Fr) : List UInt8 := [f.1, UInt8.ofNat (f.2.length / 256 % 256), UInt8.ofNat (f.2.length % 256)]
def sealB (l : List UInt8) : List UInt8 := l ++ be4 (crc l)
def frameB (f : Fr) : List UInt8 := sealB (headB f ++ f.2)
theorem frameB_len (f : Fr) : (frameB f).length = f.2.length + 7 := by
  simp [frameB, sealB, headB, be4]
/-- Why a frame may not be; 0: it may. -/
def errF (f : Fr) : Nat := if f.1 = 0 then 2 else if 1000 < f.2.length then 3 else 0
def told (b : List UInt8) : Nat := (b[1]?.getD 0).toNat * 256 + (b[2]?.getD 0).toNat
def sealedL (l : List UInt8) : Prop := (l.drop (l.length - 4)) = be4 (crc (l.take (l.length - 4)))
instance (l : List UInt8) : Decidable (sealedL l) := by unfold sealedL; infer_instance
/-- The frame with which bytes begin: how many bytes it has, and the error. -/
def takeE (b : List UInt8) : Nat :=
  if b.length < 3 then 30 else if (b[0]?.getD 0) = 0 then 31 else if 1000 < told b then 3 else if b.length < told b + 7 then 30 else if sealedL (b.take (told b + 7)) then 0 else 32
def frOf (b : List UInt8) : Fr := (b[0]?.getD 0, (b.drop 3).take (told b))
theorem told_head {f : Fr} (h : f.2.length ≤ 1000) (l : List UInt8) : told (frameB f ++ l) = f.2.length := by
  simp [told, frameB, sealB, headB]
  omega
theorem frameB_take (f : Fr) (l : List UInt8) : (frameB f ++ l).take (f.2.length + 7) = frameB f := by
  rw [← frameB_len f, List.take_left]
theorem frameB_drop (f : Fr) (l : List UInt8) : (frameB f ++ l).drop (f.2.length + 7) = l := by
  rw [← frameB_len f, List.drop_left]
theorem sealB_sealed (l : List UInt8) : sealedL (sealB l) := by
  unfold sealedL sealB
  rw [List.length_append, be4_len, Nat.add_sub_cancel, List.drop_left, List.take_left]
theorem sealed_is {l : List UInt8} (h : sealedL l) (h4 : 4 ≤ l.length) : l = sealB (l.take (l.length - 4)) := by
  unfold sealB
  rw [← h, List.take_append_drop]
theorem take_frame {f : Fr} (he : errF f = 0) (l : List UInt8) : takeE (frameB f ++ l) = 0 ∧ frOf (frameB f ++ l) = f ∧ told (frameB f ++ l) = f.2.length := by
  have h1 : f.1 ≠ 0 := by intro h; rw [errF, if_pos h] at he; cases he
  have h2 : f.2.length ≤ 1000 := by
    rw [errF, if_neg h1] at he
    split at he
    · cases he
    · omega
  have ht := told_head h2 l
  have hl : (frameB f ++ l).length = f.2.length + 7 + l.length := by rw [List.length_append, frameB_len]
  have h0 : ((frameB f ++ l)[0]?).getD 0 = f.1 := rfl
  refine ⟨?_, ?_, ht⟩
  · unfold takeE
    rw [ht, if_neg (by omega), h0, if_neg h1, if_neg (by omega), if_neg (by omega), frameB_take]
    exact if_pos (sealB_sealed _)
  · unfold frOf
    rw [ht, h0]
    refine Prod.ext rfl ?_
    show List.take _ (List.drop 3 (sealB (headB f ++ f.2) ++ l)) = f.2
    unfold sealB
    rw [List.append_assoc, List.append_assoc, show (3 : Nat) = (headB f).length from rfl, List.drop_left, List.take_left]
theorem head_back {b : List UInt8} (h3 : 3 ≤ b.length) (hl : (frOf b).2.length = told b) : b.take (3 + told b) = headB (frOf b) ++ (frOf b).2 := by
  obtain ⟨x, y, z, r, rfl⟩ : ∃ x y z r, b = x :: y :: z :: r := by
    cases b with
    | nil => exact absurd h3 (by simp)
    | cons x b =>
      cases b with
      | nil => exact absurd h3 (by simp)
      | cons y b =>
        cases b with
        | nil => exact absurd h3 (by simp)
        | cons z r => exact ⟨x, y, z, r, rfl⟩
  have hy := y.toNat_lt
  have hz := z.toNat_lt
  unfold headB
  rw [hl]
  have e1 : told (x :: y :: z :: r) / 256 % 256 = y.toNat := by show (y.toNat * 256 + z.toNat) / 256 % 256 = _; omega
  have e2 : told (x :: y :: z :: r) % 256 = z.toNat := by show (y.toNat * 256 + z.toNat) % 256 = _; omega
  rw [e1, e2, UInt8.ofNat_toNat, UInt8.ofNat_toNat]
  unfold frOf
  generalize told (x :: y :: z :: r) = k
  rw [show 3 + k = k + 1 + 1 + 1 from by omega, List.take_succ_cons, List.take_succ_cons, List.take_succ_cons]
  rfl
/-- What is taken is a frame that may be, and its bytes. -/
theorem take_back {b : List UInt8} (h : takeE b = 0) : errF (frOf b) = 0 ∧ (frOf b).2.length = told b ∧ told b + 7 ≤ b.length ∧ told b ≤ 1000 ∧ b.take (told b + 7) = frameB (frOf b) := by
  unfold takeE at h
  split at h
  · cases h
  split at h
  · cases h
  split at h
  · cases h
  split at h
  · cases h
  split at h
  · rename_i h1 h2 h3 h4 h5
    have hl : (frOf b).2.length = told b := by
      unfold frOf
      rw [List.length_take, List.length_drop]
      omega
    have hlen : (b.take (told b + 7)).length = told b + 7 := by rw [List.length_take]; omega
    refine ⟨?_, hl, by omega, by omega, ?_⟩
    · unfold errF
      rw [hl, if_neg (show ¬ (frOf b).1 = 0 from h2), if_neg (by omega)]
    · have := sealed_is h5 (by omega)
      rw [this]
      unfold frameB
      congr 1
      rw [hlen, show told b + 7 - 4 = 3 + told b from by omega, List.take_take, Nat.min_eq_left (by omega)]
      exact head_back (by omega) hl
  · cases h
/-- All frames with which bytes begin; the place behind them; the error there. -/
def allF : Nat → List UInt8 → List Fr × Nat × Nat
  | 0, _ => ([], 0, 0)
  | k + 1, b => if b.length = 0 then ([], 0, 0) else if takeE b = 0 then (frOf b :: (allF k (b.drop (told b + 7))).1, told b + 7 + (allF k (b.drop (told b + 7))).2.1, (allF k (b.drop (told b + 7))).2.2) else ([], 0, takeE b)
theorem allF_fuel : ∀ (k j : Nat) (b : List UInt8), b.length ≤ k → b.length ≤ j → allF k b = allF j b
  | 0, 0, _, _, _ => rfl
  | 0, j + 1, b, h, _ => by rw [allF, allF, if_pos (by omega)]
  | k + 1, 0, b, _, h => by rw [allF, allF, if_pos (by omega)]
  | k + 1, j + 1, b, hk, hj => by
    rw [allF, allF]
    by_cases h0 : b.length = 0
    · rw [if_pos h0, if_pos h0]
    · rw [if_neg h0, if_neg h0]
      by_cases he : takeE b = 0
      · rw [if_pos he, if_pos he, allF_fuel k j _ (by rw [List.length_drop]; omega) (by rw [List.length_drop]; omega)]
      · rw [if_neg he, if_neg he]
def allR (b : List UInt8) : List Fr × Nat × Nat := allF b.length b
theorem allR_nil : allR [] = ([], 0, 0) := rfl
theorem allR_err {b : List UInt8} (h0 : b.length ≠ 0) (he : takeE b ≠ 0) : allR b = ([], 0, takeE b) := by
  obtain ⟨k, hk⟩ : ∃ k, b.length = k + 1 := ⟨b.length - 1, by omega⟩
  rw [allR, hk, allF, if_neg (by omega), if_neg he]
theorem allR_step {b : List UInt8} (h0 : b.length ≠ 0) (he : takeE b = 0) : allR b = (frOf b :: (allR (b.drop (told b + 7))).1, told b + 7 + (allR (b.drop (told b + 7))).2.1, (allR (b.drop (told b + 7))).2.2) := by
  obtain ⟨k, hk⟩ : ∃ k, b.length = k + 1 := ⟨b.length - 1, by omega⟩
  have : allF k (b.drop (told b + 7)) = allR (b.drop (told b + 7)) := allF_fuel _ _ _ (by rw [List.length_drop]; omega) (Nat.le_refl _)
  rw [allR, hk, allF, if_neg (by omega), if_pos he, this]
def packB (l : List Fr) : List UInt8 := l.flatMap frameB
theorem packB_cons (f : Fr) (l : List Fr) : packB (f :: l) = frameB f ++ packB l := rfl
theorem packB_snoc (l : List Fr) (f : Fr) : packB (l ++ [f]) = packB l ++ frameB f := by simp [packB]
theorem frameB_ne (f : Fr) (l : List UInt8) : (frameB f ++ l).length ≠ 0 := by rw [List.length_append, frameB_len]; omega
/-- What frames lay, and bytes behind them, is read as them, and then the bytes. -/
theorem allR_pack : ∀ (l : List Fr) (r : List UInt8), (∀ f ∈ l, errF f = 0) → allR (packB l ++ r) = (l ++ (allR r).1, (packB l).length + (allR r).2.1, (allR r).2.2)
  | [], r, _ => by simp [packB]
  | f :: l, r, h => by
    obtain ⟨h1, h2, h3⟩ := take_frame (h f List.mem_cons_self) (packB l ++ r)
    rw [packB_cons, List.append_assoc, allR_step (frameB_ne _ _) h1, h2, h3, frameB_drop, allR_pack l r (fun g hg => h g (List.mem_cons_of_mem _ hg)), List.length_append, frameB_len]
    simp only [List.cons_append, Nat.add_assoc]
theorem allR_of_pack {l : List Fr} (h : ∀ f ∈ l, errF f = 0) : allR (packB l) = (l, (packB l).length, 0) := by
  have := allR_pack l [] h
  rw [List.append_nil, allR_nil] at this
  simpa using this
/-- The frames that are read may be, and lay the bytes that were read. -/
theorem allR_back : ∀ (n : Nat) (b : List UInt8), b.length ≤ n → (∀ f ∈ (allR b).1, errF f = 0) ∧ b.take (allR b).2.1 = packB (allR b).1 ∧ (allR b).2.1 ≤ b.length ∧ ((allR b).2.2 = 0 → (allR b).2.1 = b.length)
  | 0, b, h => by
    have : b = [] := List.eq_nil_of_length_eq_zero (by omega)
    subst this
    exact ⟨by intro f hf; simp [allR_nil] at hf, rfl, Nat.le_refl _, fun _ => rfl⟩
  | n + 1, b, h => by
    by_cases h0 : b.length = 0
    · have : b = [] := List.eq_nil_of_length_eq_zero h0
      subst this
      exact ⟨by intro f hf; simp [allR_nil] at hf, rfl, Nat.le_refl _, fun _ => rfl⟩
    by_cases he : takeE b = 0
    · obtain ⟨b1, b2, b3, b4, b5⟩ := take_back he
      obtain ⟨a1, a2, a3, a4⟩ := allR_back n (b.drop (told b + 7)) (by rw [List.length_drop]; omega)
      rw [allR_step h0 he]
      rw [List.length_drop] at a3 a4
      refine ⟨?_, ?_, by simp only; omega, fun hz => by have := a4 hz; simp only; omega⟩
      · intro f hf
        rcases List.mem_cons.1 hf with rfl | hf
        · exact b1
        · exact a1 f hf
      · simp only
        rw [packB_cons, ← a2, ← b5, List.take_add]
    · rw [allR_err h0 he]
      exact ⟨by intro f hf; simp at hf, by simp [packB], by simp, fun hz => absurd hz he⟩
theorem packB_of_all {b : List UInt8} (h : (allR b).2.2 = 0) : packB (allR b).1 = b := by
  obtain ⟨_, a2, _, a4⟩ := allR_back b.length b (Nat.le_refl _)
  rw [← a2, a4 h, List.take_length]
/-- A frame that is torn off is no frame. -/
theorem take_torn {f : Fr} (he : errF f = 0) {n : Nat} (h0 : 0 < n) (hn : n < (frameB f).length) : takeE ((frameB f).take n) = 30 := by
  have h1 : f.1 ≠ 0 := by intro h; rw [errF, if_pos h] at he; cases he
  have h2 : f.2.length ≤ 1000 := by
    rw [errF, if_neg h1] at he
    split at he
    · cases he
    · omega
  have hl : ((frameB f).take n).length = n := by rw [List.length_take]; omega
  rw [frameB_len] at hn
  unfold takeE
  rw [hl]
  by_cases h3 : n < 3
  · rw [if_pos h3]
  · have e : ∀ i, i < 3 → ((frameB f).take n)[i]? = (headB f)[i]? := fun i hi => by
      rw [List.getElem?_take, if_pos (by omega)]
      show ((headB f ++ f.2) ++ _)[i]? = _
      rw [List.append_assoc, List.getElem?_append_left (by show i < 3; omega)]
    have ht : told ((frameB f).take n) = f.2.length := by
      rw [told, e 1 (by decide), e 2 (by decide)]
      simp [headB]
      omega
    rw [if_neg h3, e 0 (by decide), ht]
    show (if f.1 = 0 then _ else _) = _
    rw [if_neg h1, if_neg (by omega), if_pos (by omega)]
end Go.Proofs.Ytmahjeafoogamaa
