/- Plain laws of spoilt bytes: some of 32 neighbouring bits are turned; nothing here speaks of the program. -/
import Derived.Test.YtfaiehhmpmbcjaaFrameLaws
namespace Go.Proofs.Ytfaiehhmpmbcjaa
set_option linter.unusedVariables false
theorem bitsB_len (x : UInt8) : (bitsB x).length = 8 := rfl
theorem bitsB_at (x : UInt8) {r : Nat} (hr : r < 8) : (bitsB x)[r]? = some (x.toBitVec.getLsbD (7 - r)) := by
  have : r = 0 ∨ r = 1 ∨ r = 2 ∨ r = 3 ∨ r = 4 ∨ r = 5 ∨ r = 6 ∨ r = 7 := by omega
  rcases this with rfl | rfl | rfl | rfl | rfl | rfl | rfl | rfl <;> rfl
theorem bits_at : ∀ (l : List UInt8) (q r : Nat), r < 8 → (bits l)[8 * q + r]? = l[q]?.map (fun x => x.toBitVec.getLsbD (7 - r))
  | [], q, r, hr => by simp [bits]
  | x :: l, 0, r, hr => by
    rw [bits_cons, Nat.mul_zero, Nat.zero_add, List.getElem?_append_left (by rw [bitsB_len]; exact hr), bitsB_at x hr]
    rfl
  | x :: l, q + 1, r, hr => by
    rw [bits_cons, List.getElem?_append_right (by rw [bitsB_len]; omega), bitsB_len, show 8 * (q + 1) + r - 8 = 8 * q + r from by omega, bits_at l q r hr]
    rfl
/-- The byte in which one bit is. -/
def oneBit (r : Nat) : UInt8 := UInt8.ofNat (128 / 2 ^ r)
theorem oneBit_at {r s : Nat} (hr : r < 8) (hs : s < 8) : (oneBit r).toBitVec.getLsbD (7 - s) = decide (s = r) := by
  have h1 : r = 0 ∨ r = 1 ∨ r = 2 ∨ r = 3 ∨ r = 4 ∨ r = 5 ∨ r = 6 ∨ r = 7 := by omega
  have h2 : s = 0 ∨ s = 1 ∨ s = 2 ∨ s = 3 ∨ s = 4 ∨ s = 5 ∨ s = 6 ∨ s = 7 := by omega
  rcases h1 with rfl | rfl | rfl | rfl | rfl | rfl | rfl | rfl <;> rcases h2 with rfl | rfl | rfl | rfl | rfl | rfl | rfl | rfl <;> rfl
/-- A bit is turned. -/
def turn1 (l : List UInt8) (p : Nat) : List UInt8 := l.set (p / 8) ((l[p / 8]?.getD 0) ^^^ oneBit (p % 8))
theorem turn1_len (l : List UInt8) (p : Nat) : (turn1 l p).length = l.length := by simp [turn1]
theorem turn1_bits {l : List UInt8} {p : Nat} (hp : p < 8 * l.length) (k : Nat) : (bits (turn1 l p))[k]? = ((bits l)[k]?).map (fun b => b ^^ decide (k = p)) := by
  obtain ⟨q, r, hr, rfl⟩ : ∃ q r, r < 8 ∧ k = 8 * q + r := ⟨k / 8, k % 8, by omega, by omega⟩
  rw [bits_at _ q r hr, bits_at _ q r hr]
  have hq : p / 8 < l.length := by omega
  unfold turn1
  by_cases e : p / 8 = q
  · subst e
    rw [List.getElem?_set_self hq, List.getElem?_eq_getElem hq]
    simp only [Option.map_some, Option.getD_some]
    rw [show ((l[p / 8] ^^^ oneBit (p % 8)).toBitVec) = l[p / 8].toBitVec ^^^ (oneBit (p % 8)).toBitVec from rfl, BitVec.getLsbD_xor, oneBit_at (by omega) hr]
    congr 3
    exact propext ⟨fun h => by omega, fun h => by omega⟩
  · rw [List.getElem?_set_ne e]
    have : ¬ 8 * q + r = p := by omega
    simp only [this, decide_false, Bool.xor_false]
    cases l[q]? <;> rfl
/-- Behind i bits: the bytes, and whether any bit was turned. -/
def turns (l : List UInt8) (fr mask : Nat) : Nat → List UInt8 × Bool
  | 0 => (l, false)
  | i + 1 => if mask / 2 ^ i % 2 = 1 then (turn1 (turns l fr mask i).1 (fr + i), true) else turns l fr mask i
theorem turns_len (l : List UInt8) (fr mask : Nat) : ∀ i, (turns l fr mask i).1.length = l.length
  | 0 => rfl
  | i + 1 => by
    rw [turns]
    split
    · rw [turn1_len, turns_len l fr mask i]
    · exact turns_len l fr mask i
def bitAt (mask i : Nat) : Bool := decide (mask / 2 ^ i % 2 = 1)
theorem turns_any (l : List UInt8) (fr mask : Nat) : ∀ i, (turns l fr mask i).2 = true ↔ ∃ j, j < i ∧ bitAt mask j = true
  | 0 => by simp [turns]
  | i + 1 => by
    rw [turns]
    split
    · rename_i h
      simp only [true_iff]
      exact ⟨i, Nat.lt_succ_self i, by simp [bitAt, h]⟩
    · rename_i h
      rw [turns_any l fr mask i]
      constructor
      · rintro ⟨j, hj, hb⟩; exact ⟨j, by omega, hb⟩
      · rintro ⟨j, hj, hb⟩
        refine ⟨j, ?_, hb⟩
        have : j ≠ i := by rintro rfl; simp [bitAt] at hb; exact h hb
        omega
theorem turns_none (l : List UInt8) (fr mask : Nat) : ∀ i, (turns l fr mask i).2 = false → (turns l fr mask i).1 = l
  | 0, _ => rfl
  | i + 1, h => by
    rw [turns] at h ⊢
    split
    · rename_i h1; rw [if_pos h1] at h; cases h
    · rename_i h1; rw [if_neg h1] at h; exact turns_none l fr mask i h
theorem turns_bits (l : List UInt8) (fr mask : Nat) : ∀ i, fr + i ≤ 8 * l.length → ∀ k : Nat, (bits (turns l fr mask i).1)[k]? = ((bits l)[k]?).map (fun b => b ^^ (decide (fr ≤ k ∧ k < fr + i) && bitAt mask (k - fr)))
  | 0, _, k => by
    rw [turns]
    have : ¬ (fr ≤ k ∧ k < fr) := by omega
    simp [this]
  | i + 1, h, k => by
    have ih := turns_bits l fr mask i (by omega) k
    rw [turns]
    split
    · rename_i hm
      rw [turn1_bits (by rw [turns_len]; omega), ih, Option.map_map]
      congr 1
      funext b
      simp only [Function.comp]
      by_cases e : k = fr + i
      · subst e
        have h1 : ¬ (fr ≤ fr + i ∧ fr + i < fr + i) := by omega
        have h2 : (fr ≤ fr + i ∧ fr + i < fr + (i + 1)) := by omega
        have h3 : bitAt mask i = true := by simp [bitAt, hm]
        simp [h3]
      · have h1 : (fr ≤ k ∧ k < fr + (i + 1)) ↔ (fr ≤ k ∧ k < fr + i) := by omega
        simp [e, h1]
    · rename_i hm
      rw [ih]
      congr 1
      funext b
      by_cases e : k = fr + i
      · subst e
        have h3 : bitAt mask i = false := by simp [bitAt, hm]
        simp [h3]
      · have h1 : (fr ≤ k ∧ k < fr + (i + 1)) ↔ (fr ≤ k ∧ k < fr + i) := by omega
        simp [h1]
/-- The bits that are turned. -/
def pattern (n fr mask cnt : Nat) : List Bool := List.replicate fr false ++ (List.range cnt).map (bitAt mask) ++ List.replicate (n - fr - cnt) false
theorem pattern_len {n fr mask cnt : Nat} (h : fr + cnt ≤ n) : (pattern n fr mask cnt).length = n := by
  unfold pattern
  simp
  omega
theorem pattern_at {n fr mask cnt k : Nat} (h : fr + cnt ≤ n) (hk : k < n) : (pattern n fr mask cnt)[k]? = some (decide (fr ≤ k ∧ k < fr + cnt) && bitAt mask (k - fr)) := by
  unfold pattern
  by_cases h1 : k < fr
  · rw [List.append_assoc, List.getElem?_append_left (by simpa using h1)]
    have : ¬ (fr ≤ k ∧ k < fr + cnt) := by omega
    simp [h1, this]
  · by_cases h2 : k < fr + cnt
    · rw [List.getElem?_append_left (by simp; omega), List.getElem?_append_right (by simp; omega)]
      have h3 : (fr ≤ k ∧ k < fr + cnt) := by omega
      simp [h3]
      rw [List.getElem?_range (by omega)]
      simp
    · rw [List.getElem?_append_right (by simp; omega)]
      have h3 : ¬ (fr ≤ k ∧ k < fr + cnt) := by omega
      simp [h3, List.getElem?_replicate]
      omega
theorem turns_pattern {l : List UInt8} {fr mask i : Nat} (h : fr + i ≤ 8 * l.length) : bits (turns l fr mask i).1 = List.zipWith xor (bits l) (pattern (8 * l.length) fr mask i) := by
  apply List.ext_getElem?
  intro k
  rw [turns_bits l fr mask i h k, List.getElem?_zipWith]
  by_cases hk : k < 8 * l.length
  · rw [pattern_at h hk, List.getElem?_eq_getElem (by rw [bits_len]; exact hk)]
    rfl
  · rw [List.getElem?_eq_none (by rw [bits_len]; omega)]
    rfl
theorem sealedL_reg {l : List UInt8} (h4 : 4 ≤ l.length) : sealedL l ↔ regs (BitVec.allOnes 32) l = goodReg := by
  obtain ⟨s, hs⟩ := be4_of (l := l.drop (l.length - 4)) (by rw [List.length_drop]; omega)
  have hl : l = l.take (l.length - 4) ++ be4 s := by rw [hs, List.take_append_drop]
  rw [hl, sealed_reg]
  unfold sealedL
  rw [List.length_append, be4_len, Nat.add_sub_cancel, List.drop_left, List.take_left]
  exact ⟨fun h => be4_inj h, fun h => by rw [h]⟩
/-- Sealed bytes of which some within 32 bits were turned are sealed no more. -/
theorem spoilt {l : List UInt8} {fr mask i : Nat} (h4 : 4 ≤ l.length) (hs : sealedL l) (h : fr + i ≤ 8 * l.length) (hi : i ≤ 32) (ha : (turns l fr mask i).2 = true) : ¬ sealedL (turns l fr mask i).1 := by
  intro hn
  rw [sealedL_reg h4] at hs
  rw [sealedL_reg (by rw [turns_len]; exact h4)] at hn
  unfold regs at hs hn
  rw [turns_pattern h] at hn
  have hz : feeds (BitVec.allOnes 32 ^^^ 0#32) (List.zipWith xor (bits l) (pattern (8 * l.length) fr mask i)) = _ := feeds_xor _ _ _ _ (by rw [bits_len, pattern_len h])
  rw [BitVec.xor_zero, hn, hs] at hz
  have h0 : feeds 0#32 (pattern (8 * l.length) fr mask i) = 0#32 := by
    have := congrArg (fun x => goodReg ^^^ x) hz
    simp only [xor_self_left, BitVec.xor_self] at this
    exact this.symm
  have hb := burst (by simpa using hi) h0
  obtain ⟨j, hj, hjb⟩ := (turns_any l fr mask i).1 ha
  have := hb (bitAt mask j) (List.mem_map.2 ⟨j, List.mem_range.2 hj, rfl⟩)
  rw [hjb] at this
  cases this
end Go.Proofs.Ytfaiehhmpmbcjaa
