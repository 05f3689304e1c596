/- Plain laws of the sum of bytes: a register of 32 bits that is fed bit by bit; nothing here speaks of the program. -/
namespace Go.Proofs.Ytmahjeafoogamaa
set_option linter.unusedVariables false
abbrev B32 := BitVec 32
theorem xor_left (a b c : B32) : a ^^^ (b ^^^ c) = b ^^^ (a ^^^ c) := by rw [← BitVec.xor_assoc, BitVec.xor_comm a b, BitVec.xor_assoc]
theorem xor_self_left (a b : B32) : a ^^^ (a ^^^ b) = b := by rw [← BitVec.xor_assoc, BitVec.xor_self, BitVec.zero_xor]
def over : B32 := 0x04c11db7#32
/-- The register, moved up by one bit. -/
def one (r : B32) : B32 := (r <<< 1) ^^^ (if r.msb then over else 0#32)
theorem one_xor (a b : B32) : one (a ^^^ b) = one a ^^^ one b := by
  unfold one
  rw [BitVec.shiftLeft_xor_distrib, BitVec.msb_xor]
  cases a.msb <;> cases b.msb
  · simp
  · simp [BitVec.xor_assoc]
  · simp [BitVec.xor_assoc, BitVec.xor_comm (b <<< 1), xor_left]
  · simp only [show (true ^^ true) = false from rfl, Bool.false_eq_true, if_false, if_true, BitVec.xor_zero, BitVec.xor_assoc]
    rw [xor_left over, BitVec.xor_self, BitVec.xor_zero]
theorem one_zero : one 0#32 = 0#32 := by decide
theorem one_ne {a : B32} (h : a ≠ 0#32) : one a ≠ 0#32 := by
  intro h0
  apply h
  unfold one at h0
  by_cases hm : a.msb = true
  · rw [if_pos hm] at h0
    have h1 := congrArg (fun x => x.getLsbD 0) h0
    simp [over] at h1
  · rw [if_neg hm, BitVec.xor_zero] at h0
    apply BitVec.eq_of_getLsbD_eq
    intro i hi
    have h1 := congrArg (fun x => x.getLsbD (i + 1)) h0
    simp at h1
    by_cases h2 : i + 1 < 32
    · simpa using h1 h2
    · have : i = 31 := by omega
      subst this
      simp only [BitVec.msb_eq_getLsbD_last] at hm
      simpa using hm
theorem one_inj {a b : B32} (h : one a = one b) : a = b := by
  have h1 : one (a ^^^ b) = 0#32 := by rw [one_xor, h, BitVec.xor_self]
  have h2 : a ^^^ b = 0#32 := Classical.byContradiction fun hn => one_ne hn h1
  have h3 : (a ^^^ b) ^^^ b = 0#32 ^^^ b := by rw [h2]
  rwa [BitVec.xor_assoc, BitVec.xor_self, BitVec.xor_zero, BitVec.zero_xor] at h3
def ones : Nat → B32 → B32
  | 0, r => r
  | n + 1, r => ones n (one r)
theorem ones_xor : ∀ (n : Nat) (a b : B32), ones n (a ^^^ b) = ones n a ^^^ ones n b
  | 0, _, _ => rfl
  | n + 1, a, b => by rw [ones, one_xor, ones_xor n]; rfl
theorem ones_zero : ∀ n : Nat, ones n 0#32 = 0#32
  | 0 => rfl
  | n + 1 => by rw [ones, one_zero, ones_zero n]
theorem ones_ne : ∀ (n : Nat) {a : B32}, a ≠ 0#32 → ones n a ≠ 0#32
  | 0, _, h => h
  | n + 1, _, h => ones_ne n (one_ne h)
theorem ones_inj : ∀ (n : Nat) {a b : B32}, ones n a = ones n b → a = b
  | 0, _, _, h => h
  | n + 1, _, _, h => one_inj (ones_inj n h)
theorem ones_succ : ∀ (n : Nat) (r : B32), ones (n + 1) r = one (ones n r)
  | 0, _ => rfl
  | n + 1, r => by rw [ones, ones_succ n (one r)]; rfl
def top (b : Bool) : B32 := if b then 0x80000000#32 else 0#32
theorem top_xor (a b : Bool) : top (a ^^ b) = top a ^^^ top b := by cases a <;> cases b <;> decide
/-- A bit more. -/
def feed (r : B32) (b : Bool) : B32 := one (r ^^^ top b)
def feeds (r : B32) (bs : List Bool) : B32 := bs.foldl feed r
theorem feeds_append (r : B32) (a b : List Bool) : feeds r (a ++ b) = feeds (feeds r a) b := by unfold feeds; rw [List.foldl_append]
theorem feeds_cons (r : B32) (b : Bool) (bs : List Bool) : feeds r (b :: bs) = feeds (feed r b) bs := rfl
/-- Bits, the first one highest. -/
def word : List Bool → B32
  | [] => 0#32
  | b :: bs => top b ^^^ (word bs >>> 1)
theorem word_low : ∀ (bs : List Bool) (i : Nat), bs.length + i < 32 → (word bs).getLsbD i = false
  | [], i, h => by simp [word]
  | b :: bs, i, h => by
    have h1 := word_low bs (1 + i) (by simp at h; omega)
    rw [word, BitVec.getLsbD_xor, BitVec.getLsbD_ushiftRight, h1, Bool.xor_false]
    unfold top
    split
    · have : i < 31 := by simp at h; omega
      have h2 : (0x80000000#32 : B32) = BitVec.twoPow 32 31 := by decide
      rw [h2, BitVec.getLsbD_twoPow]
      simp; omega
    · simp
theorem word_shift {bs : List Bool} (h : bs.length ≤ 31) : one (word bs >>> 1) = word bs := by
  unfold one
  have h0 : (word bs >>> 1).msb = false := by rw [BitVec.msb_eq_getLsbD_last, BitVec.getLsbD_ushiftRight]; simp
  rw [h0]
  simp only [Bool.false_eq_true, if_false, BitVec.xor_zero]
  apply BitVec.eq_of_getLsbD_eq
  intro i hi
  rw [BitVec.getLsbD_shiftLeft]
  by_cases hz : i = 0
  · subst hz
    rw [word_low bs 0 (by omega)]
    simp
  · rw [BitVec.getLsbD_ushiftRight, show 1 + (i - 1) = i from by omega]
    simp; omega
/-- Up to 32 bits at once. -/
theorem feeds_word : ∀ (bs : List Bool) (r : B32), bs.length ≤ 32 → feeds r bs = ones bs.length (r ^^^ word bs)
  | [], r, _ => by simp [feeds, ones, word]
  | b :: bs, r, h => by
    have hl : bs.length ≤ 31 := by simp at h; omega
    rw [feeds_cons, feeds_word bs _ (by omega), List.length_cons, ones, word, ← BitVec.xor_assoc, one_xor (r ^^^ top b), word_shift hl]
    rfl
theorem feed_xor (r s : B32) (a b : Bool) : feed (r ^^^ s) (a ^^ b) = feed r a ^^^ feed s b := by
  unfold feed
  rw [top_xor, ← one_xor]
  congr 1
  rw [BitVec.xor_assoc, BitVec.xor_assoc, xor_left s]
theorem feeds_xor : ∀ (as bs : List Bool) (r s : B32), as.length = bs.length → feeds (r ^^^ s) (List.zipWith xor as bs) = feeds r as ^^^ feeds s bs
  | [], [], r, s, _ => rfl
  | a :: as, b :: bs, r, s, h => by
    rw [List.zipWith_cons_cons, feeds_cons, feed_xor, feeds_xor as bs _ _ (by simpa using h)]
    rfl
theorem feeds_zeros : ∀ (n : Nat) (r : B32), feeds r (List.replicate n false) = ones n r
  | 0, _ => rfl
  | n + 1, r => by
    rw [List.replicate_succ, feeds_cons, feeds_zeros n, ones, feed]
    show ones n (one (r ^^^ 0#32)) = _
    rw [BitVec.xor_zero]
theorem word_zero : ∀ (bs : List Bool), bs.length ≤ 32 → word bs = 0#32 → ∀ b ∈ bs, b = false
  | [], _, _ => by simp
  | b :: bs, h, hz => by
    have hb : b = false := by
      have h1 := congrArg BitVec.msb hz
      rw [word, BitVec.msb_xor, show (word bs >>> 1).msb = false from by rw [BitVec.msb_eq_getLsbD_last, BitVec.getLsbD_ushiftRight]; simp] at h1
      cases b
      · rfl
      · revert h1; decide
    subst hb
    rw [word, show top false = 0#32 from rfl, BitVec.zero_xor] at hz
    have hw : word bs = 0#32 := by rw [← word_shift (bs := bs) (by simp at h; omega), hz, one_zero]
    intro x hx
    rcases List.mem_cons.1 hx with rfl | hx
    · rfl
    · exact word_zero bs (by simp at h; omega) hw x hx
/-- Bits that are turned within 32 that follow one another are seen. -/
theorem burst {n k : Nat} {e : List Bool} (hl : e.length ≤ 32) (hz : feeds 0#32 (List.replicate n false ++ e ++ List.replicate k false) = 0#32) : ∀ b ∈ e, b = false := by
  rw [feeds_append, feeds_append, feeds_zeros k, feeds_zeros n, ones_zero, feeds_word _ _ hl, BitVec.zero_xor] at hz
  refine word_zero e hl (Classical.byContradiction fun hn => ones_ne k (ones_ne e.length hn) hz)
/-- A byte's bits, the highest first. -/
def bitsB (x : UInt8) : List Bool := [x.toBitVec.getLsbD 7, x.toBitVec.getLsbD 6, x.toBitVec.getLsbD 5, x.toBitVec.getLsbD 4, x.toBitVec.getLsbD 3, x.toBitVec.getLsbD 2, x.toBitVec.getLsbD 1, x.toBitVec.getLsbD 0]
def bits (l : List UInt8) : List Bool := l.flatMap bitsB
theorem bits_len (l : List UInt8) : (bits l).length = 8 * l.length := by
  induction l with
  | nil => rfl
  | cons x l ih =>
    show (bitsB x ++ bits l).length = _
    rw [List.length_append, ih, List.length_cons]
    show 8 + _ = _
    omega
theorem bits_cons (x : UInt8) (l : List UInt8) : bits (x :: l) = bitsB x ++ bits l := rfl
theorem bits_append (a b : List UInt8) : bits (a ++ b) = bits a ++ bits b := List.flatMap_append
theorem bits_xor (a b : UInt8) : List.zipWith xor (bitsB a) (bitsB b) = bitsB (a ^^^ b) := by
  simp [bitsB]
/-- A byte in the register's highest place. -/
def high (x : UInt8) : B32 := BitVec.setWidth 32 x.toBitVec <<< 24
theorem high_word (x : UInt8) : word (bitsB x) = high x := by
  have : ∀ y : BitVec 8, word [y.getLsbD 7, y.getLsbD 6, y.getLsbD 5, y.getLsbD 4, y.getLsbD 3, y.getLsbD 2, y.getLsbD 1, y.getLsbD 0] = BitVec.setWidth 32 y <<< 24 := by decide +kernel
  exact this x.toBitVec
def regs (r : B32) (l : List UInt8) : B32 := feeds r (bits l)
theorem regs_cons (r : B32) (x : UInt8) (l : List UInt8) : regs r (x :: l) = regs (ones 8 (r ^^^ high x)) l := by
  unfold regs
  rw [bits_cons, feeds_append, feeds_word _ _ (show (bitsB x).length ≤ 32 from Nat.le_of_ble_eq_true rfl), high_word]
  rfl
theorem regs_append (r : B32) (a b : List UInt8) : regs r (a ++ b) = regs (regs r a) b := by unfold regs; rw [bits_append, feeds_append]
/-- The sum that goes on. -/
def crcFrom (s : B32) (l : List UInt8) : B32 := ~~~ (regs (~~~ s) l)
def crc (l : List UInt8) : B32 := crcFrom 0#32 l
theorem crcFrom_append (s : B32) (a b : List UInt8) : crcFrom (crcFrom s a) b = crcFrom s (a ++ b) := by
  unfold crcFrom
  rw [regs_append, BitVec.not_not]
/-- A sum as bytes, the highest first. -/
def be4 (s : B32) : List UInt8 := [UInt8.ofBitVec (s.extractLsb' 24 8), UInt8.ofBitVec (s.extractLsb' 16 8), UInt8.ofBitVec (s.extractLsb' 8 8), UInt8.ofBitVec (s.extractLsb' 0 8)]
theorem be4_len (s : B32) : (be4 s).length = 4 := rfl
theorem word32 (s : B32) : word (bits (be4 s)) = s := by
  apply BitVec.eq_of_getLsbD_eq
  intro i hi
  have hw : ∀ (bs : List Bool) (j : Nat), j < 32 → (word bs).getLsbD j = (bs[31 - j]?).getD false := by
    intro bs
    induction bs with
    | nil => intro j hj; simp [word]
    | cons b bs ih =>
      intro j hj
      rw [word, BitVec.getLsbD_xor, BitVec.getLsbD_ushiftRight]
      have ht : (top b).getLsbD j = (b && decide (j = 31)) := by
        unfold top
        cases b
        · simp
        · rw [if_pos rfl, show (0x80000000#32 : B32) = BitVec.twoPow 32 31 by decide, BitVec.getLsbD_twoPow]
          by_cases e : j = 31
          · subst e; rfl
          · have : ¬ 31 = j := fun h => e h.symm
            simp [e, this]
      rw [ht]
      by_cases e : j = 31
      · subst e
        simp
      · rw [ih (1 + j) (by omega), show 31 - j = (31 - (1 + j)) + 1 from by omega]
        simp [e]
  rw [hw _ i hi]
  have : ∀ k, k < 32 → ((bits (be4 s))[k]?).getD false = s.getLsbD (31 - k) := by
    intro k hk
    have hall : bits (be4 s) = (List.range 32).map (fun k => s.getLsbD (31 - k)) := by
      simp [bits, be4, bitsB, List.range_succ]
    rw [hall]
    simp [hk]
  rw [this _ (by omega)]
  congr 1
  omega
def goodReg : B32 := ones 32 (BitVec.allOnes 32)
/-- Bytes end with their sum just if the register ends so. -/
theorem sealed_reg (l : List UInt8) (s : B32) : regs (BitVec.allOnes 32) (l ++ be4 s) = goodReg ↔ s = crc l := by
  have h1 : regs (BitVec.allOnes 32) (l ++ be4 s) = ones 32 (regs (BitVec.allOnes 32) l ^^^ s) := by
    rw [regs_append]
    show feeds _ (bits (be4 s)) = _
    rw [feeds_word _ _ (by rw [bits_len]; exact Nat.le_refl _), word32, bits_len]
    rfl
  rw [h1]
  have h2 : crc l = ~~~ (regs (BitVec.allOnes 32) l) := by unfold crc crcFrom; rw [show (~~~ (0#32 : B32)) = BitVec.allOnes 32 by decide]
  rw [h2]
  generalize regs (BitVec.allOnes 32) l = r
  constructor
  · intro h
    have := ones_inj 32 h
    have h3 : r ^^^ (r ^^^ s) = r ^^^ BitVec.allOnes 32 := by rw [this]
    rw [← BitVec.xor_assoc, BitVec.xor_self, BitVec.zero_xor, BitVec.xor_allOnes] at h3
    exact h3
  · rintro rfl
    rw [← BitVec.xor_allOnes (x := r), ← BitVec.xor_assoc, BitVec.xor_self, BitVec.zero_xor]
    rfl
theorem be4_inj {s t : B32} (h : be4 s = be4 t) : s = t := by rw [← word32 s, ← word32 t, h]
/-- Any four bytes are some number's. -/
theorem be4_of {l : List UInt8} (h : l.length = 4) : ∃ s, be4 s = l := by
  match l, h with
  | [a, b, c, d], _ =>
    refine ⟨(a.toBitVec ++ (b.toBitVec ++ (c.toBitVec ++ d.toBitVec)) : BitVec (8 + (8 + (8 + 8)))), ?_⟩
    unfold be4
    have e : ∀ (x : BitVec 8) (y : UInt8), (∀ i : Nat, i < 8 → x.getLsbD i = y.toBitVec.getLsbD i) → UInt8.ofBitVec x = y := fun x y h => UInt8.eq_of_toBitVec_eq (BitVec.eq_of_getLsbD_eq h)
    simp only [List.cons.injEq, and_true]
    refine ⟨e _ _ ?_, e _ _ ?_, e _ _ ?_, e _ _ ?_⟩ <;> intro i hi <;> rw [BitVec.getLsbD_extractLsb', decide_eq_true hi, Bool.true_and]
    · rw [BitVec.getLsbD_append, if_neg (by omega), show 24 + i - (8 + (8 + 8)) = i from by omega]
    · rw [BitVec.getLsbD_append, if_pos (by omega), BitVec.getLsbD_append, if_neg (by omega), show 16 + i - (8 + 8) = i from by omega]
    · rw [BitVec.getLsbD_append, if_pos (by omega), BitVec.getLsbD_append, if_pos (by omega), BitVec.getLsbD_append, if_neg (by omega), show 8 + i - 8 = i from by omega]
    · rw [BitVec.getLsbD_append, if_pos (by omega), BitVec.getLsbD_append, if_pos (by omega), BitVec.getLsbD_append, if_pos (by omega), show 0 + i = i from by omega]
end Go.Proofs.Ytmahjeafoogamaa
