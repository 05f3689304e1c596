/- Plain laws of the seal's sum: words of eight bytes, the lowest first; the sum's bytes, the highest first. -/
import Derived.Test.YtbgnplgdknbmoaaSealLaws
namespace Go.Proofs.Ytbgnplgdknbmoaa
set_option linter.unusedVariables false
def leW : List UInt8 → Nat
  | [] => 0
  | x :: t => x.toNat + 256 * leW t
theorem leW_lt : ∀ l : List UInt8, leW l < 256 ^ l.length
  | [] => by simp [leW]
  | x :: t => by
    have := leW_lt t
    have hx := x.toNat_lt
    rw [leW, List.length_cons, Nat.pow_succ]
    have h2 : (leW t + 1) * 256 ≤ 256 ^ t.length * 256 := Nat.mul_le_mul_right _ this
    omega
theorem leW_lt8 {l : List UInt8} (h : l.length ≤ 8) : leW l < 18446744073709551616 :=
  Nat.lt_of_lt_of_le (leW_lt l) (by rw [show (18446744073709551616 : Nat) = 256 ^ 8 from rfl]; exact Nat.pow_le_pow_right (by decide) h)
theorem leW_append : ∀ l m : List UInt8, leW (l ++ m) = leW l + 256 ^ l.length * leW m
  | [], m => by simp [leW]
  | x :: t, m => by
    rw [List.cons_append, leW, leW, leW_append t m, List.length_cons, Nat.pow_succ, Nat.mul_add]
    have : 256 * (256 ^ t.length * leW m) = 256 ^ t.length * 256 * leW m := by rw [Nat.mul_comm (256 ^ t.length) 256, Nat.mul_assoc]
    omega
theorem leW_zeros : ∀ n : Nat, leW (List.replicate n 0) = 0
  | 0 => rfl
  | n + 1 => by rw [List.replicate_succ, leW, leW_zeros n]; rfl
theorem leW_next {l : List UInt8} {k : Nat} {x : UInt8} (h : l[k]? = some x) : leW (l.take (k + 1)) = leW (l.take k) + 256 ^ k * x.toNat := by
  obtain ⟨hk, rfl⟩ := List.getElem?_eq_some_iff.1 h
  rw [List.take_succ_eq_append_getElem hk, leW_append]
  simp only [leW, List.length_take, Nat.mul_zero, Nat.add_zero]
  rw [show min k l.length = k from by omega]
theorem or_shift {n k x : Nat} (hn : n < 2 ^ k) : n ||| x * 2 ^ k = n + 2 ^ k * x := by
  have h := Nat.shiftLeft_add_eq_or_of_lt hn x
  rw [Nat.shiftLeft_eq] at h
  rw [Nat.or_comm, ← h, Nat.mul_comm]
  omega
theorem pow256 (k : Nat) : 256 ^ k = 2 ^ (8 * k) := by rw [show (256 : Nat) = 2 ^ 8 from rfl, ← Nat.pow_mul]
theorem word_next {l : List UInt8} {k : Nat} {x : UInt8} (h : l[k]? = some x) : leW (l.take k) ||| x.toNat * 2 ^ (8 * k) = leW (l.take (k + 1)) := by
  rw [leW_next h, pow256, or_shift]
  have := leW_lt (l.take k)
  rw [List.length_take, pow256] at this
  exact Nat.lt_of_lt_of_le this (Nat.pow_le_pow_right (by decide) (by omega))
/-- A word more. -/
def takeV (v : V4) (m : Nat) : V4 :=
  let r := roundV (roundV (v.1, v.2.1, v.2.2.1, v.2.2.2 ^^^ m))
  (r.1 ^^^ m, r.2)
theorem takeV_small {v : V4} {m : Nat} (h : small v) (hm : m < 18446744073709551616) : small (takeV v m) := by
  obtain ⟨h1, h2, h3, h4⟩ := h
  obtain ⟨r1, r2, r3, r4⟩ := roundV_small (roundV_small (v := (v.1, v.2.1, v.2.2.1, v.2.2.2 ^^^ m)) ⟨h1, h2, h3, xor_lt64 h4 hm⟩)
  exact ⟨xor_lt64 r1 hm, r2, r3, r4⟩
def wordAt (l : List UInt8) (i : Nat) : Nat := leW ((l.drop (8 * i)).take 8)
theorem wordAt_lt (l : List UInt8) (i : Nat) : wordAt l i < 18446744073709551616 := leW_lt8 (by rw [List.length_take]; omega)
def absorb (l : List UInt8) (v : V4) : Nat → V4
  | 0 => v
  | j + 1 => takeV (absorb l v j) (wordAt l j)
theorem absorb_small {l : List UInt8} {v : V4} (h : small v) : ∀ j, small (absorb l v j)
  | 0 => h
  | j + 1 => takeV_small (absorb_small h j) (wordAt_lt _ _)
theorem absorb_same {l m : List UInt8} {v : V4} : ∀ (j : Nat), (∀ i, i < j → wordAt l i = wordAt m i) → absorb l v j = absorb m v j
  | 0, _ => rfl
  | j + 1, h => by rw [absorb, absorb, absorb_same j (fun i hi => h i (by omega)), h j (by omega)]
/-- The last word: what is left, and the length's lowest byte. -/
def lastW (bs : List UInt8) : Nat := leW (bs.drop (8 * (bs.length / 8))) + bs.length % 256 * 72057594037927936
theorem lastW_lt (bs : List UInt8) : lastW bs < 18446744073709551616 := by
  have h := leW_lt (bs.drop (8 * (bs.length / 8)))
  have h2 : 256 ^ (bs.drop (8 * (bs.length / 8))).length ≤ 256 ^ 7 := Nat.pow_le_pow_right (by decide) (by rw [List.length_drop]; omega)
  unfold lastW
  rw [show (256 : Nat) ^ 7 = 72057594037927936 from rfl] at h2
  omega
def endV (v : V4) : Nat :=
  let r := roundV (roundV (roundV (roundV (v.1, v.2.1, v.2.2.1 ^^^ 255, v.2.2.2))))
  r.1 ^^^ r.2.1 ^^^ r.2.2.1 ^^^ r.2.2.2
theorem endV_lt {v : V4} (h : small v) : endV v < 18446744073709551616 := by
  obtain ⟨h1, h2, h3, h4⟩ := h
  obtain ⟨r1, r2, r3, r4⟩ := roundV_small (roundV_small (roundV_small (roundV_small (v := (v.1, v.2.1, v.2.2.1 ^^^ 255, v.2.2.2)) ⟨h1, h2, xor_lt64 h3 (by decide), h4⟩)))
  exact xor_lt64 (xor_lt64 (xor_lt64 r1 r2) r3) r4
def startV (k0 k1 : Nat) : V4 := (k0 ^^^ 8317987319222330741, k1 ^^^ 7237128888997146477, k0 ^^^ 7816392313619706465, k1 ^^^ 8387220255154660723)
theorem startV_small {k0 k1 : Nat} (h0 : k0 < 18446744073709551616) (h1 : k1 < 18446744073709551616) : small (startV k0 k1) :=
  ⟨xor_lt64 h0 (by decide), xor_lt64 h1 (by decide), xor_lt64 h0 (by decide), xor_lt64 h1 (by decide)⟩
/-- The sum of bytes. -/
def sumN (k0 k1 : Nat) (bs : List UInt8) : Nat := endV (takeV (absorb bs (startV k0 k1) (bs.length / 8)) (lastW bs))
theorem sumN_lt {k0 k1 : Nat} (h0 : k0 < 18446744073709551616) (h1 : k1 < 18446744073709551616) (bs : List UInt8) : sumN k0 k1 bs < 18446744073709551616 :=
  endV_lt (takeV_small (absorb_small (startV_small h0 h1) _) (lastW_lt bs))
/-- The document's bytes: filled up, and the length's lowest byte behind. -/
def fullB (bs : List UInt8) : List UInt8 := bs ++ List.replicate (7 - bs.length % 8) 0 ++ [UInt8.ofNat (bs.length % 256)]
theorem fullB_len (bs : List UInt8) : (fullB bs).length = 8 * (bs.length / 8 + 1) := by
  unfold fullB
  simp only [List.length_append, List.length_replicate, List.length_cons, List.length_nil]
  omega
theorem wordAt_full {bs : List UInt8} {i : Nat} (h : i < bs.length / 8) : wordAt (fullB bs) i = wordAt bs i := by
  unfold wordAt fullB
  congr 1
  rw [List.append_assoc, List.drop_append_of_le_length (by omega), List.take_append_of_le_length (by rw [List.length_drop]; omega)]
theorem wordAt_last (bs : List UInt8) : wordAt (fullB bs) (bs.length / 8) = lastW bs := by
  unfold wordAt fullB lastW
  have hl : (List.drop (8 * (bs.length / 8)) (bs ++ (List.replicate (7 - bs.length % 8) 0 ++ [UInt8.ofNat (bs.length % 256)]))).length ≤ 8 := by
    simp only [List.length_drop, List.length_append, List.length_replicate, List.length_cons, List.length_nil]
    omega
  rw [List.append_assoc, List.take_of_length_le hl, List.drop_append_of_le_length (by omega), leW_append, leW_append, leW_zeros, Nat.zero_add]
  simp only [leW, Nat.mul_zero, Nat.add_zero, List.length_replicate]
  rw [show (UInt8.ofNat (bs.length % 256)).toNat = bs.length % 256 from by simp, ← Nat.mul_assoc, ← Nat.pow_add, List.length_drop,
    show bs.length - 8 * (bs.length / 8) + (7 - bs.length % 8) = 7 from by omega, show (256 : Nat) ^ 7 = 72057594037927936 from rfl, Nat.mul_comm 72057594037927936]
theorem absorb_full (bs : List UInt8) (v : V4) : absorb (fullB bs) v (bs.length / 8 + 1) = takeV (absorb bs v (bs.length / 8)) (lastW bs) := by
  rw [absorb, wordAt_last, absorb_same (m := bs) _ (fun i hi => wordAt_full hi)]
/-- A sum as eight bytes, the highest first. -/
def beB (n : Nat) : List UInt8 := [UInt8.ofNat (n / 72057594037927936 % 256), UInt8.ofNat (n / 281474976710656 % 256), UInt8.ofNat (n / 1099511627776 % 256), UInt8.ofNat (n / 4294967296 % 256), UInt8.ofNat (n / 16777216 % 256), UInt8.ofNat (n / 65536 % 256), UInt8.ofNat (n / 256 % 256), UInt8.ofNat (n % 256)]
theorem beB_len (n : Nat) : (beB n).length = 8 := rfl
def sealed (k0 k1 : Nat) (bs : List UInt8) : List UInt8 := bs ++ beB (sumN k0 k1 bs)
end Go.Proofs.Ytbgnplgdknbmoaa
