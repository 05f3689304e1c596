import Derived.Test.YtcibdcahcpcmaaaFold16
import Derived.Test.YtcibdcahcpcmaaaFold01
import Derived.Test.YtcibdcahcpcmaaaProg
import Derived.Laws.Bits64b
import Derived.Laws.BitsAllLaws
import Derived.StillTailTactics
import Derived.Handy
/- Plain laws of the seal's sum: words of eight bytes, the lowest first; the sum's bytes, the highest first. -/
namespace Go.Proofs.Ytcibdcahcpcmaaa
set_option linter.unusedVariables false
def leW : List UInt8 → Nat
  | [] => 0
  | x :: t => x.toNat + 256 * leW t
theorem leW_lt : ∀ l : List UInt8, leW l < 256 ^ l.length
  | [] => by simp [leW]
  | x :: t => by
    have := leW_lt t
    have hx := x.toNat_lt
    rw [leW, List.length_cons, Nat.pow_succ]
    have h2 : (leW t + 1) * 256 ≤ 256 ^ t.length * 256 := Nat.mul_le_mul_right _ this
    omega
theorem leW_lt8 {l : List UInt8} (h : l.length ≤ 8) : leW l < 18446744073709551616 :=
  Nat.lt_of_lt_of_le (leW_lt l) (by rw [show (18446744073709551616 : Nat) = 256 ^ 8 from rfl]; exact Nat.pow_le_pow_right (by decide) h)
theorem leW_append : ∀ l m : List UInt8, leW (l ++ m) = leW l + 256 ^ l.length * leW m
  | [], m => by simp [leW]
  | x :: t, m => by
    rw [List.cons_append, leW, leW, leW_append t m, List.length_cons, Nat.pow_succ, Nat.mul_add]
    have : 256 * (256 ^ t.length * leW m) = 256 ^ t.length * 256 * leW m := by rw [Nat.mul_comm (256 ^ t.length) 256, Nat.mul_assoc]
    omega
theorem leW_zeros : ∀ n : Nat, leW (List.replicate n 0) = 0
  | 0 => rfl
  | n + 1 => by rw [List.replicate_succ, leW, leW_zeros n]; rfl
theorem leW_next {l : List UInt8} {k : Nat} {x : UInt8} (h : l[k]? = some x) : leW (l.take (k + 1)) = leW (l.take k) + 256 ^ k * x.toNat := by
  obtain ⟨hk, rfl⟩ := List.getElem?_eq_some_iff.1 h
  rw [List.take_succ_eq_append_getElem hk, leW_append]
  simp only [leW, List.length_take, Nat.mul_zero, Nat.add_zero]
  rw [show min k l.length = k from by omega]
theorem or_shift {n k x : Nat} (hn : n < 2 ^ k) : n ||| x * 2 ^ k = n + 2 ^ k * x := by
  have h := Nat.shiftLeft_add_eq_or_of_lt hn x
  rw [Nat.shiftLeft_eq] at h
  rw [Nat.or_comm, ← h, Nat.mul_comm]
  omega
theorem pow256 (k : Nat) : 256 ^ k = 2 ^ (8 * k) := by rw [show (256 : Nat) = 2 ^ 8 from rfl, ← Nat.pow_mul]
theorem word_next {l : List UInt8} {k : Nat} {x : UInt8} (h : l[k]? = some x) : leW (l.take k) ||| x.toNat * 2 ^ (8 * k) = leW (l.take (k + 1)) := by
  rw [leW_next h, pow256, or_shift]
  have := leW_lt (l.take k)
  rw [List.length_take, pow256] at this
  exact Nat.lt_of_lt_of_le this (Nat.pow_le_pow_right (by decide) (by omega))
/-- A word more. -/
def takeV (v : V4) (m : Nat) : V4 :=
  let r := roundV (roundV (v.1, v.2.1, v.2.2.1, v.2.2.2 ^^^ m))
  (r.1 ^^^ m, r.2)
theorem takeV_small {v : V4} {m : Nat} (h : small v) (hm : m < 18446744073709551616) : small (takeV v m) := by
  obtain ⟨h1, h2, h3, h4⟩ := h
  obtain ⟨r1, r2, r3, r4⟩ := roundV_small (roundV_small (v := (v.1, v.2.1, v.2.2.1, v.2.2.2 ^^^ m)) ⟨h1, h2, h3, xor_lt64 h4 hm⟩)
  exact ⟨xor_lt64 r1 hm, r2, r3, r4⟩
def wordAt (l : List UInt8) (i : Nat) : Nat := leW ((l.drop (8 * i)).take 8)
theorem wordAt_lt (l : List UInt8) (i : Nat) : wordAt l i < 18446744073709551616 := leW_lt8 (by rw [List.length_take]; omega)
def absorb (l : List UInt8) (v : V4) : Nat → V4
  | 0 => v
  | j + 1 => takeV (absorb l v j) (wordAt l j)
theorem absorb_small {l : List UInt8} {v : V4} (h : small v) : ∀ j, small (absorb l v j)
  | 0 => h
  | j + 1 => takeV_small (absorb_small h j) (wordAt_lt _ _)
theorem absorb_same {l m : List UInt8} {v : V4} : ∀ (j : Nat), (∀ i, i < j → wordAt l i = wordAt m i) → absorb l v j = absorb m v j
  | 0, _ => rfl
  | j + 1, h => by rw [absorb, absorb, absorb_same j (fun i hi => h i (by omega)), h j (by omega)]
/-- The last word: what is left, and the length's lowest byte. -/
def lastW (bs : List UInt8) : Nat := leW (bs.drop (8 * (bs.length / 8))) + bs.length % 256 * 72057594037927936
theorem lastW_lt (bs : List UInt8) : lastW bs < 18446744073709551616 := by
  have h := leW_lt (bs.drop (8 * (bs.length / 8)))
  have h2 : 256 ^ (bs.drop (8 * (bs.length / 8))).length ≤ 256 ^ 7 := Nat.pow_le_pow_right (by decide) (by rw [List.length_drop]; omega)
  unfold lastW
  rw [show (256 : Nat) ^ 7 = 72057594037927936 from rfl] at h2
  omega
def endV (v : V4) : Nat :=
  let r := roundV (roundV (roundV (roundV (v.1, v.2.1, v.2.2.1 ^^^ 255, v.2.2.2))))
  r.1 ^^^ r.2.1 ^^^ r.2.2.1 ^^^ r.2.2.2
theorem endV_lt {v : V4} (h : small v) : endV v < 18446744073709551616 := by
  obtain ⟨h1, h2, h3, h4⟩ := h
  obtain ⟨r1, r2, r3, r4⟩ := roundV_small (roundV_small (roundV_small (roundV_small (v := (v.1, v.2.1, v.2.2.1 ^^^ 255, v.2.2.2)) ⟨h1, h2, xor_lt64 h3 (by decide), h4⟩)))
  exact xor_lt64 (xor_lt64 (xor_lt64 r1 r2) r3) r4
def startV (k0 k1 : Nat) : V4 := (k0 ^^^ 8317987319222330741, k1 ^^^ 7237128888997146477, k0 ^^^ 7816392313619706465, k1 ^^^ 8387220255154660723)
theorem startV_small {k0 k1 : Nat} (h0 : k0 < 18446744073709551616) (h1 : k1 < 18446744073709551616) : small (startV k0 k1) :=
  ⟨xor_lt64 h0 (by decide), xor_lt64 h1 (by decide), xor_lt64 h0 (by decide), xor_lt64 h1 (by decide)⟩
/-- The sum of bytes. -/
def sumN (k0 k1 : Nat) (bs : List UInt8) : Nat := endV (takeV (absorb bs (startV k0 k1) (bs.length / 8)) (lastW bs))
theorem sumN_lt {k0 k1 : Nat} (h0 : k0 < 18446744073709551616) (h1 : k1 < 18446744073709551616) (bs : List UInt8) : sumN k0 k1 bs < 18446744073709551616 :=
  endV_lt (takeV_small (absorb_small (startV_small h0 h1) _) (lastW_lt bs))
/-- The document's bytes: filled up, and the length's lowest byte behind. -/
def fullB (bs : List UInt8) : List UInt8 := bs ++ List.replicate (7 - bs.length % 8) 0 ++ [UInt8.ofNat (bs.length % 256)]
theorem fullB_len (bs : List UInt8) : (fullB bs).length = 8 * (bs.length / 8 + 1) := by
  unfold fullB
  simp only [List.length_append, List.length_replicate, List.length_cons, List.length_nil]
  omega
theorem wordAt_full {bs : List UInt8} {i : Nat} (h : i < bs.length / 8) : wordAt (fullB bs) i = wordAt bs i := by
  unfold wordAt fullB
  congr 1
  rw [List.append_assoc, List.drop_append_of_le_length (by omega), List.take_append_of_le_length (by rw [List.length_drop]; omega)]
theorem wordAt_last (bs : List UInt8) : wordAt (fullB bs) (bs.length / 8) = lastW bs := by
  unfold wordAt fullB lastW
  have hl : (List.drop (8 * (bs.length / 8)) (bs ++ (List.replicate (7 - bs.length % 8) 0 ++ [UInt8.ofNat (bs.length % 256)]))).length ≤ 8 := by
    simp only [List.length_drop, List.length_append, List.length_replicate, List.length_cons, List.length_nil]
    omega
  rw [List.append_assoc, List.take_of_length_le hl, List.drop_append_of_le_length (by omega), leW_append, leW_append, leW_zeros, Nat.zero_add]
  simp only [leW, Nat.mul_zero, Nat.add_zero, List.length_replicate]
  rw [show (UInt8.ofNat (bs.length % 256)).toNat = bs.length % 256 from by simp, ← Nat.mul_assoc, ← Nat.pow_add, List.length_drop,
    show bs.length - 8 * (bs.length / 8) + (7 - bs.length % 8) = 7 from by omega, show (256 : Nat) ^ 7 = 72057594037927936 from rfl, Nat.mul_comm 72057594037927936]
theorem absorb_full (bs : List UInt8) (v : V4) : absorb (fullB bs) v (bs.length / 8 + 1) = takeV (absorb bs v (bs.length / 8)) (lastW bs) := by
  rw [absorb, wordAt_last, absorb_same (m := bs) _ (fun i hi => wordAt_full hi)]
/-- A sum as eight bytes, the highest first. -/
def beB (n : Nat) : List UInt8 := [UInt8.ofNat (n / 72057594037927936 % 256), UInt8.ofNat (n / 281474976710656 % 256), UInt8.ofNat (n / 1099511627776 % 256), UInt8.ofNat (n / 4294967296 % 256), UInt8.ofNat (n / 16777216 % 256), UInt8.ofNat (n / 65536 % 256), UInt8.ofNat (n / 256 % 256), UInt8.ofNat (n % 256)]
theorem beB_len (n : Nat) : (beB n).length = 8 := rfl
def sealed (k0 k1 : Nat) (bs : List UInt8) : List UInt8 := bs ++ beB (sumN k0 k1 bs)
end Go.Proofs.Ytcibdcahcpcmaaa

/- The seal: what a call of turned, up, half, Round, and the reference's Round does. -/
namespace Go.Proofs.Ytcibdcahcpcmaaa
open Go.RowKit
set_option maxRecDepth 100000
set_option linter.unusedVariables false
theorem wrap_u64 (n : Nat) : IntKind.u64.wrap (n : Int) = ((n % 18446744073709551616 : Nat) : Int) := by
  show (n : Int) % 18446744073709551616 = _
  omega
theorem turned_val {x k : Nat} (hx : x < 18446744073709551616) (hk : k ≤ 64) : bits .or .u64 (IntKind.u64.wrap ((x : Int) * 2 ^ k)) ((x : Int) / 2 ^ (64 - k)) = ((rot k x : Nat) : Int) := by
  have h1 : 2 ^ (64 - k) * 2 ^ k = 18446744073709551616 := by rw [← Nat.pow_add, show 64 - k + k = 64 from by omega]
  have h2 : 0 < 2 ^ (64 - k) := Nat.two_pow_pos _
  have e1 : ((x : Int) * 2 ^ k) = ((x * 2 ^ k : Nat) : Int) := by simp
  have e2 : ((x : Int) / 2 ^ (64 - k)) = ((x / 2 ^ (64 - k) : Nat) : Int) := by simp
  have e3 : x * 2 ^ k % 18446744073709551616 = x % 2 ^ (64 - k) * 2 ^ k := by rw [← h1, Nat.mul_mod_mul_right]
  have h5 : x / 2 ^ (64 - k) < 2 ^ k := by
    rw [Nat.div_lt_iff_lt_mul h2, Nat.mul_comm, h1]
    exact hx
  have h6 := rot_lt hk hx
  unfold rot at h6
  rw [e1, e2, wrap_u64, e3, bits_or_u64_nat _ _ (by omega) (by omega), Nat.or_comm, or_shift h5, rot, Nat.mul_comm (2 ^ k), Nat.add_comm]
theorem s_turned {w : World} (x : Nat) (hx : x < 18446744073709551616) (k : Nat) (h1 : 1 ≤ k) (h2 : k ≤ 63) :
    Calls Try.prog 92 #[.int .u64 x, .int .u64 k] w fun e w' => e = .returned (.int .u64 (rot k x)) ∧ w' = w := by
  go_enter Try.func92, Try.ntmps92
  go_wp2
  rw [turned_val hx (by omega)]
  go_ret
  exact ⟨rfl, rfl⟩
theorem s_up {w : World} (x : Nat) (hx : x < 18446744073709551616) (n : Nat) (hn : n ≤ 64) :
    Calls Try.prog 88 #[.int .u64 x, .int .i64 n] w fun e w' => e = .returned (.int .u64 (rot n x)) ∧ w' = w := by
  rw [← upN_rot n x hn hx]
  go_enter Try.func88, Try.ntmps88
  go_wp2
  go_loopw [0, 5] (fun v i wr => ∃ y j : Nat, v = .int .u64 y ∧ i = .int .i64 j ∧ j ≤ n ∧ y < 18446744073709551616 ∧ upN (n - j) y = upN n x ∧ wr = w) (fun _ i _ => n - (intOf i).toNat)
  case atStart => exact ⟨x, 0, rfl, rfl, Nat.zero_le _, hx, rfl, rfl⟩
  case round =>
    obtain ⟨y, j, rfl, rfl, hj, hy, he, rfl⟩ := hrel
    by_cases hlt : j < n
    · have b1 : (j : Int) < (n : Int) := by omega
      go_wp2
      refine ⟨⟨up1 y, j + 1, by unfold up1; go_num, by go_num, by omega, up1_lt hy, ?_, trivial⟩, by simp [intOf]; omega⟩
      rw [← he, show n - j = (n - (j + 1)) + 1 from by omega, upN]
    · have b1 : ¬ (j : Int) < (n : Int) := by omega
      go_wp2
      go_ret
      rw [show n - j = 0 from by omega, upN] at he
      rw [he]
      exact ⟨rfl, rfl⟩
def fourV (v : V4) : Array Value := #[.int .u64 v.1, .int .u64 v.2.1, .int .u64 v.2.2.1, .int .u64 v.2.2.2]
/-- Block g holds four numbers. -/
structure FourAt (w : World) (g : Nat) (v : V4) : Prop where
  c : w.heap[g]? = some (.cells (fourV v) 145 (0, 0))
  s : small v
theorem FourAt.cells {w : World} {g : Nat} {v : V4} (h : FourAt w g v) : w.cell? ⟨g, 0, none⟩ = some (.int .u64 v.1) ∧ w.cell? ⟨g, 1, none⟩ = some (.int .u64 v.2.1) ∧ w.cell? ⟨g, 2, none⟩ = some (.int .u64 v.2.2.1) ∧ w.cell? ⟨g, 3, none⟩ = some (.int .u64 v.2.2.2) :=
  ⟨by rw [cell_of_row w g 0 _ _ _ h.c]; rfl, by rw [cell_of_row w g 1 _ _ _ h.c]; rfl, by rw [cell_of_row w g 2 _ _ _ h.c]; rfl, by rw [cell_of_row w g 3 _ _ _ h.c]; rfl⟩
theorem FourAt.loose {w : World} {g : Nat} {v : V4} (h : FourAt w g v) (j : Nat) : w.frozen? ⟨g, j, none⟩ = false := by
  simp [World.frozen?, h.c]
theorem FourAt.drew {w : World} {g : Nat} {v : V4} (h : FourAt w g v) : FourAt w.drew g v := ⟨h.c, h.s⟩
theorem wrap_add (a b : Nat) : IntKind.u64.wrap ((a : Int) + (b : Int)) = ((halfA a b : Nat) : Int) := by
  rw [show (a : Int) + (b : Int) = ((a + b : Nat) : Int) from by omega, wrap_u64, halfA]
theorem FourAt.set0 {w : World} {g x : Nat} {v : V4} (h : FourAt w g v) (hx : x < 18446744073709551616) : FourAt (w.setCell ⟨g, 0, none⟩ (.int .u64 x)) g (x, v.2) :=
  ⟨by simp [World.setCell, Array.getElem?_modify, h.c, fourV], hx, h.s.2⟩
theorem FourAt.set1 {w : World} {g x : Nat} {v : V4} (h : FourAt w g v) (hx : x < 18446744073709551616) : FourAt (w.setCell ⟨g, 1, none⟩ (.int .u64 x)) g (v.1, x, v.2.2) :=
  ⟨by simp [World.setCell, Array.getElem?_modify, h.c, fourV], h.s.1, hx, h.s.2.2⟩
theorem FourAt.set2 {w : World} {g x : Nat} {v : V4} (h : FourAt w g v) (hx : x < 18446744073709551616) : FourAt (w.setCell ⟨g, 2, none⟩ (.int .u64 x)) g (v.1, v.2.1, x, v.2.2.2) :=
  ⟨by simp [World.setCell, Array.getElem?_modify, h.c, fourV], h.s.1, h.s.2.1, hx, h.s.2.2.2⟩
theorem FourAt.set3 {w : World} {g x : Nat} {v : V4} (h : FourAt w g v) (hx : x < 18446744073709551616) : FourAt (w.setCell ⟨g, 3, none⟩ (.int .u64 x)) g (v.1, v.2.1, v.2.2.1, x) :=
  ⟨by simp [World.setCell, Array.getElem?_modify, h.c, fourV], h.s.1, h.s.2.1, h.s.2.2.1, hx⟩
theorem xor_half {k a b : Nat} (hk : k ≤ 64) (hb : b < 18446744073709551616) : bits .xor .u64 ((rot k b : Nat) : Int) ((halfA a b : Nat) : Int) = ((halfB k a b : Nat) : Int) := by
  rw [u64_xor_nat _ _ (rot_lt hk hb) (halfA_lt _ _), halfB, halfA]
end Go.Proofs.Ytcibdcahcpcmaaa
