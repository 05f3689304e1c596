import Derived.Test.YtcibdcahcpcmaaaFold07
/- Tokens: what a call of Right does, the program's and the reference's. -/
namespace Go.Proofs.Ytcibdcahcpcmaaa
open Go.RowKit
set_option maxRecDepth 100000
set_option linter.unusedVariables false
set_option linter.unusedSimpArgs false
def tokOk (s : ByteArray) (nd : Int) : Bool := nameB (strL s) && decide (0 ≤ nd ∧ nd ≤ 7)
theorem t_cells {w : World} {g t : Nat} {a b c d : Value} (h : w.heap[g]? = some (.cells #[a, b, c, d] t (0, 0))) :
    w.cell? ⟨g, 0, none⟩ = some a ∧ w.cell? ⟨g, 1, none⟩ = some b ∧ w.cell? ⟨g, 2, none⟩ = some c ∧ w.cell? ⟨g, 3, none⟩ = some d :=
  ⟨by rw [cell_of_row w g 0 _ _ _ h]; rfl, by rw [cell_of_row w g 1 _ _ _ h]; rfl, by rw [cell_of_row w g 2 _ _ _ h]; rfl, by rw [cell_of_row w g 3 _ _ _ h]; rfl⟩
theorem t_right {w : World} (s : ByteArray) (hs : s.size ≤ 9223372036854775807) (nd inc idx : Int) :
    Calls Try.prog 41 #[.agg #[.string s, .int .i64 nd, .int .u32 inc, .int .u64 idx]] w fun e w' => e = .returned (.bool (tokOk s nd)) ∧ Chg nob w w' := by
  have hc0 : Chg nob w (w.alloc (.cells #[.string s, .int .i64 nd, .int .u32 inc, .int .u64 idx] 45)) := (Chg.refl _ _).alloc _
  obtain ⟨q, hq⟩ : ∃ q, nameB (strL s) = q := ⟨_, rfl⟩
  have HQ := Lib.hid hq
  have HT : Hid (tokOk s nd = (q && decide (0 ≤ nd ∧ nd ≤ 7))) := by show _ = _; rw [tokOk, hq]
  clear hq
  go_enter Try.func41, Try.ntmps41
  go_wp2_with fail
  refine (n_right s hs).mono ?_
  rintro e w2 ⟨rfl, rfl⟩
  rw [HQ.out]
  cases q with
  | false =>
    go_wp2
    go_ret
    rw [HT.out]
    exact ⟨rfl, hc0⟩
  | true =>
    by_cases h0 : 0 ≤ nd
    · by_cases h1 : nd < 8
      · have hd : decide (0 ≤ nd ∧ nd ≤ 7) = true := by simp; omega
        rw [hd] at HT
        go_wp2
        go_ret
        rw [HT.out]
        exact ⟨by simp [h1], hc0⟩
      · have hd : decide (0 ≤ nd ∧ nd ≤ 7) = false := by simp; omega
        rw [hd] at HT
        go_wp2
        go_ret
        rw [HT.out]
        exact ⟨by simp; omega, hc0⟩
    · have hd : decide (0 ≤ nd ∧ nd ≤ 7) = false := by simp; omega
      rw [hd] at HT
      go_wp2
      go_ret
      rw [HT.out]
      exact ⟨rfl, hc0⟩
theorem tr_right {w : World} (s : ByteArray) (hs : s.size ≤ 9223372036854775807) (nd inc idx : Int) :
    Calls Try.prog 48 #[.agg #[.string s, .int .i64 nd, .int .u32 inc, .int .u64 idx]] w fun e w' => e = .returned (.bool (tokOk s nd)) ∧ Chg nob w w' := by
  have hc0 : Chg nob w (w.alloc (.cells #[.string s, .int .i64 nd, .int .u32 inc, .int .u64 idx] 45)) := (Chg.refl _ _).alloc _
  obtain ⟨q, hq⟩ : ∃ q, nameB (strL s) = q := ⟨_, rfl⟩
  have HQ := Lib.hid hq
  have HT : Hid (tokOk s nd = (q && decide (0 ≤ nd ∧ nd ≤ 7))) := by show _ = _; rw [tokOk, hq]
  clear hq
  go_enter Try.func48, Try.ntmps48
  go_wp2_with fail
  refine (r_right s hs).mono ?_
  rintro e w2 ⟨rfl, rfl⟩
  rw [HQ.out]
  cases q with
  | false =>
    go_wp2
    go_ret
    rw [HT.out]
    exact ⟨rfl, hc0⟩
  | true =>
    by_cases h0 : 0 ≤ nd
    · by_cases h1 : nd ≤ 7
      · have hd : decide (0 ≤ nd ∧ nd ≤ 7) = true := by simp; omega
        rw [hd] at HT
        go_wp2
        go_ret
        rw [HT.out]
        exact ⟨by simp [h1], hc0⟩
      · have hd : decide (0 ≤ nd ∧ nd ≤ 7) = false := by simp; omega
        rw [hd] at HT
        go_wp2
        go_ret
        rw [HT.out]
        exact ⟨by simp; omega, hc0⟩
    · have hd : decide (0 ≤ nd ∧ nd ≤ 7) = false := by simp; omega
      rw [hd] at HT
      go_wp2
      go_ret
      rw [HT.out]
      exact ⟨rfl, hc0⟩
end Go.Proofs.Ytcibdcahcpcmaaa

/- Plain laws of the seal's round: turning, xoring, adding; a round is undone. -/
namespace Go.Proofs.Ytcibdcahcpcmaaa
set_option linter.unusedVariables false
/-- A number of 64 bits, turned by k bits. -/
def rot (k x : Nat) : Nat := x % 2 ^ (64 - k) * 2 ^ k + x / 2 ^ (64 - k)
def up1 (x : Nat) : Nat := x % 9223372036854775808 * 2 + x / 9223372036854775808
def upN : Nat → Nat → Nat
  | 0, x => x
  | n + 1, x => upN n (up1 x)
theorem rot_lt {k x : Nat} (hk : k ≤ 64) (hx : x < 18446744073709551616) : rot k x < 18446744073709551616 := by
  have h1 : 2 ^ (64 - k) * 2 ^ k = 18446744073709551616 := by rw [← Nat.pow_add, show 64 - k + k = 64 from by omega]
  have h2 : 0 < 2 ^ (64 - k) := Nat.two_pow_pos _
  have h3 : 0 < 2 ^ k := Nat.two_pow_pos _
  have h4 : x % 2 ^ (64 - k) < 2 ^ (64 - k) := Nat.mod_lt _ h2
  have h5 : x / 2 ^ (64 - k) < 2 ^ k := by
    rw [Nat.div_lt_iff_lt_mul h2, Nat.mul_comm, h1]
    exact hx
  unfold rot
  have h6 : (x % 2 ^ (64 - k) + 1) * 2 ^ k ≤ 2 ^ (64 - k) * 2 ^ k := Nat.mul_le_mul_right _ h4
  rw [h1, Nat.add_mul] at h6
  omega
theorem up1_lt {x : Nat} (hx : x < 18446744073709551616) : up1 x < 18446744073709551616 := by unfold up1; omega
theorem rot_succ {k x : Nat} (hk : k < 64) (hx : x < 18446744073709551616) : rot k (up1 x) = rot (k + 1) x := by
  obtain ⟨N, hN⟩ : ∃ N, 2 ^ (63 - k) = N := ⟨_, rfl⟩
  obtain ⟨P, hP⟩ : ∃ P, 2 ^ k = P := ⟨_, rfl⟩
  have h0 : N * P = 9223372036854775808 := by rw [← hN, ← hP, ← Nat.pow_add, show 63 - k + k = 63 from by omega]
  have hN0 : 0 < N := by rw [← hN]; exact Nat.two_pow_pos _
  have e1 : 2 ^ (64 - k) = 2 * N := by rw [show 64 - k = (63 - k) + 1 from by omega, Nat.pow_succ, hN, Nat.mul_comm]
  have e2 : 2 ^ (64 - (k + 1)) = N := by rw [show 64 - (k + 1) = 63 - k from by omega, hN]
  have e3 : 2 ^ (k + 1) = 2 * P := by rw [Nat.pow_succ, hP, Nat.mul_comm]
  unfold rot
  rw [e1, e2, e3, hP]
  obtain ⟨h, hh⟩ : ∃ h, x / 9223372036854775808 = h := ⟨_, rfl⟩
  obtain ⟨l, hl⟩ : ∃ l, x % 9223372036854775808 = l := ⟨_, rfl⟩
  have hx' : x = l + N * (P * h) := by rw [← Nat.mul_assoc, h0, ← hh, ← hl]; omega
  have hu : up1 x = h + 2 * l := by unfold up1; rw [hh, hl]; omega
  have hh2 : h < 2 := by omega
  rw [hu, Nat.mod_mul, ← Nat.div_div_eq_div_mul]
  have a1 : (h + 2 * l) / 2 = l := by omega
  have a2 : (h + 2 * l) % 2 = h := by omega
  rw [a1, a2, hx', Nat.add_mul_mod_self_left, Nat.add_mul_div_left _ _ hN0, Nat.add_mul]
  have c1 : 2 * (l % N) * P = l % N * (2 * P) := by rw [Nat.mul_comm 2 (l % N), Nat.mul_assoc]
  have c2 : h * P = P * h := Nat.mul_comm _ _
  omega
theorem upN_rot : ∀ (k x : Nat), k ≤ 64 → x < 18446744073709551616 → upN k x = rot k x
  | 0, x, _, hx => by
    unfold upN rot
    simp only [Nat.sub_zero, Nat.pow_zero, Nat.mul_one]
    have h1 : x % 2 ^ 64 = x := Nat.mod_eq_of_lt hx
    have h2 : x / 2 ^ 64 = 0 := Nat.div_eq_of_lt hx
    rw [h1, h2, Nat.add_zero]
  | k + 1, x, hk, hx => by
    rw [upN, upN_rot k (up1 x) (by omega) (up1_lt hx), rot_succ (by omega) hx]
theorem up1_inj {x y : Nat} (hx : x < 18446744073709551616) (hy : y < 18446744073709551616) (h : up1 x = up1 y) : x = y := by
  unfold up1 at h
  have x1 := Nat.div_add_mod x 9223372036854775808
  have y1 := Nat.div_add_mod y 9223372036854775808
  have x2 : x / 9223372036854775808 < 2 := Nat.div_lt_of_lt_mul hx
  have y2 : y / 9223372036854775808 < 2 := Nat.div_lt_of_lt_mul hy
  generalize x / 9223372036854775808 = a at h x1 x2
  generalize x % 9223372036854775808 = b at h x1
  generalize y / 9223372036854775808 = c at h y1 y2
  generalize y % 9223372036854775808 = d at h y1
  have e1 : a = c := by omega
  have e2 : b = d := by omega
  rw [← x1, ← y1, e1, e2]
theorem upN_inj : ∀ (k : Nat) {x y : Nat}, x < 18446744073709551616 → y < 18446744073709551616 → upN k x = upN k y → x = y
  | 0, _, _, _, _, h => h
  | k + 1, _, _, hx, hy, h => up1_inj hx hy (upN_inj k (up1_lt hx) (up1_lt hy) h)
theorem rot_inj {k x y : Nat} (hk : k ≤ 64) (hx : x < 18446744073709551616) (hy : y < 18446744073709551616) (h : rot k x = rot k y) : x = y := by
  rw [← upN_rot k x hk hx, ← upN_rot k y hk hy] at h
  exact upN_inj k hx hy h
abbrev V4 := Nat × Nat × Nat × Nat
def small (v : V4) : Prop := v.1 < 18446744073709551616 ∧ v.2.1 < 18446744073709551616 ∧ v.2.2.1 < 18446744073709551616 ∧ v.2.2.2 < 18446744073709551616
/-- A number takes another one in; the other one is turned, and xored with it. -/
def halfA (a b : Nat) : Nat := (a + b) % 18446744073709551616
def halfB (k a b : Nat) : Nat := rot k b ^^^ (a + b) % 18446744073709551616
theorem halfA_lt (a b : Nat) : halfA a b < 18446744073709551616 := Nat.mod_lt _ (by decide)
theorem xor_lt64 {a b : Nat} (ha : a < 18446744073709551616) (hb : b < 18446744073709551616) : a ^^^ b < 18446744073709551616 := Nat.xor_lt_two_pow (n := 64) ha hb
theorem halfB_lt {k a b : Nat} (hk : k ≤ 64) (hb : b < 18446744073709551616) : halfB k a b < 18446744073709551616 := xor_lt64 (rot_lt hk hb) (Nat.mod_lt _ (by decide))
theorem half_inj {k a b a' b' : Nat} (hk : k ≤ 64) (ha : a < 18446744073709551616) (hb : b < 18446744073709551616) (ha' : a' < 18446744073709551616) (hb' : b' < 18446744073709551616)
    (h1 : halfA a b = halfA a' b') (h2 : halfB k a b = halfB k a' b') : a = a' ∧ b = b' := by
  unfold halfB at h2
  unfold halfA at h1
  rw [h1] at h2
  have h3 : rot k b = rot k b' := by
    have := congrArg (· ^^^ (a' + b') % 18446744073709551616) h2
    simpa only [Nat.xor_assoc, Nat.xor_self, Nat.xor_zero] using this
  have h4 := rot_inj hk hb hb' h3
  subst h4
  omega
/-- A round of four numbers. -/
def roundV (v : V4) : V4 :=
  let a := rot 32 (halfA v.1 v.2.1)
  let b := halfB 13 v.1 v.2.1
  let c := halfA v.2.2.1 v.2.2.2
  let d := halfB 16 v.2.2.1 v.2.2.2
  (halfA a d, halfB 17 c b, rot 32 (halfA c b), halfB 21 a d)
theorem roundV_small {v : V4} (h : small v) : small (roundV v) := by
  obtain ⟨h1, h2, h3, h4⟩ := h
  exact ⟨halfA_lt _ _, halfB_lt (by decide) (halfB_lt (by decide) h2), rot_lt (by decide) (halfA_lt _ _), halfB_lt (by decide) (halfB_lt (by decide) h4)⟩
theorem roundV_inj {v u : V4} (h : small v) (k : small u) (e : roundV v = roundV u) : v = u := by
  obtain ⟨a, b, c, d⟩ := v
  obtain ⟨a', b', c', d'⟩ := u
  obtain ⟨h1, h2, h3, h4⟩ := h
  obtain ⟨k1, k2, k3, k4⟩ := k
  simp only [roundV, Prod.mk.injEq] at e
  simp only at h1 h2 h3 h4 k1 k2 k3 k4
  obtain ⟨e1, e2, e3, e4⟩ := e
  have x1 := halfA_lt a b
  have x2 := halfB_lt (k := 13) (a := a) (by decide) h2
  have x3 := halfA_lt c d
  have x4 := halfB_lt (k := 16) (a := c) (by decide) h4
  have y1 := halfA_lt a' b'
  have y2 := halfB_lt (k := 13) (a := a') (by decide) k2
  have y3 := halfA_lt c' d'
  have y4 := halfB_lt (k := 16) (a := c') (by decide) k4
  have r1 := rot_lt (k := 32) (by decide) x1
  have r2 := rot_lt (k := 32) (by decide) y1
  have e3' := rot_inj (by decide) (halfA_lt _ _) (halfA_lt _ _) e3
  obtain ⟨f1, f2⟩ := half_inj (by decide) x3 x2 y3 y2 e3' e2
  obtain ⟨f3, f4⟩ := half_inj (by decide) r1 x4 r2 y4 e1 e4
  have f5 := rot_inj (by decide) x1 y1 f3
  obtain ⟨g1, g2⟩ := half_inj (by decide) h1 h2 k1 k2 f5 f2
  obtain ⟨g3, g4⟩ := half_inj (by decide) h3 h4 k3 k4 f1 f4
  rw [g1, g2, g3, g4]
end Go.Proofs.Ytcibdcahcpcmaaa
