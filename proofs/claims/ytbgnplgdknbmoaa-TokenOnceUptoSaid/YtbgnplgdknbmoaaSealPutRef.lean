/- Bytes and their sum: what a call of the reference's Put does. -/
import Derived.Test.YtbgnplgdknbmoaaSealPut
namespace Go.Proofs.Ytbgnplgdknbmoaa
open Go.RowKit
set_option linter.unusedVariables false
set_option linter.unusedSimpArgs false
theorem beB_next {n t : Nat} (ht : t < 8) : (beB n).take t ++ [UInt8.ofNat (n / 2 ^ (8 * (7 - t)) % 256)] = (beB n).take (t + 1) := by
  have : t = 0 ∨ t = 1 ∨ t = 2 ∨ t = 3 ∨ t = 4 ∨ t = 5 ∨ t = 6 ∨ t = 7 := by omega
  rcases this with rfl | rfl | rfl | rfl | rfl | rfl | rfl | rfl <;> simp [beB]
theorem div_next (n j : Nat) : n / 2 ^ (8 * j) / 256 = n / 2 ^ (8 * (j + 1)) := by
  rw [Nat.div_div_eq_div_mul, show 8 * (j + 1) = 8 * j + 8 from by omega, Nat.pow_add]
theorem r_put {w : World} {k0 k1 : Nat} (h0 : k0 < 18446744073709551616) (h1 : k1 < 18446744073709551616) {ok : Nat → Prop} {A : Option Addr} {m c : Nat} {bs : List UInt8} (hb : Kd.byte.C w ok A bs) (hok : ∀ b, ok b → b < w.heap.size) (hm : bs.length = m) (hl : m ≤ 1000000000) :
    Calls Try.prog 23 #[.int .u64 k0, .int .u64 k1, .slice A m c] w (Tells w (sealed k0 k1 bs) (m + 8)) := by
  have HB := Lib.hid hb
  have HM := Lib.hid hm
  have HOK := Lib.hid hok
  clear hb hm hok
  go_enter Try.func23, Try.ntmps23
  go_wp2_with fail
  refine (r_sum h0 h1 HB.out HOK.out HM.out hl).mono ?_
  rintro e w2 ⟨rfl, hc2⟩
  obtain ⟨S, hS⟩ : ∃ S, sumN k0 k1 bs = S := ⟨_, rfl⟩
  have hSl : S < 18446744073709551616 := by rw [← hS]; exact sumN_lt h0 h1 bs
  rw [hS]
  have HS := Lib.hid hS
  have hs2 := hc2.size
  have HC2 := Lib.hid hc2
  clear hS hc2
  go_wp2_with (at_builtin; refine wp_appB rfl _ _ rfl w.heap.size (fun _ => False) ok (.slice none 0 0) [] bs A m c rfl rfl HM.out (Kd.R_nil _ _ _ _ _) (Kd.C_new HB.out HC2.out) hs2 m (by simp) (by omega) ?_)
  intro A1 c1 w1 hR1 hC1 _
  have hn1 : Chg nob w w1 := HC2.out.trans hC1 (fun i hi => by cases hi)
  have hs1 := hn1.size
  have HR1 := Lib.hid (byte_ge hR1)
  have HN1 := Lib.hid hn1
  clear hR1 hC1 hn1
  go_wp2
  go_loopw [8, 9] (fun v i wr => ∃ (t : Nat) (A' : Option Addr) (c' : Nat), t ≤ 8 ∧ v = .slice A' (m + t) c' ∧ i = .int .i64 (7 - (t : Int)) ∧ Hid (Kd.byte.R 5 wr w.heap.size (fun b => w.heap.size ≤ b) (.slice A' (m + t) c') (bs ++ (beB S).take t)) ∧ Hid (Chg nob w wr) ∧ w.heap.size ≤ wr.heap.size) (fun _ i _ => (intOf i + 1).toNat)
  case atStart => exact ⟨0, A1, c1, by decide, rfl, rfl, by show Kd.byte.R _ _ _ _ _ _; simpa using HR1.out, HN1.out, hs1⟩
  case round =>
    obtain ⟨t, A', c', ht, rfl, rfl, HR, HC, hsz⟩ := hrel
    by_cases hlt : t < 8
    · have b1 : (0 : Int) ≤ 7 - (t : Int) := by omega
      go_wp2
      go_loopw [10, 11] (fun x i wx => ∃ j : Nat, j ≤ 7 - t ∧ x = .int .u64 ((S / 2 ^ (8 * j) : Nat) : Int) ∧ i = .int .i64 j ∧ wx = wr) (fun _ i _ => 7 - (intOf i).toNat)
      case atStart => exact ⟨0, Nat.zero_le _, by simp, rfl, rfl⟩
      case round =>
        obtain ⟨j, hj, rfl, rfl, rfl⟩ := hrel
        by_cases hjl : j < 7 - t
        · have b2 : (j : Int) < 7 - (t : Int) := by omega
          have HX : Hid ((((S / 2 ^ (8 * j) : Nat) : Int) / 256) = ((S / 2 ^ (8 * (j + 1)) : Nat) : Int)) := by show _ = _; rw [← div_next]; omega
          obtain ⟨X, hX⟩ : ∃ X, S / 2 ^ (8 * j) = X := ⟨_, rfl⟩
          have hXl : X < 18446744073709551616 := by rw [← hX]; exact Nat.lt_of_le_of_lt (Nat.div_le_self _ _) hSl
          rw [hX] at HX ⊢
          clear hX
          go_wp2
          rw [HX.out]
          exact ⟨⟨j + 1, by omega, rfl, by go_num, trivial⟩, by simp [intOf]; omega⟩
        · have b2 : ¬ (j : Int) < 7 - (t : Int) := by omega
          have hjt : j = 7 - t := by omega
          subst hjt
          have HLN : Hid ((bs ++ (beB S).take t).length + 1 = m + (t + 1)) := by show _ = _; rw [List.length_append, HM.out, List.length_take, beB_len]; omega
          have HNX := Lib.hid (beB_next (n := S) hlt)
          obtain ⟨X, hX⟩ : ∃ X, S / 2 ^ (8 * (7 - t)) = X := ⟨_, rfl⟩
          rw [hX] at HNX ⊢
          clear hX
          go_wp2_with (at_builtin; refine wp_app1B rfl _ _ rfl w.heap.size _ (.slice A' (m + t) c') (bs ++ (beB S).take t) (UInt8.ofNat (X % 256)) _ (byte_mod X) rfl rfl HR.out hsz (m + (t + 1)) HLN.out (by omega) ?_)
          intro A5 c5 w5 hR5 hC5 _
          have HR5 : Hid (Kd.byte.R 5 w5 w.heap.size (fun b => w.heap.size ≤ b) (.slice A5 (m + (t + 1)) c5) (bs ++ (beB S).take (t + 1))) := by
            show Kd.byte.R _ _ _ _ _ _
            rw [← HNX.out, ← List.append_assoc]
            have := byte_ge hR5
            simpa only [List.append_assoc] using this
          have HC5 : Hid (Chg nob w w5) := HC.out.trans hC5 (fun i hi => .inr (Kd.R_own HR.out i hi.symm).1)
          have hs5 := hC5.size
          clear hR5 hC5 HR HC
          go_wp2
          exact ⟨⟨t + 1, A5, c5, by omega, rfl, by go_num, HR5, HC5, by omega⟩, by simp [intOf]; omega⟩
    · have ht8 : t = 8 := by omega
      subst ht8
      have HEND : Hid (Tells w (sealed k0 k1 bs) (m + 8) (.returned (.slice A' (m + 8) c')) wr) := by
        obtain ⟨k1', k2', k3'⟩ := Kd.R_read HR.out
        refine ⟨A', c', rfl, ?_, k3', ?_, HC.out⟩
        · rw [sealed, List.length_append, beB_len, HM.out]
        · rw [sealed, HS.out]
          exact k1'
      clear HR HC
      go_wp2
      go_ret
      exact HEND.out
end Go.Proofs.Ytbgnplgdknbmoaa
