import Derived.Test.YtcibdcahcpcmaaaFold20
/- The seal: what a call of Sum does. -/
namespace Go.Proofs.Ytcibdcahcpcmaaa
open Go.RowKit
set_option maxRecDepth 100000
set_option linter.unusedVariables false
set_option linter.unusedSimpArgs false
def sliceLen : Value → Nat
  | .slice _ n _ => n
  | _ => 0
theorem last_or (bs : List UInt8) {m j : Nat} (hm : bs.length = m) (hj : j = bs.length / 8) : bits .or .u64 ((leW (bs.drop (8 * j)) : Nat) : Int) (IntKind.u64.wrap ((m : Int) * 72057594037927936)) = ((lastW bs : Nat) : Int) := by
  subst hm hj
  have h := leW_lt (bs.drop (8 * (bs.length / 8)))
  have h2 : 256 ^ (bs.drop (8 * (bs.length / 8))).length ≤ 256 ^ 7 := Nat.pow_le_pow_right (by decide) (by rw [List.length_drop]; omega)
  rw [show (256 : Nat) ^ 7 = 2 ^ 56 from rfl] at h2
  have h3 := Nat.lt_of_lt_of_le h h2
  have e1 : IntKind.u64.wrap ((bs.length : Int) * 72057594037927936) = ((bs.length % 256 * 2 ^ 56 : Nat) : Int) := by
    rw [show (bs.length : Int) * 72057594037927936 = ((bs.length * 72057594037927936 : Nat) : Int) from by simp, wrap_u64]
    have : bs.length * 72057594037927936 % 18446744073709551616 = bs.length % 256 * 2 ^ 56 := by
      rw [show (18446744073709551616 : Nat) = 256 * 72057594037927936 from rfl, Nat.mul_mod_mul_right]
    rw [this]
  have h4 := lastW_lt bs
  unfold lastW at h4
  rw [e1, bits_or_u64_nat _ _ (by omega) (by omega), or_shift h3, lastW, Nat.mul_comm (2 ^ 56)]
set_option maxHeartbeats 1000000 in
theorem s_sum {w : World} {k0 k1 : Nat} (h0 : k0 < 18446744073709551616) (h1 : k1 < 18446744073709551616) {ok : Nat → Prop} {A : Option Addr} {m c : Nat} {bs : List UInt8} (hb : Kd.byte.C w ok A bs) (hok : ∀ b, ok b → b < w.heap.size) (hm : bs.length = m) (hmc : m ≤ c) :
    Calls Try.prog 62 #[.agg #[.int .u64 k0, .int .u64 k1], .slice A m c] w fun e w' => e = .returned (.int .u64 (sumN k0 k1 bs)) ∧ Chg nob w w' := by
  have hsm := hb.small
  rw [hm] at hsm
  have HB := Lib.hid hb
  have HM := Lib.hid hm
  have HOK := Lib.hid hok
  clear hb hm hok
  go_enter Try.func62, Try.ntmps62
  go_wp2_with fail
  refine (s_start h0 h1).mono ?_
  rintro e w2 ⟨rfl, hc2⟩
  have hB2 : Kd.byte.C w2 ok A bs := Kd.C_new HB.out (((Chg.refl _ _).alloc _).thenNew hc2)
  have hn2 : Chg nob w w2 := ((Chg.refl _ _).alloc _).thenNew hc2
  have hs2 := hn2.size
  have h4 : FourAt (w2.alloc (.cells (fourV (startV k0 k1)) 145)) w2.heap.size (startV k0 k1) := ⟨heap_alloc_new _ _, startV_small h0 h1⟩
  unfold fourV at h4 ⊢
  go_wp2
  generalize hg : w2.heap.size = g at h4 hs2 ⊢
  have hc3 : Chg nob w2 (w2.alloc (.cells #[.int .u64 (startV k0 k1).1, .int .u64 (startV k0 k1).2.1, .int .u64 (startV k0 k1).2.2.1, .int .u64 (startV k0 k1).2.2.2] 145)) := (Chg.refl _ _).alloc _
  have hB3 := Kd.C_new hB2 hc3
  have hn3 := hn2.thenNew hc3
  generalize w2.alloc (.cells #[.int .u64 (startV k0 k1).1, .int .u64 (startV k0 k1).2.1, .int .u64 (startV k0 k1).2.2.1, .int .u64 (startV k0 k1).2.2.2] 145) = w3 at h4 hc3 hB3 hn3 ⊢
  have HB3 := Lib.hid hB3
  have HN3 := Lib.hid hn3
  clear hB2 hB3 hn2 hn3 hc2 hc3 HB
  go_loopw [6] (fun v wr => ∃ (j : Nat) (A' : Option Addr) (c' q : Nat), v = .slice A' q c' ∧ q + 8 * j = m ∧ q ≤ c' ∧ Kd.byte.C wr ok A' (bs.drop (8 * j)) ∧ FourAt wr g (absorb bs (startV k0 k1) j) ∧ Chg (fun b => b = g) w3 wr) (fun v _ => sliceLen v)
  case atStart => exact ⟨0, A, c, m, rfl, rfl, hmc, HB3.out, h4, Chg.refl _ _⟩
  case round =>
    obtain ⟨j, A', c', q, rfl, hq, hqc, hC, hf, hc⟩ := hrel
    have hdl : (bs.drop (8 * j)).length = q := by rw [List.length_drop, HM.out]; omega
    by_cases hlt : 8 ≤ q
    · have b1 : (8 : Int) ≤ (q : Int) := by omega
      obtain ⟨x0, hx0⟩ : ∃ x, (bs.drop (8 * j))[0]? = some x := ⟨_, List.getElem?_eq_getElem (by rw [hdl]; omega)⟩
      obtain ⟨ab, ao, _, rfl, _, _, _⟩ := Kd.C_at' hC hx0
      clear hx0
      have HT := Lib.hid (Kd.C_take hC 8 (by rw [hdl]; exact hlt))
      have HTL : Hid (((bs.drop (8 * j)).take 8).length = 8) := by show _ = _; rw [List.length_take, hdl]; omega
      have HD := Lib.hid (C_dropB hC 8 c' (by rw [hdl]; exact hlt) (by rw [hdl]; exact hqc))
      have HF := Lib.hid hf
      have HC := Lib.hid hc
      clear hdl hC hf hc
      go_wp2_with fail
      refine (s_word HT.out HTL.out (by decide)).mono ?_
      rintro e w5 ⟨rfl, rfl⟩
      rw [show leW ((bs.drop (8 * j)).take 8) = wordAt bs j from rfl]
      go_wp2_with fail
      refine (s_take HF.out _ (wordAt_lt bs j)).mono ?_
      rintro e w6 ⟨rfl, hf6, hc6⟩
      have HF6 : Hid (FourAt w6 g (absorb bs (startV k0 k1) (j + 1))) := hf6
      have HC6 := Lib.hid (HC.out.trans hc6 (fun i hi => .inl hi))
      have HD6 := Lib.hid (Kd.C_chg HD.out hc6 (fun b hb e => by have := HOK.out b hb; omega))
      rw [List.drop_drop, show 8 * j + 8 = 8 * (j + 1) from by omega] at HD6
      clear hf6 hc6 HF HC HD HT HTL
      go_wp2
      exact ⟨⟨j + 1, _, _, _, rfl, by omega, by omega, HD6.out, HF6.out, HC6.out⟩, by simp [sliceLen]; omega⟩
    · have b1 : ¬ (8 : Int) ≤ (q : Int) := by omega
      have hj : j = bs.length / 8 := by rw [HM.out]; omega
      have HW := Lib.hid hC
      have HWL := Lib.hid hdl
      have HF := Lib.hid hf
      have HC := Lib.hid hc
      have HJ := Lib.hid hj
      clear hdl hC hf hc hj h4
      go_wp2_with fail
      refine (s_word HW.out HWL.out (by omega)).mono ?_
      rintro e w5 ⟨rfl, rfl⟩
      go_wp2_with fail
      rw [last_or bs HM.out HJ.out]
      refine (s_take HF.out _ (lastW_lt bs)).mono ?_
      rintro e w6 ⟨rfl, hf6, hc6⟩
      have hc7 := HC.out.trans hc6 (fun i hi => .inl hi)
      obtain ⟨v, hv⟩ : ∃ v, takeV (absorb bs (startV k0 k1) j) (lastW bs) = v := ⟨_, rfl⟩
      rw [hv] at hf6
      have HS : Hid (sumN k0 k1 bs = endV v) := by show _ = _; rw [sumN, ← HJ.out, hv]
      have HE : Hid (bits .xor .u64 (v.2.2.1 : Int) 255 = ((v.2.2.1 ^^^ 255 : Nat) : Int)) := xor_u64 hf6.s.2.2.1 (by decide)
      have HX : Hid (v.2.2.1 ^^^ 255 < 18446744073709551616) := xor_lt64 hf6.s.2.2.1 (by decide)
      obtain ⟨_, _, d2, _⟩ := hf6.cells
      have f2 := hf6.loose 2
      have HF6 := Lib.hid hf6
      have HC7 := Lib.hid hc7
      clear hf6 hc6 hc7 hv HF HC HW HWL
      go_wp2_with fail
      rw [HE.out]
      have h8 := HF6.out.set2 HX.out
      have hc8 := HC7.out.set1 2 (.int .u64 ((v.2.2.1 ^^^ 255 : Nat) : Int))
      generalize w6.setCell ⟨g, 2, none⟩ (.int .u64 ((v.2.2.1 ^^^ 255 : Nat) : Int)) = w8 at h8 hc8 ⊢
      clear d2 f2 HF6 HC7
      refine (s_rounds h8 4 (by decide)).mono ?_
      rintro e w9 ⟨rfl, h9, hc9⟩
      have hc10 := hc8.trans hc9 (fun i hi => .inl hi)
      obtain ⟨r, hr⟩ : ∃ r, roundsV 4 (v.1, v.2.1, v.2.2.1 ^^^ 255, v.2.2.2) = r := ⟨_, rfl⟩
      rw [hr] at h9
      have HR : Hid (sumN k0 k1 bs = r.1 ^^^ r.2.1 ^^^ r.2.2.1 ^^^ r.2.2.2) := by show _ = _; rw [HS.out, ← hr]; rfl
      obtain ⟨c0, c1, c2, c3⟩ := h9.cells
      obtain ⟨s1, s2, s3, s4⟩ := h9.s
      have HX : Hid (bits .xor .u64 (bits .xor .u64 (bits .xor .u64 (r.1 : Int) (r.2.1 : Int)) (r.2.2.1 : Int)) (r.2.2.2 : Int) = ((r.1 ^^^ r.2.1 ^^^ r.2.2.1 ^^^ r.2.2.2 : Nat) : Int)) := by
        show _ = _
        rw [xor_u64 s1 s2, xor_u64 (xor_lt64 s1 s2) s3, xor_u64 (xor_lt64 (xor_lt64 s1 s2) s3) s4]
      have HN : Hid (Chg nob w w9) := HN3.out.trans hc10 (fun i hi => .inr (by omega))
      clear h8 hc8 h9 hc9 hc10 hr s1 s2 s3 s4
      go_wp2
      go_ret
      rw [HR.out]
      exact ⟨by rw [← HX.out]; rfl, HN.out⟩
end Go.Proofs.Ytcibdcahcpcmaaa
