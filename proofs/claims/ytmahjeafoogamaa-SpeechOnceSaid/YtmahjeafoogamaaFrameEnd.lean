/- Frames: what a call of walk does where nothing is done with the frames; End; the reference's All. -/
import Derived.Test.YtmahjeafoogamaaFrameWorks
namespace Go.Proofs.Ytmahjeafoogamaa
open Go.RowKit
set_option linter.unusedVariables false
set_option linter.unusedSimpArgs false
theorem f_yes {w : World} (v : Int) (k : UInt8) (B : Value) : Calls Try.prog 66 #[.int .i64 v, .agg #[.int .u8 k.toNat, B]] w fun e w' => e = .returned (.bool true) ∧ Chg nob w w' := by
  have HC := Lib.hid ((Chg.refl nob w).alloc (.cells #[.int .u8 k.toNat, B] 28))
  go_enter Try.func66, Try.ntmps66
  go_wp2
  go_ret
  exact ⟨rfl, HC.out⟩
/-- Behind t bytes that are frames. -/
def behindR (bs : List UInt8) (t : Nat) : Prop := (allR bs).2.1 = t + (allR (bs.drop t)).2.1 ∧ (allR bs).2.2 = (allR (bs.drop t)).2.2
theorem behindR_start (bs : List UInt8) : behindR bs 0 := ⟨by rw [List.drop_zero, Nat.zero_add], by rw [List.drop_zero]⟩
theorem behindR_end {bs : List UInt8} {t : Nat} (h : behindR bs t) (ht : t = bs.length) : (allR bs).2.1 = t ∧ (allR bs).2.2 = 0 := by
  have e : bs.drop t = [] := List.drop_of_length_le (by omega)
  obtain ⟨h1, h2⟩ := h
  rw [e, allR_nil] at h1 h2
  exact ⟨h1, h2⟩
theorem behindR_err {bs : List UInt8} {t : Nat} (h : behindR bs t) (ht : t < bs.length) (he : takeE (bs.drop t) ≠ 0) : (allR bs).2.1 = t ∧ (allR bs).2.2 = takeE (bs.drop t) := by
  obtain ⟨h1, h2⟩ := h
  rw [allR_err (by rw [List.length_drop]; omega) he] at h1 h2
  exact ⟨h1, h2⟩
theorem behindR_step {bs : List UInt8} {t : Nat} (h : behindR bs t) (ht : t < bs.length) (he : takeE (bs.drop t) = 0) : behindR bs (t + (told (bs.drop t) + 7)) := by
  obtain ⟨h1, h2⟩ := h
  rw [allR_step (by rw [List.length_drop]; omega) he] at h1 h2
  rw [List.drop_drop] at h1 h2
  exact ⟨h1.trans (Nat.add_assoc _ _ _).symm, h2⟩
set_option maxHeartbeats 2000000 in
theorem f_walk {w : World} {ok : Nat → Prop} {A : Option Addr} {m c : Nat} {bs : List UInt8} (hb : Kd.byte.C w ok A bs) (hm : bs.length = m) (hmc : m ≤ c) :
    Calls Try.prog 65 #[.slice A m c, .func (.func 66) #[] #[]] w fun e w' => e = .returned (.tuple #[.int .i64 (((allR bs).2.1 : Nat) : Int), .int .i64 (((allR bs).2.2 : Nat) : Int)]) ∧ Chg nob w w' := by
  have hsm := hb.small
  rw [hm] at hsm
  have HB := Lib.hid hb
  have HM := Lib.hid hm
  have HS0 := Lib.hid (behindR_start bs)
  clear hb hm
  go_enter Try.func65, Try.ntmps65
  go_wp2
  go_loopw [6] (fun v wr => ∃ t : Nat, t ≤ m ∧ v = .int .i64 t ∧ Hid (behindR bs t) ∧ Hid (Chg nob w wr)) (fun v _ => m - (intOf v).toNat)
  case atStart => exact ⟨0, Nat.zero_le _, rfl, HS0, Chg.refl _ _⟩
  case round =>
    obtain ⟨t, ht, rfl, HBR, HC⟩ := hrel
    by_cases hlt : t < m
    · have b1 : (t : Int) < (m : Int) := by omega
      have b2 : (t : Int) ≤ (m : Int) := by omega
      have b3 : (0 : Int) ≤ (t : Int) := by omega
      have hcn : ¬ c = t := by omega
      have HD := Lib.hid (C_dropB (Kd.C_new HB.out HC.out) t c (by rw [HM.out]; omega) (by rw [HM.out]; exact hmc))
      rw [if_neg hcn] at HD
      have HDL : Hid ((bs.drop t).length = m - t) := by show _ = _; rw [List.length_drop, HM.out]
      have HLT : Hid (t < bs.length) := by show _ < _; rw [HM.out]; exact hlt
      have hmc' : m - t ≤ c - t := by omega
      have hsm' : m - t ≤ 9223372036854775807 := by omega
      go_wp2_with fail
      refine (f_take HD.out HDL.out hmc' hsm').mono ?_
      intro e w2 hT
      by_cases he : takeE (bs.drop t) = 0
      · have HBR2 := Lib.hid (behindR_step HBR.out HLT.out he)
        obtain ⟨_, _, h7, h10, _⟩ := take_back he
        rw [HDL.out] at h7
        obtain ⟨hc2, ⟨hn, _⟩ | ⟨_, A2, c2, rfl, hm2, hC2⟩⟩ := hT
        · exact absurd he hn
        obtain ⟨T, hT2⟩ : ∃ T, told (bs.drop t) = T := ⟨_, rfl⟩
        obtain ⟨F, hF⟩ : ∃ F, frOf (bs.drop t) = F := ⟨_, rfl⟩
        rw [hT2] at HBR2 h7 hm2 h10 ⊢
        rw [hF]
        obtain ⟨q0, q1⟩ := row2c (heap_alloc_new w2 (.cells #[.int .u8 F.1.toNat, .slice A2 T c2] 28))
        have HC3 := Lib.hid ((HC.out.thenNew hc2).alloc (.cells #[.int .u8 F.1.toNat, .slice A2 T c2] 28))
        clear hc2 hC2 he hT2 hF
        go_wp2_with fail
        refine (f_yes _ _ _).mono ?_
        rintro e w3 ⟨rfl, hc3⟩
        have HC4 := Lib.hid (HC3.out.thenNew hc3)
        have hsum : (t : Int) + ((T + 7 : Nat) : Int) = ((t + (T + 7) : Nat) : Int) := by omega
        have HSUM := Lib.hid hsum
        have hw : (t : Int) + ((T + 7 : Nat) : Int) ≤ 9223372036854775807 := by omega
        clear hc3 q0 q1 hsum
        go_wp2
        exact ⟨⟨t + (T + 7), by omega, congrArg (fun x : Int => Value.int .i64 x) (by first | exact HSUM.out | (have := HSUM.out; omega)), HBR2, HC4⟩, by simp [intOf]; omega⟩
      · have HE := Lib.hid (behindR_err HBR.out HLT.out he)
        obtain ⟨hc2, rfl⟩ := taken_zero hT he
        have hE0 : ((takeE (bs.drop t) : Int) == 0) = false := by simp; omega
        obtain ⟨E, hE⟩ : ∃ E, takeE (bs.drop t) = E := ⟨_, rfl⟩
        rw [hE] at HE hE0 ⊢
        have HC3 := Lib.hid ((HC.out.thenNew hc2).alloc (.cells #[.int .u8 0, .slice none 0 0] 28))
        clear hc2 hT he hE
        go_wp2
        go_ret2
        rw [HE.out.1, HE.out.2]
        exact ⟨rfl, HC3.out⟩
    · have b1 : ¬ (t : Int) < (m : Int) := by omega
      have HE := Lib.hid (behindR_end HBR.out (by rw [HM.out]; omega))
      go_wp2
      go_ret2
      rw [HE.out.1, HE.out.2]
      exact ⟨rfl, HC.out⟩
theorem f_end {w : World} {ok : Nat → Prop} {A : Option Addr} {m c : Nat} {bs : List UInt8} (hb : Kd.byte.C w ok A bs) (hm : bs.length = m) (hmc : m ≤ c) :
    Calls Try.prog 56 #[.slice A m c] w fun e w' => e = .returned (.tuple #[.int .i64 (((allR bs).2.1 : Nat) : Int), .int .i64 (((allR bs).2.2 : Nat) : Int)]) ∧ Chg nob w w' := by
  have HB := Lib.hid hb
  have HM := Lib.hid hm
  clear hb hm
  go_enter Try.func56, Try.ntmps56
  go_wp2_with fail
  refine (f_walk HB.out HM.out hmc).mono ?_
  rintro e w2 ⟨rfl, hc2⟩
  go_wp2
  go_ret2
  exact ⟨rfl, hc2⟩
end Go.Proofs.Ytmahjeafoogamaa
