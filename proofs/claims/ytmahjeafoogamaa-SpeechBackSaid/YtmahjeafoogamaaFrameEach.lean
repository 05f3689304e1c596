/- Frames: Each: the calls of yield that walk makes. -/
import Derived.Test.YtmahjeafoogamaaFrameAll
import Derived.Test.YtmahjeafoogamaaRange
import Derived.Shelf.Abstract
import Derived.Shelf.RegionOpen
import Derived.WalkKit
import Derived.OwnWalkIn
import Derived.TacticsInMore
import Derived.LoopNIn
import Derived.LoopIn
namespace Go.Proofs.Ytmahjeafoogamaa
open Go.RowKit
set_option linter.unusedVariables false
set_option linter.unusedSimpArgs false
attribute [local go_sem] Oper.semAt_some
/-- What the k-th call of yield is handed. -/
def frM (bs : List UInt8) (B k : Nat) (args : Array Value) (W : World) : Prop :=
  ∃ (l r : List Fr) (f : Fr) (A2 : Option Addr) (T c2 : Nat), (allR bs).1 = l ++ f :: r ∧ l.length = k ∧ f.2.length = T ∧ T ≤ c2 ∧ args = #[.int .i64 (((packB l).length : Nat) : Int), .agg #[.int .u8 f.1.toNat, .slice A2 T c2]] ∧ Kd.byte.C W (fun b => B ≤ b) A2 f.2
theorem readR_next {bs : List UInt8} {l : List Fr} {f : Fr} (h : readR bs (l ++ [f])) : ∃ r, (allR bs).1 = l ++ f :: r := by
  obtain ⟨_, h2⟩ := h
  exact ⟨(allR (bs.drop (packB (l ++ [f])).length)).1, by rw [h2]; simp only [List.append_assoc, List.cons_append, List.nil_append]⟩
set_option maxHeartbeats 2000000 in
theorem f_walkY {W : World} {l : Nat} {J Jx : Nat → World → Prop} {ok : Nat → Prop} {A : Option Addr} {m c : Nat} {bs : List UInt8} (hm : bs.length = m) (hmc : m ≤ c) (hsm : m ≤ 9223372036854775807)
    (hJ : ∀ k X Y, J k X → Chg nob X Y → J k Y) (hJx : ∀ k X Y, Jx k X → Chg nob X Y → Jx k Y) (hKI : ∀ k X, J k X → Kd.byte.C X ok A bs)
    (hY : ∀ k args X0 X, k < (allR bs).1.length → J k X0 → Chg nob X0 X → frM bs X0.heap.size k args X → YieldAt Fence.wide 0 Try.prog l args X fun e Y => (e = .returned (.bool true) ∧ J (k + 1) Y) ∨ (e = .returned (.bool false) ∧ Jx (k + 1) Y))
    (h0 : J 0 W) :
    Calls Try.prog 65 #[.slice A m c, .func (.yield l) #[] #[]] W fun e B => (∃ v, e = .returned v) ∧ (J (allR bs).1.length B ∨ ∃ k, k < (allR bs).1.length ∧ Jx (k + 1) B) := by
  have HM := Lib.hid hm
  have HJ := Lib.hid hJ
  have HJx := Lib.hid hJx
  have HKI := Lib.hid hKI
  have HY := Lib.hid hY
  have HS0 := Lib.hid (readR_start bs)
  have H0 := Lib.hid h0
  clear hm hJ hJx hKI hY h0
  refine (callsIn_wide (n := 0)).1 ?_
  refine callsIn_of_wp Try.func65 rfl trivial ?_ rfl
  simp only [Try.ntmps65, List.size_toArray, List.length_cons, List.length_nil, Nat.reduceAdd, Nat.reduceSub, Array.replicate_succ, Array.replicate_zero, List.push_toArray, List.append_toArray, List.nil_append, List.cons_append]
  gi_wp2
  gi_loopw [6] (fun v wr => ∃ (l : List Fr) (t : Nat), t ≤ m ∧ v = .int .i64 t ∧ Hid (t = (packB l).length) ∧ Hid (readR bs l) ∧ Hid (J l.length wr)) (fun v _ => m - (intOf v).toNat)
  case atStart => exact ⟨[], 0, Nat.zero_le _, rfl, rfl, HS0, H0⟩
  case round =>
    obtain ⟨L, t, ht, rfl, HT, HR, HJk⟩ := hrel
    clear H0 HS0
    by_cases hlt : t < m
    · have b1 : (t : Int) < (m : Int) := by omega
      have b2 : (t : Int) ≤ (m : Int) := by omega
      have b3 : (0 : Int) ≤ (t : Int) := by omega
      have hcn : ¬ c = t := by omega
      have HD := Lib.hid (C_dropB (HKI.out _ _ HJk.out) t c (by rw [HM.out]; omega) (by rw [HM.out]; exact hmc))
      rw [if_neg hcn] at HD
      have HDL : Hid ((bs.drop t).length = m - t) := by show _ = _; rw [List.length_drop, HM.out]
      have HLT : Hid (t < bs.length) := by show _ < _; rw [HM.out]; exact hlt
      have hmc' : m - t ≤ c - t := by omega
      have hsm' : m - t ≤ 9223372036854775807 := by omega
      gi_wp2_with fail
      refine ⟨trivial, rfl, (callsIn_wide.2 (f_take HD.out HDL.out hmc' hsm')).mono ?_⟩
      intro e w2 hT
      by_cases he : takeE (bs.drop t) = 0
      · have HR2 : Hid (readR bs (L ++ [frOf (bs.drop t)])) := by
          have := readR_step HR.out (by rw [← HT.out]; exact HLT.out) (by rw [← HT.out]; exact he)
          rw [← HT.out] at this
          exact this
        obtain ⟨_, hlen, h7, h10, _⟩ := take_back he
        rw [HDL.out] at h7
        obtain ⟨hc2, ⟨hn, _⟩ | ⟨_, A2, c2, rfl, hm2, hC2⟩⟩ := hT
        · exact absurd he hn
        obtain ⟨T, hT2⟩ : ∃ T, told (bs.drop t) = T := ⟨_, rfl⟩
        obtain ⟨F, hF⟩ : ∃ F, frOf (bs.drop t) = F := ⟨_, rfl⟩
        rw [hT2] at h7 hm2 h10 hlen ⊢
        rw [hF] at HR2 hC2 hlen ⊢
        obtain ⟨q0, q1⟩ := row2c (heap_alloc_new w2 (.cells #[.int .u8 F.1.toNat, .slice A2 T c2] 28))
        have hc3 := (Chg.refl nob w2).alloc (.cells #[.int .u8 F.1.toNat, .slice A2 T c2] 28)
        obtain ⟨r, hr⟩ := readR_next HR2.out
        have hkl : L.length < (allR bs).1.length := by rw [hr, List.length_append, List.length_cons]; omega
        have hfm : frM bs wr.heap.size L.length #[.int .i64 (t : Int), .agg #[.int .u8 F.1.toNat, .slice A2 T c2]] (w2.alloc (.cells #[.int .u8 F.1.toNat, .slice A2 T c2] 28)) :=
          ⟨L, r, F, A2, T, c2, hr, rfl, hlen, hm2, by rw [← HT.out], Kd.C_new hC2 hc3⟩
        obtain ⟨fn, tmps, assign, body, hy, hR⟩ := HY.out _ _ _ _ hkl HJk.out (hc2.thenNew hc3) hfm
        have HPT : Hid ((packB (L ++ [F])).length = t + (T + 7)) := by show _ = _; rw [packB_snoc, List.length_append, frameB_len, ← HT.out, hlen]
        have HKL := Lib.hid hkl
        clear hc2 hc3 hC2 he hT2 hF hfm hkl hr hlen
        gi_wp2_with fail
        refine ⟨rfl, hR.mono ?_⟩
        rintro e w3 (⟨rfl, hj⟩ | ⟨rfl, hjx⟩)
        · have HJ4 : Hid (J (L ++ [F]).length w3) := by show J _ _; rw [List.length_append]; exact hj
          have hsum : (t : Int) + ((T + 7 : Nat) : Int) = ((t + (T + 7) : Nat) : Int) := by omega
          have HSUM := Lib.hid hsum
          have hw : (t : Int) + ((T + 7 : Nat) : Int) ≤ 9223372036854775807 := by omega
          clear q0 q1 hsum hj hy
          gi_wp2
          exact ⟨⟨L ++ [F], t + (T + 7), by omega, congrArg (fun x : Int => Value.int .i64 x) (by first | exact HSUM.out | (have := HSUM.out; omega)), HPT.out.symm, HR2, HJ4⟩, by simp [intOf]; omega⟩
        · have HJX := Lib.hid hjx
          clear q0 q1 hjx hy
          gi_wp2
          go_ret2
          exact ⟨⟨_, rfl⟩, .inr ⟨_, HKL.out, HJX.out⟩⟩
      · have HE := readR_err HR.out (by rw [← HT.out]; exact HLT.out) (by rw [← HT.out]; exact he)
        have HE1 := Lib.hid HE.1
        obtain ⟨hc2, rfl⟩ := taken_zero hT he
        have hE0 : ((takeE (bs.drop t) : Int) == 0) = false := by simp; omega
        obtain ⟨E, hE⟩ : ∃ E, takeE (bs.drop t) = E := ⟨_, rfl⟩
        rw [hE] at hE0 ⊢
        have HJ3 := Lib.hid (HJ.out _ _ _ HJk.out (hc2.thenNew ((Chg.refl nob w2).alloc (.cells #[.int .u8 0, .slice none 0 0] 28))))
        clear hc2 hT he hE HE
        gi_wp2
        go_ret2
        exact ⟨⟨_, rfl⟩, .inl (by rw [HE1.out]; exact HJ3.out)⟩
    · have b1 : ¬ (t : Int) < (m : Int) := by omega
      have HE := Lib.hid (readR_end HR.out (by rw [← HT.out, HM.out]; omega)).1
      gi_wp2
      go_ret2
      exact ⟨⟨_, rfl⟩, .inl (by rw [HE.out]; exact HJk.out)⟩
end Go.Proofs.Ytmahjeafoogamaa
