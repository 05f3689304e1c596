/- Messages: the walk of SpeechGets. -/
import Derived.Test.YtmahjeafoogamaaSpeechPuts
import Derived.Test.YtmahjeafoogamaaSpeechRefGet
import Derived.Test.YtmahjeafoogamaaSpeechSame
namespace Go.Proofs.Ytmahjeafoogamaa
open Go.RowKit
set_option linter.unusedVariables false
set_option linter.unusedSimpArgs false
set_option maxRecDepth 100000 in
set_option maxHeartbeats 1000000 in
theorem speechGets_walk {w : World} {A : Option Addr} {m c : Nat} {k : UInt8} {bs : List UInt8} (hb : Kd.byte.C w (fun b => b < w.heap.size) A bs) (hm : bs.length = m) (hm2 : m ≤ 140737488355328) (hmc : m ≤ c) :
    Calls Try.prog 4 #[.agg #[.int .u8 k.toNat, .slice A m c]] w fun e w' => e = .returned (.bool true) ∧ Chg nob w w' := by
  have hc0 := (Chg.refl nob w).alloc (.cells #[.int .u8 k.toNat, .slice A m c] 28)
  have hF := heap_alloc_new w (.cells #[.int .u8 k.toNat, .slice A m c] 28)
  have HC0 := Lib.hid hc0
  have HF := Lib.hid hF
  have HB := Lib.hid (Kd.C_new hb hc0)
  have HM := Lib.hid hm
  obtain ⟨p0, p1⟩ := row2s hF
  clear hc0 hF hb hm
  go_enter Try.func4, Try.ntmps4
  go_wp2_with fail
  refine (s_get HB.out HM.out hm2).mono ?_
  rintro e w2 ⟨B, n, d, rfl, hn, hnd, hu, hc2⟩
  obtain ⟨E, hE⟩ : ∃ E, getE (k.toNat : Int) bs = E := ⟨_, rfl⟩
  obtain ⟨M, hM⟩ : ∃ M, getM (k.toNat : Int) bs = M := ⟨_, rfl⟩
  rw [hE, hM]
  rw [hM] at hu hn
  have HE := Lib.hid hE
  have HMM := Lib.hid hM
  have hc3 := (Chg.refl nob w2).alloc (.cells (msV M B n d) 25)
  have HC2 := Lib.hid (HC0.out.thenNew (hc2.thenNew hc3))
  have HB2 := Lib.hid (Kd.C_new HB.out (hc2.thenNew hc3))
  have HR2 := Lib.hid (heap_alloc_new w2 (.cells (msV M B n d) 25))
  have HU := Lib.hid (Kd.C_new hu hc3)
  have HN := Lib.hid hn
  have q := row2s ((hc2.thenNew hc3).heap HF.out (not_nob _))
  obtain ⟨p2, p3⟩ := q
  clear hE hM hc2 hc3 hu hn p0 p1
  go_wp2_with fail
  refine (r_get HB2.out HM.out hmc).mono ?_
  rintro e w4 ⟨B4, n4, d4, rfl, hn4, hnd4, hu4, hc4⟩
  rw [HE.out, HMM.out]
  rw [HMM.out] at hu4 hn4
  have hc5 := (Chg.refl nob w4).alloc (.cells (msV M B4 n4 d4) 25)
  have HC4 := Lib.hid (HC2.out.thenNew (hc4.thenNew hc5))
  have HR4 := Lib.hid ((hc4.thenNew hc5).heap HR2.out (not_nob _))
  have HS4 := Lib.hid (heap_alloc_new w4 (.cells (msV M B4 n4 d4) 25))
  have HU2 := Lib.hid (Kd.C_new HU.out (hc4.thenNew hc5))
  have HU4 := Lib.hid (Kd.C_new hu4 hc5)
  have HN4 := Lib.hid hn4
  clear hc4 hc5 hu4 hn4 p2 p3
  obtain ⟨kd, sq, fr, tg, rp, us⟩ := M
  obtain ⟨q0, q1, q2, q3, q4, q5⟩ := row6c HR4.out
  obtain ⟨s0, s1, s2, s3, s4, s5⟩ := row6c HS4.out
  go_wp2_with fail
  refine (r_sameM (a := (kd, sq, fr, tg, rp, us)) (b := (kd, sq, fr, tg, rp, us)) HU2.out HU4.out HN.out HN4.out).mono ?_
  rintro e w6 ⟨rfl, hc6⟩
  rw [sameM_refl]
  have HC6 := Lib.hid (HC4.out.thenNew hc6)
  have hEE : ((E : Int) == (E : Int)) = true := by simp
  clear hc6 q0 q1 q2 q3 q4 q5 s0 s1 s2 s3 s4 s5
  go_wp2_with fail
  refine (speech_works _).mono ?_
  rintro e w9 ⟨rfl, hc9⟩
  have hfin := HC6.out.thenNew hc9
  clear hc9
  go_wp2
  go_ret
  exact ⟨rfl, hfin⟩
end Go.Proofs.Ytmahjeafoogamaa
