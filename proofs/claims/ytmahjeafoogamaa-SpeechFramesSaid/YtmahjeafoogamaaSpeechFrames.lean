/- Messages: the walk of SpeechFrames. -/
import Derived.Test.YtmahjeafoogamaaSpeechPuts
import Derived.Test.YtmahjeafoogamaaSpeechLaws
import Derived.Test.YtmahjeafoogamaaFrameSame
namespace Go.Proofs.Ytmahjeafoogamaa
open Go.RowKit
set_option linter.unusedVariables false
set_option linter.unusedSimpArgs false
set_option maxRecDepth 100000 in
set_option maxHeartbeats 1000000 in
theorem speechFrames_walk {w : World} {A : Option Addr} {m c : Nat} {k : UInt8} {bs : List UInt8} (hb : Kd.byte.C w (fun b => b < w.heap.size) A bs) (hm : bs.length = m) (hm2 : m ≤ 140737488355328) (hmc : m ≤ c) :
    Calls Try.prog 5 #[.agg #[.int .u8 k.toNat, .slice A m c]] w fun e w' => e = .returned (.bool true) ∧ Chg nob w w' := by
  have hc0 := (Chg.refl nob w).alloc (.cells #[.int .u8 k.toNat, .slice A m c] 28)
  have hF := heap_alloc_new w (.cells #[.int .u8 k.toNat, .slice A m c] 28)
  have HC0 := Lib.hid hc0
  have HF := Lib.hid hF
  have HB := Lib.hid (Kd.C_new hb hc0)
  have HM := Lib.hid hm
  obtain ⟨p0, p1⟩ := row2s hF
  clear hc0 hF hb hm
  go_enter Try.func5, Try.ntmps5
  go_wp2_with fail
  refine (s_get HB.out HM.out hm2).mono ?_
  rintro e w2 ⟨B, n, d, rfl, hn, hnd, hu, hc2⟩
  obtain ⟨E, hE⟩ : ∃ E, getE (k.toNat : Int) bs = E := ⟨_, rfl⟩
  rw [hE]
  have HE := Lib.hid hE
  have HC2 := Lib.hid (HC0.out.thenNew hc2)
  have HF2 := Lib.hid (hc2.heap HF.out (not_nob _))
  have HB2 := Lib.hid (Kd.C_new HB.out hc2)
  clear hE hc2 p0 p1
  by_cases he : E = 0
  · subst he
    rw [show (((0 : Nat) : Int)) = (0 : Int) from rfl]
    obtain ⟨_, _, g3, g4, g5, g6⟩ := get_put HE.out
    have HU := Lib.hid hu
    have HN := Lib.hid hn
    have HG5 := Lib.hid g5
    have HG3 := Lib.hid g3
    have HG4 := Lib.hid g4
    have HG6 := Lib.hid g6
    obtain ⟨M, hM⟩ : ∃ M, getM (k.toNat : Int) bs = M := ⟨_, rfl⟩
    rw [hM] at HU HN HG3 HG4 HG5 HG6 ⊢
    clear hM hu hn g3 g4 g5 g6 HE
    obtain ⟨kd, sq, fr, tg, rp, us⟩ := M
    have hc3 := (Chg.refl nob w2).alloc (.cells (msV (kd, sq, fr, tg, rp, us) B n d) 25)
    have HC3 := Lib.hid hc3
    obtain ⟨q0, q1, q2, q3, q4, q5⟩ := row6c (heap_alloc_new w2 (.cells (msV (kd, sq, fr, tg, rp, us) B n d) 25))
    clear hc3
    go_wp2_with fail
    refine (s_put (m := (kd, sq, fr, tg, rp, us)) (Kd.C_new HU.out HC3.out) HN.out HG4.out).mono ?_
    rintro e w4 ⟨hc4, ⟨he, _⟩ | ⟨_, A4, n4, c4, rfl, hn4, hnc4, hC4⟩⟩
    · rw [HG3.out] at he; cases he
    rw [HG5.out] at hn4 hC4
    obtain rfl : m = n4 := HM.out.symm.trans hn4
    have hk : kd = (k.toNat : Int) := HG6.out
    have HK := Lib.hid hk
    have HC4 := Lib.hid (HC2.out.thenNew (HC3.out.thenNew hc4))
    have HF4 := Lib.hid ((HC3.out.thenNew hc4).heap HF2.out (not_nob _))
    have HB4 := Lib.hid (Kd.C_new HB2.out (HC3.out.thenNew hc4))
    have HD4 := Lib.hid hC4
    clear hc4 hn4 hC4 hk q0 q1 q2 q3 q4 q5
    dsimp only
    rw [HK.out]
    have ha5 := (Chg.refl nob w4).alloc (.cells #[.int .u8 k.toNat, .slice A4 m c4] 28)
    have HA5 := Lib.hid ha5
    obtain ⟨r0, r1⟩ := row2s (ha5.heap HF4.out (not_nob _))
    obtain ⟨s0, s1⟩ := row2s (heap_alloc_new w4 (.cells #[.int .u8 k.toNat, .slice A4 m c4] 28))
    have hk1 : frK.K (w4.alloc (.cells #[.int .u8 k.toNat, .slice A4 m c4] 28)) (fun _ => True) (k, bs) (#[.int .u8 k.toNat, .slice A m c] : Array Value).toList := frK_mk (Kd.C_mono (Kd.C_new HB4.out ha5) (fun _ _ => trivial)) HM.out hmc
    have hx := boxed 28 hk1
    have hs1 : (w4.alloc (.cells #[.int .u8 k.toNat, .slice A4 m c4] 28)).heap.size = w4.heap.size + 1 := by simp
    rw [hs1] at hx
    have ha6 := (Chg.refl nob (w4.alloc (.cells #[.int .u8 k.toNat, .slice A4 m c4] 28))).alloc (.cells #[.int .u8 k.toNat, .slice A m c] 28)
    have hk2 : frK.K ((w4.alloc (.cells #[.int .u8 k.toNat, .slice A4 m c4] 28)).alloc (.cells #[.int .u8 k.toNat, .slice A m c] 28)) (fun _ => True) (k, bs) (#[.int .u8 k.toNat, .slice A4 m c4] : Array Value).toList := frK_mk (Kd.C_mono (Kd.C_new (Kd.C_new HD4.out ha5) ha6) (fun _ _ => trivial)) HM.out hnc4
    have hy := boxed 28 hk2
    have hs2 : ((w4.alloc (.cells #[.int .u8 k.toNat, .slice A4 m c4] 28)).alloc (.cells #[.int .u8 k.toNat, .slice A m c] 28)).heap.size = w4.heap.size + 1 + 1 := by simp
    rw [hs2] at hy
    have ha7 := (Chg.refl nob ((w4.alloc (.cells #[.int .u8 k.toNat, .slice A4 m c4] 28)).alloc (.cells #[.int .u8 k.toNat, .slice A m c] 28))).alloc (.cells #[.int .u8 k.toNat, .slice A4 m c4] 28)
    have HX := Lib.hid (Kd.C_new hx ha7)
    have HY := Lib.hid hy
    have HC7 := Lib.hid (((HC4.out.thenNew ha5).thenNew ha6).thenNew ha7)
    clear ha5 ha6 ha7 hk1 hk2 hx hy hs1 hs2
    go_wp2_with fail
    refine (fr_same HX.out HY.out rfl rfl).mono ?_
    rintro e w8 ⟨rfl, hc8⟩
    rw [decide_eq_true (rfl : [(k, bs)] = [(k, bs)])]
    have HC8 := Lib.hid (HC7.out.thenNew hc8)
    clear hc8 r0 r1 s0 s1
    go_wp2_with fail
    refine (speech_works _).mono ?_
    rintro e w9 ⟨rfl, hc9⟩
    have hfin := HC8.out.thenNew hc9
    clear hc9
    go_wp2
    go_ret
    exact ⟨rfl, hfin⟩
  · have hE0 : ((E : Int) == 0) = false := by simp; omega
    go_wp2_with fail
    refine (speech_works _).mono ?_
    rintro e w9 ⟨rfl, hc9⟩
    have hfin := (HC2.out.thenNew ((Chg.refl nob w2).alloc (.cells (msV (getM (k.toNat : Int) bs) B n d) 25))).thenNew hc9
    clear hc9
    go_wp2
    go_ret
    exact ⟨rfl, hfin⟩
end Go.Proofs.Ytmahjeafoogamaa
