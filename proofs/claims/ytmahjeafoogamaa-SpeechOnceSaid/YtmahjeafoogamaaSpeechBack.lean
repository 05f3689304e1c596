/- Messages: the walks of SpeechBack, SpeechOnce, SpeechPackets. -/
import Derived.Test.YtmahjeafoogamaaSpeechAll
namespace Go.Proofs.Ytmahjeafoogamaa
open Go.RowKit
set_option linter.unusedVariables false
set_option linter.unusedSimpArgs false
set_option maxRecDepth 100000 in
set_option maxHeartbeats 1000000 in
theorem speechBack_walk {w : World} {A : Option Addr} {n c : Nat} {l : List Ms} (hl : msK.C w (fun b => b < w.heap.size) A l) (hn : l.length = n) (hw : ∀ m ∈ l, wfM m) (hbig : n ≤ 2199023255552) :
    Calls Try.prog 7 #[.slice A n c] w fun e w' => e = .returned (.bool true) ∧ Chg nob w w' := by
  have HL := Lib.hid hl
  have HN := Lib.hid hn
  have HW := Lib.hid hw
  clear hl hn hw
  go_enter Try.func7, Try.ntmps7
  go_wp2_with fail
  refine (s_pack HL.out HN.out HW.out hbig).mono ?_
  rintro e w2 ⟨hc2, ⟨he, rfl⟩ | ⟨he, A2, n2, c2, rfl, hn2, hc22, hC2⟩⟩
  · have hE0 : ((packSE l : Int) == 0) = false := by simp; omega
    have HC2 := Lib.hid hc2
    obtain ⟨E, hE⟩ : ∃ E, packSE l = E := ⟨_, rfl⟩
    rw [hE] at hE0 ⊢
    clear hc2 he hE
    go_wp2_with fail
    refine (speech_works _).mono ?_
    rintro e w9 ⟨rfl, hc9⟩
    have hfin := HC2.out.thenNew hc9
    clear hc9
    go_wp2
    go_ret
    exact ⟨rfl, hfin⟩
  · obtain ⟨hp, hq⟩ := sback he HW.out
    have HC2 := Lib.hid hc2
    have HC := Lib.hid (Kd.C_mono (Kd.C_bound hC2) (ok' := fun b => b < w2.heap.size) (fun b hb => hb.2))
    have HN2 := Lib.hid hn2
    have HQ := Lib.hid hq
    have HP := Lib.hid hp
    clear hc2 he hn2 hC2 hp hq
    go_wp2_with fail
    refine (s_unpack HC.out HN2.out hc22).mono ?_
    rintro e w3 ⟨L, n3, c3, rfl, hn3, hc33, hC3, hc3⟩
    rw [HP.out]
    rw [HQ.out] at hn3 hC3
    obtain rfl : n3 = n := by rw [← hn3]; exact HN.out
    have HC3 := Lib.hid (HC2.out.thenNew hc3)
    have HL3 := Lib.hid hC3
    clear hc3 hn3 hC3
    go_wp2_with fail
    refine (r_all13 (Kd.C_new HL.out HC3.out) HL3.out HN.out).mono ?_
    rintro e w4 ⟨rfl, hc4⟩
    have HC4 := Lib.hid (HC3.out.thenNew hc4)
    clear hc4
    go_wp2_with fail
    refine (speech_works _).mono ?_
    rintro e w9 ⟨rfl, hc9⟩
    have hfin := HC4.out.thenNew hc9
    clear hc9
    go_wp2
    go_ret
    exact ⟨rfl, hfin⟩
theorem unpSL_len {bs : List UInt8} : (unpSL bs).length ≤ 32 := by
  unfold unpSL
  split
  · rename_i h
    unfold unpSE at h
    by_cases h1 : unpE bs = 0
    · rw [List.length_map]; exact (unpE_zero h1).2.2.2
    · rw [if_pos h1] at h; exact absurd h h1
  · simp
set_option maxRecDepth 100000 in
set_option maxHeartbeats 1000000 in
theorem speechOnce_walk {w : World} {A : Option Addr} {m c : Nat} {bs : List UInt8} (hb : Kd.byte.C w (fun b => b < w.heap.size) A bs) (hm : bs.length = m) (hmc : m ≤ c) :
    Calls Try.prog 8 #[.slice A m c] w fun e w' => e = .returned (.bool true) ∧ Chg nob w w' := by
  have HB := Lib.hid hb
  have HM := Lib.hid hm
  clear hb hm
  go_enter Try.func8, Try.ntmps8
  go_wp2_with fail
  refine (s_unpack HB.out HM.out hmc).mono ?_
  rintro e w2 ⟨L, n, cl, rfl, hn, hcl, hC, hc2⟩
  have HC2 := Lib.hid hc2
  by_cases he : unpSE bs = 0
  · obtain ⟨hp, hq, hwf⟩ := sonce he
    rw [he]
    have hlen := unpSL_len (bs := bs)
    rw [hn] at hlen
    have HC := Lib.hid (Kd.C_mono (Kd.C_bound hC) (ok' := fun b => b < w2.heap.size) (fun b hb => hb.2))
    have HN := Lib.hid hn
    have HP := Lib.hid hp
    have HQ := Lib.hid hq
    have HWF := Lib.hid hwf
    clear hc2 he hn hC hp hq hwf
    go_wp2_with fail
    refine (s_pack HC.out HN.out HWF.out (by omega)).mono ?_
    rintro e w3 ⟨hc3, ⟨he, rfl⟩ | ⟨he, A2, n2, c2, rfl, hn2, hc22, hC3⟩⟩
    · exact absurd HP.out he
    rw [HQ.out] at hn2 hC3
    have hcv := conv_any hC3 hn2 c2
    have hcv2 := conv_any (Kd.C_new HB.out (HC2.out.thenNew hc3)) HM.out c
    have HC3 := Lib.hid (HC2.out.thenNew hc3)
    clear hc3 he hn2 hC3
    go_wp2_with fail
    refine (speech_works _).mono ?_
    rintro e w9 ⟨rfl, hc9⟩
    have hfin := HC3.out.thenNew hc9
    clear hc9
    go_wp2
    go_ret
    exact ⟨rfl, hfin⟩
  · have hn0 : n = 0 := by rw [← hn, unpSL, if_neg he]; rfl
    subst hn0
    have hE0 : ((unpSE bs : Int) == 0) = false := by simp; omega
    obtain ⟨E, hE⟩ : ∃ E, unpSE bs = E := ⟨_, rfl⟩
    rw [hE] at hE0 ⊢
    clear hc2 he hE hn hC
    go_wp2_with fail
    refine (speech_works _).mono ?_
    rintro e w9 ⟨rfl, hc9⟩
    have hfin := HC2.out.thenNew hc9
    clear hc9
    go_wp2
    go_ret
    exact ⟨rfl, hfin⟩
/-- What both Packs tell. -/
theorem packs_tell {wa wb : World} {l : List Ms} {e : Ending} (h : SPacks wa l e wb) : ∃ P p q X, e = .returned (.tuple #[.slice P p q, .int .i64 (packSE l)]) ∧ X = (if packSE l = 0 then packB (l.map msFr) else []) ∧ X.length = p ∧ Kd.byte.C wb (fun _ => True) P X ∧ Chg nob wa wb := by
  obtain ⟨hc, ⟨he, rfl⟩ | ⟨he, A2, n2, c2, rfl, hn2, hc22, hC2⟩⟩ := h
  · exact ⟨none, 0, 0, [], rfl, by rw [if_neg he], rfl, Kd.C_nil _ _ _ _, hc⟩
  · exact ⟨A2, n2, c2, _, by rw [he]; rfl, by rw [if_pos he], hn2, Kd.C_mono hC2 (fun _ _ => trivial), hc⟩
set_option maxRecDepth 100000 in
set_option maxHeartbeats 1000000 in
theorem speechPackets_walk {w : World} {A B : Option Addr} {n c m d : Nat} {l : List Ms} {bs : List UInt8} (hl : msK.C w (fun b => b < w.heap.size) A l) (hn : l.length = n) (hw : ∀ m ∈ l, wfM m) (hbig : n ≤ 2199023255552) (hb : Kd.byte.C w (fun b => b < w.heap.size) B bs) (hm : bs.length = m) (hmd : m ≤ d) :
    Calls Try.prog 6 #[.slice A n c, .slice B m d] w fun e w' => e = .returned (.bool true) ∧ Chg nob w w' := by
  have HL := Lib.hid hl
  have HN := Lib.hid hn
  have HW := Lib.hid hw
  have HB := Lib.hid hb
  have HM := Lib.hid hm
  clear hl hn hw hb hm
  go_enter Try.func6, Try.ntmps6
  go_wp2_with fail
  refine (s_pack HL.out HN.out HW.out hbig).mono ?_
  intro e w2 hp
  obtain ⟨P1, p1, q1, X, rfl, hX, hx1, hC1, hc2⟩ := packs_tell hp
  obtain ⟨E, hE⟩ : ∃ E, packSE l = E := ⟨_, rfl⟩
  rw [hE]
  have HE := Lib.hid hE
  have HXX := Lib.hid hX
  have HX1 := Lib.hid hx1
  have HC1 := Lib.hid hC1
  have HC2 := Lib.hid hc2
  clear hp hE hX hx1 hC1 hc2
  go_wp2_with fail
  refine (r_pack13 (Kd.C_mono (Kd.C_new HL.out HC2.out) (fun b hb => Nat.lt_of_lt_of_le hb HC2.out.size)) HN.out HW.out hbig).mono ?_
  intro e w3 hp
  obtain ⟨P2, p2, q2, Y, rfl, hY, hy1, hC3, hc3⟩ := packs_tell hp
  rw [HE.out]
  obtain rfl : Y = X := by rw [hY, HXX.out]
  have HY1 := Lib.hid hy1
  have HC3 := Lib.hid hC3
  have HC1b := Lib.hid (Kd.C_new HC1.out hc3)
  have HD3 := Lib.hid (HC2.out.thenNew hc3)
  clear hp hY hy1 hC3 hc3
  go_wp2_with fail
  refine (s_unpack (Kd.C_mono (Kd.C_new HB.out HD3.out) (fun b hb => Nat.lt_of_lt_of_le hb HD3.out.size)) HM.out hmd).mono ?_
  rintro e w4 ⟨L4, n4, c4, rfl, hn4, hc44, hC4, hc4⟩
  obtain ⟨U, hU⟩ : ∃ U, unpSE bs = U := ⟨_, rfl⟩
  rw [hU]
  have HU := Lib.hid hU
  have HN4 := Lib.hid hn4
  have HC4 := Lib.hid hC4
  have HD4 := Lib.hid (HD3.out.thenNew hc4)
  have HC1c := Lib.hid (Kd.C_new HC1b.out hc4)
  have HC3c := Lib.hid (Kd.C_new HC3.out hc4)
  clear hU hn4 hC4 hc4
  go_wp2_with fail
  refine (r_unpack13 (Kd.C_mono (Kd.C_new HB.out HD4.out) (fun b hb => Nat.lt_of_lt_of_le hb HD4.out.size)) HM.out hmd).mono ?_
  rintro e w5 ⟨L5, n5, c5, rfl, hn5, hc55, hC5, hc5⟩
  rw [HU.out]
  obtain rfl : n5 = n4 := by rw [← hn5]; exact HN4.out
  have HC5 := Lib.hid hC5
  have HD5 := Lib.hid (HD4.out.thenNew hc5)
  have HC4b := Lib.hid (Kd.C_new HC4.out hc5)
  have hcv := conv_any (Kd.C_new HC1c.out hc5) HX1.out q1
  have hcv2 := conv_any (Kd.C_new HC3c.out hc5) HY1.out q2
  have hEE : ((E : Int) == (E : Int)) = true := by simp
  have hUU : ((U : Int) == (U : Int)) = true := by simp
  clear hn5 hC5 hc5
  go_wp2_with fail
  refine (r_all13 HC4b.out HC5.out HN4.out).mono ?_
  rintro e w6 ⟨rfl, hc6⟩
  have HD6 := Lib.hid (HD5.out.thenNew hc6)
  clear hc6
  go_wp2_with fail
  refine (speech_works _).mono ?_
  rintro e w9 ⟨rfl, hc9⟩
  have hfin := HD6.out.thenNew hc9
  clear hc9
  go_wp2
  go_ret
  exact ⟨rfl, hfin⟩
end Go.Proofs.Ytmahjeafoogamaa
