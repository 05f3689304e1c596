/- Frames: the walk of FrameSpoilt. -/
import Derived.Test.YtfaiehhmpmbcjaaFrameTurned
import Derived.Test.YtfaiehhmpmbcjaaFrameRow
import Derived.Outline
namespace Go.Proofs.Ytfaiehhmpmbcjaa
open Go.RowKit
set_option linter.unusedVariables false
set_option linter.unusedSimpArgs false
/-- What is told of a frame that was spoilt, but not in its number. -/
theorem spoilt_take {f : Fr} (he : errF f = 0) {fr mask i : Nat} (h : fr + i ≤ 8 * (frameB f).length) (hi : i ≤ 32) (h1 : (turns (frameB f) fr mask i).1[1]? = (frameB f)[1]?) (h2 : (turns (frameB f) fr mask i).1[2]? = (frameB f)[2]?) (ha : (turns (frameB f) fr mask i).2 = true) :
    takeE (turns (frameB f) fr mask i).1 = if (turns (frameB f) fr mask i).1[0]?.getD 0 = 0 then 31 else 32 := by
  obtain ⟨t1, t2, t3⟩ := take_frame he []
  rw [List.append_nil] at t1 t2 t3
  obtain ⟨_, _, b3, b4, _⟩ := take_back t1
  have hl := turns_len (frameB f) fr mask i
  have ht : told (turns (frameB f) fr mask i).1 = told (frameB f) := by unfold told; rw [h1, h2]
  have hfl := frameB_len f
  have hns := spoilt (l := frameB f) (fr := fr) (mask := mask) (i := i) (by omega) (sealB_sealed _) h hi ha
  unfold takeE
  rw [hl, ht, if_neg (by omega)]
  split
  · rfl
  · rw [if_neg (by omega), if_neg (by omega), t3, List.take_of_length_le (by omega), if_neg hns]
theorem spoilt_none {f : Fr} (he : errF f = 0) {fr mask i : Nat} (ha : (turns (frameB f) fr mask i).2 = false) : takeE (turns (frameB f) fr mask i).1 = 0 ∧ told (turns (frameB f) fr mask i).1 = f.2.length := by
  obtain ⟨t1, _, t3⟩ := take_frame he []
  rw [List.append_nil] at t1 t3
  rw [turns_none _ _ _ _ ha]
  exact ⟨t1, t3⟩
set_option maxRecDepth 100000 in
set_option maxHeartbeats 4000000 in
theorem frameSpoilt_walk {w : World} {B : Option Addr} {m d : Nat} {body : List UInt8} {k : UInt8} (hb : Kd.byte.C w (fun b => b < w.heap.size) B body) (hm : body.length = m) (hmd : m ≤ d) (at_ : Int) (ha0 : -9223372036854775808 ≤ at_) (ha1 : at_ ≤ 9223372036854775807) (mask : Nat) (hk : mask < 4294967296) :
    Calls Try.prog 4 #[.agg #[.int .u8 k.toNat, .slice B m d], .agg #[.int .i64 at_, .int .u32 mask]] w fun e w' => e = .returned (.bool true) ∧ Chg nob w w' := by
  have hc1 := (Chg.refl nob w).alloc (.cells #[.int .u8 k.toNat, .slice B m d] 24)
  have hr1 := heap_alloc_new w (.cells #[.int .u8 k.toNat, .slice B m d] 24)
  have hz1 : (w.alloc (.cells #[.int .u8 k.toNat, .slice B m d] 24)).heap.size = w.heap.size + 1 := by simp
  have hc2 := (Chg.refl nob (w.alloc (.cells #[.int .u8 k.toNat, .slice B m d] 24))).alloc (.cells #[.int .i64 at_, .int .u32 mask] 34)
  have hr2 := heap_alloc_new (w.alloc (.cells #[.int .u8 k.toNat, .slice B m d] 24)) (.cells #[.int .i64 at_, .int .u32 mask] 34)
  rw [hz1] at hr2
  obtain ⟨c0, c1⟩ := row2c (hc2.heap hr1 (not_nob _))
  have HSP := Lib.hid (row2c hr2)
  have HB := Lib.hid (Kd.C_new hb (hc1.thenNew hc2))
  have HC := Lib.hid (hc1.thenNew hc2)
  have HM := Lib.hid hm
  clear hb hm hc1 hr1 hz1 hc2 hr2
  by_cases he : errF (k, body) = 0
  · have HE := Lib.hid he
    have hm1000 : m ≤ 1000 := by
      rw [errF] at he
      split at he
      · cases he
      · split at he
        · cases he
        · rename_i h; rw [HM.out] at h; omega
    have HFL : Hid ((frameB (k, body)).length = m + 7) := by show _ = _; rw [frameB_len, HM.out]
    clear he
    go_enter Try.func4, Try.ntmps4
    go_wp2_with fail
    refine (f_put (n := 0) (bs := []) (Kd.C_nil _ _ (fun _ => False) none) HB.out rfl HM.out hmd (by decide)).mono ?_
    rintro e w2 ⟨hc2, ⟨hn, _⟩ | ⟨_, A2, c2, rfl, hl2, hm2, hC2⟩⟩
    · exact absurd HE.out hn
    rw [List.nil_append] at hC2
    have HC2 := Lib.hid (HC.out.thenNew hc2)
    have HA2 := Lib.hid (Kd.C_mono (Kd.C_bound hC2) (ok' := fun b => b < w2.heap.size) (fun b hb => hb.2))
    obtain ⟨d0, d1⟩ : w2.cell? ⟨w.heap.size + 1, 0, none⟩ = some (.int .i64 at_) ∧ w2.cell? ⟨w.heap.size + 1, 1, none⟩ = some (.int .u32 mask) := ⟨hc2.cell HSP.out.1 (not_nob _), hc2.cell HSP.out.2 (not_nob _)⟩
    clear hc2 hC2 hl2 c0 c1
    rw [show 0 + (m + 7) = m + 7 from by omega] at hm2 ⊢
    have b1 : ¬ (((m + 7 : Nat)) : Int) < 7 := by omega
    have b1' : ¬ (m : Int) + 7 < 7 := by omega
    go_wp2_with fail
    refine (l_turned HA2.out HFL.out (by omega) (by omega) at_ ha0 ha1 mask hk).mono ?_
    rintro e w3 ⟨g, c3, i, hi, hfi, rfl, hmc3, hg, hcur, hc3⟩
    obtain ⟨fr, hfr⟩ : ∃ fr, fromT at_ (m + 7) = fr := ⟨_, rfl⟩
    rw [hfr] at hfi hcur ⊢
    clear hfr
    have hLl : (turns (frameB (k, body)) fr mask i).1.length = m + 7 := by rw [turns_len, HFL.out]
    have HSPT : Hid ((turns (frameB (k, body)) fr mask i).1[1]? = (frameB (k, body))[1]? → (turns (frameB (k, body)) fr mask i).1[2]? = (frameB (k, body))[2]? → (turns (frameB (k, body)) fr mask i).2 = true → takeE (turns (frameB (k, body)) fr mask i).1 = if (turns (frameB (k, body)) fr mask i).1[0]?.getD 0 = 0 then 31 else 32) := fun h1 h2 ha => spoilt_take HE.out (by rw [HFL.out]; exact hfi) hi h1 h2 ha
    have HSPN : Hid ((turns (frameB (k, body)) fr mask i).2 = false → takeE (turns (frameB (k, body)) fr mask i).1 = 0 ∧ told (turns (frameB (k, body)) fr mask i).1 = m) := fun ha => by
      have := spoilt_none HE.out ha
      rw [HM.out] at this
      exact this
    obtain ⟨L, hL⟩ : ∃ L, (turns (frameB (k, body)) fr mask i).1 = L := ⟨_, rfl⟩
    obtain ⟨a, hA⟩ : ∃ a, (turns (frameB (k, body)) fr mask i).2 = a := ⟨_, rfl⟩
    rw [hL] at HSPT HSPN hcur hLl
    rw [hA] at HSPT HSPN ⊢
    clear hL hA
    obtain ⟨z, hz⟩ : ∃ z, L[0]? = some z := ⟨_, List.getElem?_eq_getElem (by omega)⟩
    obtain ⟨x1, hx1⟩ : ∃ x, L[1]? = some x := ⟨_, List.getElem?_eq_getElem (by omega)⟩
    obtain ⟨x2, hx2⟩ : ∃ x, L[2]? = some x := ⟨_, List.getElem?_eq_getElem (by omega)⟩
    obtain ⟨y1, hy1⟩ : ∃ x, (frameB (k, body))[1]? = some x := ⟨_, List.getElem?_eq_getElem (by rw [HFL.out]; omega)⟩
    obtain ⟨y2, hy2⟩ : ∃ x, (frameB (k, body))[2]? = some x := ⟨_, List.getElem?_eq_getElem (by rw [HFL.out]; omega)⟩
    have hA3 := Kd.C_new HA2.out hc3
    obtain ⟨ab, ao, rfl, e1⟩ := byte_at hA3 hy1
    obtain ⟨_, _, e, e2⟩ := byte_at hA3 hy2
    cases e
    have g0 := hcur.cell hz
    have g1 := hcur.cell hx1
    have g2 := hcur.cell hx2
    rw [hz, hx1, hx2, hy1, hy2] at HSPT
    have HC3 := Lib.hid (HC2.out.thenNew hc3)
    have HG0 := Lib.hid g0
    have HLC := Lib.hid (hcur.C (by omega))
    have HLL := Lib.hid hLl
    have hz8 := z.toNat_lt
    have i0 : 0 < m + 7 := by omega
    have i1 : (1 : Int) < ((m + 7 : Nat) : Int) := by omega
    have i2 : (2 : Int) < ((m + 7 : Nat) : Int) := by omega
    have i1' : (1 : Int) < (m : Int) + 7 := by omega
    have i2' : (2 : Int) < (m : Int) + 7 := by omega
    clear hz hx1 hx2 hy1 hy2 hA3 hcur hc3 hLl d0 d1 g0
    by_cases hd1 : x1 = y1
    · subst hd1
      have t1 : ((x1.toNat : Int) == (x1.toNat : Int)) = true := by simp
      by_cases hd2 : x2 = y2
      · subst hd2
        have HNX : Hid (a = true → takeE L = if z = 0 then 31 else 32) := fun ha => HSPT.out rfl rfl ha
        clear HSPT
        go_wp2_with fail
        go_quiet (fail)
        have HLC4 := Lib.hid (Kd.C_new HLC.out ((Chg.refl nob w3).drewN nq))
        have HC4 := Lib.hid (HC3.out.drewN nq)
        have g0 : (w3.drewN nq).cell? ⟨g, 0, none⟩ = some (.int .u8 z.toNat) := HG0.out
        generalize w3.drewN nq = w4 at HLC4 HC4 g0 ⊢
        clear e1 e2 g1 g2 HC3 HLC
        have HG4 := Lib.hid g0
        clear g0
        cases a with
        | false =>
          obtain ⟨hT0, hTM⟩ := HSPN.out rfl
          have HT0 := Lib.hid hT0
          have HTM := Lib.hid hTM
          clear hT0 hTM
          go_wp2_with fail
          refine (f_take HLC4.out HLL.out hmc3 (by omega)).mono ?_
          rintro e w5 ⟨hc5, ⟨hn, _⟩ | ⟨_, A5, c5, rfl, _, _⟩⟩
          · exact absurd HT0.out hn
          rw [HTM.out]
          have HC5 := Lib.hid ((HC4.out.thenNew hc5).alloc (.cells #[.int .u8 (frOf L).1.toNat, .slice A5 m c5] 24))
          clear hc5
          go_wp2_with fail
          refine (frame_works _).mono ?_
          rintro e w9 ⟨rfl, hc9⟩
          have hfin := HC5.out.thenNew hc9
          clear hc9
          go_wp2
          go_ret
          exact ⟨rfl, hfin⟩
        | true =>
          by_cases hz0 : z = 0
          · have hT : takeE L = 31 := by rw [HNX.out rfl, if_pos hz0]
            have HT := Lib.hid hT
            have hzb : ((z.toNat : Int) == 0) = true := by subst hz0; rfl
            clear hT hz0
            go_wp2_with fail
            refine (f_take HLC4.out HLL.out hmc3 (by omega)).mono ?_
            intro e w5 hTk
            obtain ⟨hc5, rfl⟩ := taken_zero hTk (by rw [HT.out]; decide)
            rw [HT.out]
            have g0 := (hc5.alloc (.cells #[.int .u8 0, .slice none 0 0] 24)).cell HG4.out (not_nob _)
            have HC5 := Lib.hid ((HC4.out.thenNew hc5).alloc (.cells #[.int .u8 0, .slice none 0 0] 24))
            clear hc5 hTk
            go_wp2_with fail
            refine (frame_works _).mono ?_
            rintro e w9 ⟨rfl, hc9⟩
            have hfin := HC5.out.thenNew hc9
            clear hc9
            go_wp2
            go_ret
            exact ⟨rfl, hfin⟩
          · have hT : takeE L = 32 := by rw [HNX.out rfl, if_neg hz0]
            have HT := Lib.hid hT
            have hzb : ((z.toNat : Int) == 0) = false := by
              have : z.toNat ≠ 0 := fun h => hz0 (UInt8.toNat_inj.1 h)
              simp; omega
            clear hT hz0
            go_wp2_with fail
            refine (f_take HLC4.out HLL.out hmc3 (by omega)).mono ?_
            intro e w5 hTk
            obtain ⟨hc5, rfl⟩ := taken_zero hTk (by rw [HT.out]; decide)
            rw [HT.out]
            have g0 := (hc5.alloc (.cells #[.int .u8 0, .slice none 0 0] 24)).cell HG4.out (not_nob _)
            have HC5 := Lib.hid ((HC4.out.thenNew hc5).alloc (.cells #[.int .u8 0, .slice none 0 0] 24))
            clear hc5 hTk
            go_wp2_with fail
            refine (frame_works _).mono ?_
            rintro e w9 ⟨rfl, hc9⟩
            have hfin := HC5.out.thenNew hc9
            clear hc9
            go_wp2
            go_ret
            exact ⟨rfl, hfin⟩
      · have t2 : ((x2.toNat : Int) == (y2.toNat : Int)) = false := by
          have : x2.toNat ≠ y2.toNat := fun h => hd2 (UInt8.toNat_inj.1 h)
          simp; omega
        have t2n : ((x2.toNat : Int) != (y2.toNat : Int)) = true := by simp [bne, t2]
        clear HSPT HSPN hd2
        go_wp2_with fail
        go_quiet (fail)
        have HC4 := Lib.hid (HC3.out.drewN nq)
        clear e1 e2 g1 g2 HC3 HLC
        go_wp2_with fail
        refine (frame_works _).mono ?_
        rintro e w9 ⟨rfl, hc9⟩
        have hfin := HC4.out.thenNew hc9
        clear hc9
        go_wp2
        go_ret
        exact ⟨rfl, hfin⟩
    · have t1 : ((x1.toNat : Int) == (y1.toNat : Int)) = false := by
        have : x1.toNat ≠ y1.toNat := fun h => hd1 (UInt8.toNat_inj.1 h)
        simp; omega
      have t1n : ((x1.toNat : Int) != (y1.toNat : Int)) = true := by simp [bne, t1]
      clear HSPT HSPN hd1
      go_wp2_with fail
      go_quiet (fail)
      have HC4 := Lib.hid (HC3.out.drewN nq)
      clear e1 e2 g1 g2 HC3 HLC
      go_wp2_with fail
      refine (frame_works _).mono ?_
      rintro e w9 ⟨rfl, hc9⟩
      have hfin := HC4.out.thenNew hc9
      clear hc9
      go_wp2
      go_ret
      exact ⟨rfl, hfin⟩
  · have HE := Lib.hid he
    obtain ⟨E, hE⟩ : ∃ E, errF (k, body) = E := ⟨_, rfl⟩
    have hEn : ((E : Int) == 0) = false := by
      have : E ≠ 0 := by rw [← hE]; exact he
      simp; omega
    have hE1 : ¬ E = 0 := by rw [← hE]; exact he
    have hE2 : ¬ (E : Int) = 0 := by omega
    have hE3 : ((E : Int) != 0) = true := by simp [bne, hEn]
    have HEE := Lib.hid hE
    clear he hE
    go_enter Try.func4, Try.ntmps4
    go_wp2_with fail
    refine (f_put (n := 0) (bs := []) (Kd.C_nil _ _ (fun _ => False) none) HB.out rfl HM.out hmd (by decide)).mono ?_
    rintro e w2 ⟨hc2, ⟨_, rfl⟩ | ⟨hn, _⟩⟩
    · rw [HEE.out]
      have HC2 := Lib.hid (HC.out.thenNew hc2)
      clear hc2 c0 c1
      go_wp2_with fail
      refine (frame_works _).mono ?_
      rintro e w9 ⟨rfl, hc9⟩
      have hfin := HC2.out.thenNew hc9
      clear hc9
      go_wp2
      go_ret
      exact ⟨rfl, hfin⟩
    · exact absurd hn HE.out
theorem frameSpoilt_row {w : World} {x : UInt8 × List UInt8} {cs : Array Value} (h : frK.K w (fun b => b < w.heap.size) x cs.toList) {y : Int × Int} {ds : Array Value} (k : (Kd.pair (Kd.such (Kd.int .i64) (fun x => (Lit.int .i64 x).wf = true)) (Kd.such (Kd.int .u32) (fun x => (Lit.int .u32 x).wf = true))).K w (fun b => b < w.heap.size) y ds.toList) :
    Calls Try.prog 4 #[.agg cs, .agg ds] w fun e w' => e = .returned (.bool true) ∧ Chg nob w w' := by
  obtain ⟨B, d, hcs, h1, h2⟩ := fr_cells h
  have e : cs = #[.int .u8 x.1.toNat, .slice B x.2.length d] := by cases cs; simpa using hcs
  subst e
  obtain ⟨c0, c1, hds, ⟨k0, r0⟩, k1, r1⟩ := k
  have k0' : c0 = [.int .i64 y.1] := k0
  have k1' : c1 = [.int .u32 y.2] := k1
  subst k0' k1'
  obtain ⟨q0, q1⟩ := wf_i64 r0
  have q2 := wf_u32 r1
  obtain ⟨a, ha⟩ := Int.eq_ofNat_of_zero_le q2.1
  rw [ha] at hds
  have e2 : ds = #[.int .i64 y.1, .int .u32 (a : Int)] := by cases ds; simpa using hds
  subst e2
  exact frameSpoilt_walk h1 rfl h2 y.1 q0 q1 a (by omega)
end Go.Proofs.Ytfaiehhmpmbcjaa
