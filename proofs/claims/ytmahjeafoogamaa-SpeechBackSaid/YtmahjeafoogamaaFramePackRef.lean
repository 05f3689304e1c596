/- Frames: packets: the reference's Pack, Unpack and Same. -/
import Derived.Test.YtmahjeafoogamaaFramePack
namespace Go.Proofs.Ytmahjeafoogamaa
open Go.RowKit
set_option linter.unusedVariables false
set_option linter.unusedSimpArgs false
theorem fr_unpack {w : World} {A : Option Addr} {m c : Nat} {bs : List UInt8} (hb : Kd.byte.C w (fun b => b < w.heap.size) A bs) (hm : bs.length = m) (hmc : m ≤ c) :
    Calls Try.prog 41 #[.slice A m c] w (Unps (fun _ w' b => b < w'.heap.size) w bs) := by
  have hsm := hb.small
  rw [hm] at hsm
  have HB := Lib.hid hb
  have HM := Lib.hid hm
  clear hb hm
  by_cases h0 : m < 1
  · have HE : Hid (unpE bs = 5) := if_pos (.inl (by rw [HM.out]; omega))
    obtain rfl : m = 0 := by omega
    go_enter Try.func41, Try.ntmps41
    go_wp2
    go_ret2
    rw [Unps, HE.out]
    exact ⟨Chg.refl _ _, .inl ⟨by decide, rfl⟩⟩
  have b0 : ¬ (m : Int) < 1 := by omega
  by_cases h1 : 1400 < m
  · have HE : Hid (unpE bs = 5) := if_pos (.inr (by rw [HM.out]; omega))
    have b1 : (1400 : Int) < (m : Int) := by omega
    go_enter Try.func41, Try.ntmps41
    go_wp2
    go_ret2
    rw [Unps, HE.out]
    exact ⟨Chg.refl _ _, .inl ⟨by decide, rfl⟩⟩
  have b1 : ¬ (1400 : Int) < (m : Int) := by omega
  have HU : Hid (unpE bs = if (allR bs).2.2 ≠ 0 then (allR bs).2.2 else if 32 < (allR bs).1.length then 5 else 0) := if_neg (by rw [HM.out]; omega)
  go_enter Try.func41, Try.ntmps41
  go_wp2_with fail
  refine (fr_all HB.out HM.out hmc (by omega)).mono ?_
  rintro e w2 ⟨hc2, L, P, n, cl, cp, hn, hcl, hcp, rfl, hC, hP⟩
  obtain ⟨E, hE⟩ : ∃ E, (allR bs).2.2 = E := ⟨_, rfl⟩
  rw [hE] at HU ⊢
  rw [← hn] at HU
  have HE := Lib.hid hE
  have HC2 := Lib.hid hc2
  have HN := Lib.hid hn
  have HC := Lib.hid hC
  clear hE hc2 hn hC hP
  by_cases he : E = 0
  · subst he
    by_cases h32 : 32 < n
    · have b32 : (32 : Int) < (n : Int) := by omega
      have HUE : Hid (unpE bs = 5) := by show _ = _; rw [HU.out, if_neg (by omega), if_pos h32]
      go_wp2
      go_ret2
      rw [Unps, HUE.out]
      exact ⟨HC2.out, .inl ⟨by decide, rfl⟩⟩
    · have b32 : ¬ (32 : Int) < (n : Int) := by omega
      have HUE : Hid (unpE bs = 0) := by show _ = _; rw [HU.out, if_neg (by omega), if_neg h32]
      go_wp2
      go_ret2
      rw [Unps, HUE.out]
      exact ⟨HC2.out, .inr ⟨rfl, L, n, cl, rfl, HN.out.symm, hcl, HC.out⟩⟩
  · have HUE : Hid (unpE bs = E) := by show _ = _; rw [HU.out, if_pos he]
    have hE0 : ((E : Int) == 0) = false := by simp; omega
    have HNE := Lib.hid he
    clear he
    go_wp2
    go_ret2
    rw [Unps, HUE.out]
    exact ⟨HC2.out, .inl ⟨HNE.out, rfl⟩⟩
set_option maxRecDepth 100000 in
set_option maxHeartbeats 2000000 in
theorem fr_pack {w : World} {LA : Option Addr} {ln lc : Nat} {xs : List Fr} (hx : frK.C w (fun b => b < w.heap.size) LA xs) (hn : xs.length = ln) :
    Calls Try.prog 39 #[.slice LA ln lc] w (Packs w xs) := by
  have hsm := hx.small
  rw [hn] at hsm
  have HX := Lib.hid hx
  have HN := Lib.hid hn
  have HS0 := Lib.hid (Chg.refl nob w)
  have HF0 : Hid (firstE (xs.take 0) = 0) := rfl
  clear hx hn
  go_enter Try.func39, Try.ntmps39
  go_wp2
  go_loopw [4] (fun i wr => ∃ k : Nat, k ≤ ln ∧ i = .int .i64 k ∧ Hid (firstE (xs.take k) = 0) ∧ Hid (Chg nob w wr)) (fun i _ => ln - (intOf i).toNat)
  case atStart => exact ⟨0, Nat.zero_le _, rfl, HF0, HS0⟩
  case round =>
    obtain ⟨k, hk1, rfl, HF, HS⟩ := hrel
    clear HS0 HF0
    by_cases hlt : k < ln
    · have b1 : (k : Int) < (ln : Int) := by omega
      have b3 : (0 : Int) ≤ (k : Int) := by omega
      obtain ⟨f, hf⟩ : ∃ f, xs[k]? = some f := ⟨_, List.getElem?_eq_getElem (by rw [HN.out]; exact hlt)⟩
      obtain ⟨lb, lo, FB, fd, rfl, _, c0, c1, hfd, hfb⟩ := fr_at (Kd.C_new HX.out HS.out) hf
      have HTK := Lib.hid (take_split hf)
      have hfs := hfb.small
      obtain ⟨fl, hfl⟩ : ∃ q, f.2.length = q := ⟨_, rfl⟩
      rw [hfl] at hfd c1 hfs
      have HFL := Lib.hid hfl
      clear hf hfb hfl
      go_wp2_with fail
      refine (fr_error (body := f.2) f.1 HFL.out hfs).mono ?_
      rintro e w2 ⟨rfl, hc2⟩
      rw [show errF (f.1, f.2) = errF f from rfl]
      have HS2 := Lib.hid (HS.out.thenNew hc2)
      by_cases he : errF f = 0
      · have HF2 : Hid (firstE (xs.take (k + 1)) = 0) := by show _ = _; rw [HTK.out.1, firstE_app HF.out, firstE_one, if_pos he]; rfl
        rw [he]
        clear hc2 he c0 c1
        go_wp2
        exact ⟨⟨k + 1, by omega, by go_num, HF2, HS2⟩, by simp [intOf]; omega⟩
      · have hE0 : ((errF f : Int) == 0) = false := by simp; omega
        have HFE : Hid (firstE xs = errF f) := by show _ = _; rw [HTK.out.2, firstE_app HF.out, firstE_one, if_neg he]
        have HPE : Hid (packE xs = errF f) := by show _ = _; rw [packE, HFE.out, if_pos he]
        have HNE := Lib.hid he
        obtain ⟨E1, hE1⟩ : ∃ q, errF f = q := ⟨_, rfl⟩
        rw [hE1] at hE0 HPE HNE ⊢
        clear hc2 he hE1 c0 c1 HFE
        go_wp2
        go_ret2
        rw [Packs, HPE.out]
        exact ⟨HS2.out, .inl ⟨HNE.out, rfl⟩⟩
    · obtain rfl : k = ln := by omega
      have b1 : ¬ (k : Int) < (k : Int) := by omega
      have HF1 : Hid (firstE xs = 0) := by
        have := HF.out
        rw [← HN.out, List.take_length] at this
        exact this
      by_cases h0 : k < 1
      · obtain rfl : k = 0 := by omega
        have HPE : Hid (packE xs = 5) := by show _ = _; rw [packE, HF1.out, if_neg (by omega), if_pos (.inl (by rw [HN.out]; omega))]
        go_wp2
        go_ret2
        rw [Packs, HPE.out]
        exact ⟨HS.out, .inl ⟨by decide, rfl⟩⟩
      have hk0 : ¬ (k : Int) < 1 := by omega
      by_cases h32 : 32 < k
      · have b32 : (32 : Int) < (k : Int) := by omega
        have HPE : Hid (packE xs = 5) := by show _ = _; rw [packE, HF1.out, if_neg (by omega), if_pos (.inr (by rw [HN.out]; omega))]
        go_wp2
        go_ret2
        rw [Packs, HPE.out]
        exact ⟨HS.out, .inl ⟨by decide, rfl⟩⟩
      have b32 : ¬ (32 : Int) < (k : Int) := by omega
      have HPE : Hid (packE xs = if 1400 < (packB xs).length then 5 else 0) := by show _ = _; rw [packE, HF1.out, if_neg (by omega), if_neg (by rw [HN.out]; omega)]
      clear HF
      have HST : Hid (Kd.byte.R 5 wr w.heap.size (fun b => some b = (Value.slice none 0 0).ownBlock) (.slice none 0 0) (packB (xs.take 0))) := Kd.R_nil _ _ _ _ _
      go_wp2
      go_loopw [6, 7] (fun vb i wx => ∃ (j : Nat) (B : Option Addr) (mb cb : Nat), j ≤ k ∧ vb = .slice B mb cb ∧ i = .int .i64 j ∧ mb ≤ 1007 * j ∧ Hid ((packB (xs.take j)).length = mb) ∧ Hid (Kd.byte.R 5 wx w.heap.size (fun b => some b = (Value.slice B mb cb).ownBlock) (.slice B mb cb) (packB (xs.take j))) ∧ Hid (Chg nob w wx)) (fun _ i _ => k - (intOf i).toNat)
      case atStart => exact ⟨0, none, 0, 0, Nat.zero_le _, rfl, rfl, Nat.le_refl _, rfl, HST, HS⟩
      case round =>
        obtain ⟨j, B, mb, cb, hj1, rfl, rfl, hmm, HML, HB, HSx⟩ := hrel
        by_cases hlt : j < k
        · have b1 : (j : Int) < (k : Int) := by omega
          have b3 : (0 : Int) ≤ (j : Int) := by omega
          obtain ⟨f, hf⟩ : ∃ f, xs[j]? = some f := ⟨_, List.getElem?_eq_getElem (by rw [HN.out]; exact hlt)⟩
          obtain ⟨lb, lo, FB, fd, rfl, _, c0, c1, hfd, hfb⟩ := fr_at (Kd.C_new HX.out HSx.out) hf
          have HTK := Lib.hid (take_split hf)
          have he : errF f = 0 := firstE_ok HF1.out f (List.mem_of_getElem? hf)
          obtain ⟨fl, hfl⟩ : ∃ q, f.2.length = q := ⟨_, rfl⟩
          rw [hfl] at hfd c1
          have HFL := Lib.hid hfl
          have hsmall : fl ≤ 1000 := by rw [← hfl]; exact good_small he
          have HFB := Lib.hid hfb
          clear hf hfb hfl he
          go_wp2_with fail
          refine (fr_bytes f.1 HFB.out HFL.out hsmall).mono ?_
          rintro e w2 ⟨A2, c2, rfl, hl2, hm2, hC2, hc2⟩
          have HC2 := Lib.hid hC2
          have HL2 := Lib.hid hl2
          have HR2 := Lib.hid (Kd.R_new HB.out hc2)
          have HS2 := Lib.hid (HSx.out.thenNew hc2)
          have HM2 : Hid ((packB (xs.take (j + 1))).length = mb + (fl + 7)) := by show _ = _; rw [HTK.out.1, packB_snoc, List.length_append, frameB_len, HML.out, HFL.out]
          clear hc2 hl2 hC2 c0 c1
          go_wp2_with (at_builtin; refine wp_appB rfl _ _ rfl w.heap.size _ _ (.slice B mb cb) (packB (xs.take j)) (frameB (f.1, f.2)) A2 (fl + 7) c2 rfl rfl HL2.out HR2.out HC2.out HS2.out.size (mb + (fl + 7)) (by rw [HML.out]) (by omega) ?_)
          intro A6 c6 w6 hR6 hC6 hO6
          have HR6 : Hid (Kd.byte.R 5 w6 w.heap.size (fun b => some b = (Value.slice A6 (mb + (fl + 7)) c6).ownBlock) (.slice A6 (mb + (fl + 7)) c6) (packB (xs.take (j + 1)))) := by
            show Kd.byte.R _ _ _ _ _ _
            rw [HTK.out.1, packB_snoc]
            exact hR6
          have HS6 : Hid (Chg nob w w6) := ((HS2.out.ofNew (S := fun b => some b = (Value.slice B mb cb).ownBlock)).trans hC6 (fun i hi => .inl hi)).mono (fun i hi => .inr (Kd.R_own HR2.out i hi.symm).1)
          clear hR6 hC6 hO6
          go_wp2
          exact ⟨⟨j + 1, A6, mb + (fl + 7), c6, by omega, rfl, by go_num, by omega, HM2, HR6, HS6⟩, by simp [intOf]; omega⟩
        · obtain rfl : j = k := by omega
          have b1 : ¬ (j : Int) < (j : Int) := by omega
          have hall : xs.take j = xs := by rw [← HN.out, List.take_length]
          rw [hall] at HML HB
          clear hall
          by_cases hbig : 1400 < mb
          · have b14 : (1400 : Int) < (mb : Int) := by omega
            have HP5 : Hid (packE xs = 5) := by show _ = _; rw [HPE.out, if_pos (by rw [HML.out]; exact hbig)]
            go_wp2
            go_ret2
            rw [Packs, HP5.out]
            exact ⟨HSx.out, .inl ⟨by decide, rfl⟩⟩
          · have b14 : ¬ (1400 : Int) < (mb : Int) := by omega
            have HP0 : Hid (packE xs = 0) := by show _ = _; rw [HPE.out, if_neg (by rw [HML.out]; exact hbig)]
            obtain ⟨k1, k2, k3⟩ := Kd.R_read HB.out
            have HK1 : Hid (Kd.byte.C wr (fun b => w.heap.size ≤ b) B (packB xs)) := Kd.C_mono k1 (fun b hb => (Kd.R_own HB.out b hb.symm).1)
            have HK3 := Lib.hid k3
            clear k1 k2 k3
            go_wp2
            go_ret2
            rw [Packs, HP0.out]
            exact ⟨HSx.out, .inr ⟨rfl, B, mb, cb, rfl, HML.out, HK3.out, HK1.out⟩⟩
end Go.Proofs.Ytmahjeafoogamaa
