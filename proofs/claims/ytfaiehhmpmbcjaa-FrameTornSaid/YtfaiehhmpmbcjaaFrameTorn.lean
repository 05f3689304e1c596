/- Frames: the walk of FrameTorn. -/
import Derived.Test.YtfaiehhmpmbcjaaFrameAll
import Derived.Test.YtfaiehhmpmbcjaaOpen
namespace Go.Proofs.Ytfaiehhmpmbcjaa
open Go.RowKit
set_option linter.unusedVariables false
set_option linter.unusedSimpArgs false
structure TornSt (w0 : World) (B : Option Addr) (ve : Value) (fs : List Fr) (w : World) : Prop where
  b : ∃ ok : Nat → Prop, Kd.byte.C w ok B (packB fs) ∧ (∀ k, ok k → some k ≠ ve.ownBlock ∧ k < w.heap.size)
  en : (Kd.int .i64).R 3 w w0.heap.size (fun k => some k = ve.ownBlock) ve (endsL fs)
  chg : Chg nob w0 w
theorem TornSt.new {w0 w w' : World} {B : Option Addr} {ve : Value} {fs : List Fr} (h : TornSt w0 B ve fs w) (hc : Chg nob w w') : TornSt w0 B ve fs w' := by
  obtain ⟨ok, h1, h2⟩ := h.b
  exact ⟨⟨ok, Kd.C_new h1 hc, fun k hk => ⟨(h2 k hk).1, Nat.lt_of_lt_of_le (h2 k hk).2 hc.size⟩⟩, Kd.R_new h.en hc, h.chg.thenNew hc⟩
theorem torn_more {w0 w w' w'' : World} {B B' : Option Addr} {ve ve' : Value} {fs : List Fr} {f : Fr} (h : TornSt w0 B ve fs w) (hc : Chg nob w w') (hb : Kd.byte.C w' (fun k => w.heap.size ≤ k) B' (packB (fs ++ [f]))) (hR : (Kd.int .i64).R 3 w'' w0.heap.size (fun k => some k = ve'.ownBlock) ve' (endsL (fs ++ [f]))) (hC : Chg (fun k => some k = ve.ownBlock) w' w'') (hO : ve'.ownBlock = ve.ownBlock ∨ ∃ k, ve'.ownBlock = some k ∧ w'.heap.size ≤ k) : TornSt w0 B' ve' (fs ++ [f]) w'' := by
  have hne : ∀ k, w.heap.size ≤ k → some k ≠ ve.ownBlock := fun k hk e => by have := (Kd.R_own h.en k e.symm).2; omega
  refine ⟨⟨_, Kd.C_chg (Kd.C_bound hb) hC (fun k hk e => hne k hk.1 e), fun k hk => ⟨fun e => ?_, Nat.lt_of_lt_of_le hk.2 hC.size⟩⟩, hR, (h.chg.thenNew hc).trans hC (fun i hi => .inr (Kd.R_own h.en i hi.symm).1)⟩
  rcases hO with hO | ⟨k', hO, hk'⟩
  · rw [hO] at e; exact hne k hk.1 e
  · rw [hO] at e
    cases e
    have := hk.2
    omega
set_option maxRecDepth 100000 in
set_option maxHeartbeats 600000 in
theorem frameTorn_walk {w : World} {LA : Option Addr} {ln lc : Nat} {xs : List (UInt8 × List UInt8)} (hx : frK.C w (fun b => b < w.heap.size) LA xs) (hn : xs.length = ln) (cut : Nat) (hcut : cut < 65536) :
    Calls Try.prog 6 #[.slice LA ln lc, .int .u16 cut] w fun e w' => e = .returned (.bool true) ∧ Chg nob w w' := by
  have hsm := hx.small
  rw [hn] at hsm
  have HX := Lib.hid hx
  have HN := Lib.hid hn
  have HS0 : Hid (TornSt w none (.slice none 0 0) (goodF (xs.take 0)) w) := ⟨⟨fun _ => False, Kd.C_nil _ _ _ _, fun k hk => hk.elim⟩, Kd.R_nil _ _ _ _ _, Chg.refl _ _⟩
  clear hx hn
  go_enter Try.func6, Try.ntmps6
  go_wp2
  go_loopw [5, 6, 7, 8, 9] (fun vb ve i v8 v9 wr => ∃ (k : Nat) (B E : Option Addr) (mb cb ne ce : Nat), k ≤ ln ∧ k ≤ 12 ∧ vb = .slice B mb cb ∧ ve = .slice E ne ce ∧ i = .int .i64 k ∧ mb ≤ cb ∧ ne ≤ 12 ∧ mb ≤ 1007 * ne ∧ Hid ((packB (goodF (xs.take k))).length = mb) ∧ Hid ((goodF (xs.take k)).length = ne) ∧ Hid (TornSt w B (.slice E ne ce) (goodF (xs.take k)) wr)) (fun _ _ i _ _ _ => 12 - (intOf i).toNat)
  case atStart => exact ⟨0, none, none, 0, 0, 0, 0, Nat.zero_le _, by decide, rfl, rfl, rfl, Nat.le_refl _, by decide, by decide, rfl, rfl, HS0⟩
  case round =>
    obtain ⟨k, B, E, mb, cb, ne, ce, hk1, hk2, rfl, rfl, rfl, hmb, hne, hmn, HML, HNL, HS⟩ := hrel
    clear HS0
    by_cases hlt : k < ln ∧ k < 12
    · obtain ⟨l1, l2⟩ := hlt
      have b1 : (k : Int) < (ln : Int) := by omega
      have b2 : (k : Int) < 12 := by omega
      have b3 : (0 : Int) ≤ (k : Int) := by omega
      obtain ⟨f, hf⟩ : ∃ f, xs[k]? = some f := ⟨_, List.getElem?_eq_getElem (by rw [HN.out]; exact l1)⟩
      obtain ⟨lb, lo, FB, fd, rfl, _, c0, c1, hfd, hfb⟩ := fr_at (Kd.C_new HX.out HS.out.chg) hf
      have HTK : Hid (xs.take (k + 1) = xs.take k ++ [f]) := by
        obtain ⟨hj, he⟩ := List.getElem?_eq_some_iff.1 hf
        show _ = _
        rw [List.take_succ_eq_append_getElem hj, he]
      obtain ⟨okb, hB, hokb⟩ := HS.out.b
      have HFB := Lib.hid hfb
      have HB := Lib.hid hB
      obtain ⟨fl, hfl⟩ : ∃ q, f.2.length = q := ⟨_, rfl⟩
      rw [hfl] at hfd c1
      have HFL := Lib.hid hfl
      have hmb9 : mb ≤ 1000000000 := by omega
      clear hf hfb hB hokb hfl
      go_wp2_with fail
      refine (f_put (k := f.1) HB.out HFB.out HML.out HFL.out hfd hmb9).mono ?_
      rintro e w2 ⟨hc2, hor⟩
      by_cases he : errF f = 0
      · have HE := Lib.hid he
        have hsmall : fl ≤ 1000 := by rw [← HFL.out]; exact good_small he
        rcases hor with ⟨hn, _⟩ | ⟨_, A2, c2, rfl, hl2, hm2, hC2⟩
        · exact absurd he hn
        have HG : Hid (goodF (xs.take (k + 1)) = goodF (xs.take k) ++ [f]) := by show _ = _; rw [HTK.out, goodF_snoc_yes he]
        have hC2' : Kd.byte.C w2 (fun b => wr.heap.size ≤ b) A2 (packB (goodF (xs.take k) ++ [f])) := by rw [packB_snoc]; exact hC2
        have HC2 := Lib.hid hC2'
        have HCG := Lib.hid hc2
        have hen := Kd.R_new HS.out.en hc2
        have HEN := Lib.hid hen
        have hbs : w.heap.size ≤ w2.heap.size := Nat.le_trans HS.out.chg.size hc2.size
        have HLE : Hid ((endsL (goodF (xs.take k))).length + 1 = ne + 1) := by show _ = _; rw [endsL_len, HNL.out]
        have HES : Hid (endsL (goodF (xs.take k)) ++ [(mb : Int) + ((fl : Int) + 7)] = endsL (goodF (xs.take k) ++ [f])) := by show _ = _; rw [endsL_snoc, plen_last, HML.out, HFL.out, show (mb : Int) + ((fl : Int) + 7) = ((mb + (fl + 7) : Nat) : Int) from by omega]
        have HM2 : Hid ((packB (goodF (xs.take (k + 1)))).length = mb + (fl + 7)) := by show _ = _; rw [HG.out, packB_snoc, List.length_append, frameB_len, HML.out, HFL.out]
        have HN2 : Hid ((goodF (xs.take (k + 1))).length = ne + 1) := by show _ = _; rw [HG.out, List.length_append, HNL.out]; rfl
        have hne11 : ne < 12 := by
          have h1 := goodF_len (xs.take k)
          rw [HNL.out, List.length_take] at h1
          omega
        clear hc2 hC2 hC2' hl2 he hen
        go_wp2_with (at_builtin; refine wp_app1Int rfl _ _ rfl w.heap.size _ (.slice E ne ce) (endsL (goodF (xs.take k))) ((mb : Int) + ((fl : Int) + 7)) rfl rfl HEN.out hbs (ne + 1) HLE.out (by omega) ?_)
        intro A6 c6 w6 hR6 hC6 hO6
        rw [HES.out] at hR6
        have hst := torn_more HS.out HCG.out HC2.out hR6 hC6 hO6
        rw [← HG.out] at hst
        have HST := Lib.hid hst
        clear hst hR6 hC6 hO6 HS
        go_wp2
        exact ⟨⟨k + 1, A2, A6, mb + (fl + 7), c2, ne + 1, c6, by omega, by omega, rfl, rfl, by go_num, hm2, by omega, by omega, HM2, HN2, HST⟩, by simp [intOf]; omega⟩
      · have hE0 : ((errF f : Int) == 0) = false := by simp; omega
        rcases hor with ⟨_, rfl⟩ | ⟨hn, _⟩
        · have HG : Hid (goodF (xs.take (k + 1)) = goodF (xs.take k)) := by show _ = _; rw [HTK.out, goodF_snoc_no he]
          have HST := Lib.hid (HS.out.new hc2)
          obtain ⟨E1, hE1⟩ : ∃ q, errF f = q := ⟨_, rfl⟩
          rw [show errF (f.1, f.2) = errF f from rfl, hE1]
          rw [hE1] at hE0
          clear hc2 he hE1 HS
          go_wp2
          exact ⟨⟨k + 1, B, E, mb, cb, ne, ce, by omega, by omega, rfl, rfl, by go_num, hmb, hne, hmn, by rw [HG.out]; exact HML, by rw [HG.out]; exact HNL, by rw [HG.out]; exact HST⟩, by simp [intOf]; omega⟩
        · exact absurd hn he
    · have hor : k = ln ∨ k = 12 := by omega
      obtain ⟨fs, hfs⟩ : ∃ fs, goodF (xs.take k) = fs := ⟨_, rfl⟩
      have hgood : ∀ f ∈ fs, errF f = 0 := by rw [← hfs]; exact goodF_ok _
      rw [hfs] at HML HNL HS
      have HGOOD := Lib.hid hgood
      obtain ⟨a, ha⟩ : ∃ a, cut % (mb + 1) = a := ⟨_, rfl⟩
      have hAI : (cut : Int).tmod ((mb : Int) + 1) = (a : Int) := by rw [Int.tmod_eq_emod_of_nonneg (by omega), ← ha]; simp
      have hAI2 : (cut : Int) % ((mb : Int) + 1) = (a : Int) := by rw [← ha]; simp
      have hal : a ≤ mb := by have := Nat.mod_lt cut (show 0 < mb + 1 by omega); omega
      obtain ⟨K, hK⟩ := whole_is fs a
      have HK := Lib.hid hK
      have hKn : K ≤ ne := by rw [← HNL.out]; exact hK.1
      have HTORN : Hid (allR ((packB fs).take a) = (fs.take K, plen fs K, if a = plen fs K then 0 else 30)) := torn_all HGOOD.out hK (by rw [HML.out]; exact hal)
      have hPK : plen fs K ≤ a := hK.2.1
      have HPK := Lib.hid hPK
      obtain ⟨okb, hB, hokb⟩ := HS.out.b
      have HB := Lib.hid hB
      have HOKB := Lib.hid hokb
      obtain ⟨hE1, hE2, hE3⟩ := Kd.R_read HS.out.en
      have HE1 := Lib.hid hE1
      have HCH := Lib.hid HS.out.chg
      clear hfs hgood ha hK hPK hB hokb hE1 hE2 hE3 HX HN HS
      have hsp : ¬ (k : Int) < (ln : Int) ∨ ((k : Int) < (ln : Int) ∧ ¬ (k : Int) < 12) := by omega
      rcases hsp with b1 | ⟨b1, b2⟩
      all_goals
        go_wp2
        go_loopw [11, 12, 13] (fun v11 v12 i wx => ∃ j : Nat, j ≤ ne ∧ v11 = .int .i64 ((min j K : Nat) : Int) ∧ v12 = .int .i64 ((plen fs (min j K) : Nat) : Int) ∧ i = .int .i64 j ∧ wx = wr) (fun _ _ i _ => ne - (intOf i).toNat)
        case atStart => exact ⟨0, Nat.zero_le _, by rw [Nat.zero_min]; rfl, by rw [Nat.zero_min]; rfl, rfl, rfl⟩
        case round =>
          obtain ⟨j, hj, rfl, rfl, rfl, rfl⟩ := hrel
          by_cases hjl : j < ne
          · have c1 : (j : Int) < (ne : Int) := by omega
            have c2 : (0 : Int) ≤ (j : Int) := by omega
            have hej : (endsL fs)[j]? = some ((plen fs (j + 1) : Nat) : Int) := endsL_at (by rw [HNL.out]; exact hjl)
            obtain ⟨ad, rfl, _, hcell⟩ := at_scalar HE1.out hej
            have hcell' : wr.cell? (ad.add j) = some (.int .i64 ((plen fs (j + 1) : Nat) : Int)) := hcell
            clear hej hcell
            by_cases hjK : j < K
            · have HLE := Lib.hid (whole_below HK.out hjK)
              have e1 : Hid (min (j + 1) K = j + 1) := by show _ = _; omega
              have e2 : min j K = j := by omega
              rw [e2]
              obtain ⟨p, hp⟩ : ∃ p, plen fs (j + 1) = p := ⟨_, rfl⟩
              rw [hp] at hcell' HLE
              have HP := Lib.hid hp
              have c3 : (p : Int) ≤ (a : Int) := by have := HLE.out; omega
              clear e2 hp
              go_wp2
              exact ⟨⟨j + 1, by omega, by rw [e1.out]; go_num, by rw [e1.out, HP.out], by go_num, trivial⟩, by simp [intOf]; omega⟩
            · have hgt := HK.out.2.2 j (by omega) (by rw [HNL.out]; exact hjl)
              have e1 : Hid (min (j + 1) K = K) := by show _ = _; omega
              have e2 : min j K = K := by omega
              rw [e2]
              obtain ⟨p, hp⟩ : ∃ p, plen fs (j + 1) = p := ⟨_, rfl⟩
              rw [hp] at hcell' hgt
              have c3 : ¬ (p : Int) ≤ (a : Int) := by omega
              clear e2 hp hgt
              go_wp2
              exact ⟨⟨j + 1, by omega, by rw [e1.out], by rw [e1.out], by go_num, trivial⟩, by simp [intOf]; omega⟩
          · have c1 : ¬ (j : Int) < (ne : Int) := by omega
            have e2 : min j K = K := by omega
            rw [e2]
            obtain ⟨p, hp⟩ : ∃ p, plen fs K = p := ⟨_, rfl⟩
            have hpa : p ≤ a := by rw [← hp]; exact HPK.out
            rw [hp]
            have HP := Lib.hid hp
            have HTA := Lib.hid (Kd.C_take HB.out a (by rw [HML.out]; exact hal))
            have HTL : Hid (((packB fs).take a).length = a) := by show _ = _; rw [List.length_take, HML.out]; omega
            have HTB := Lib.hid (Kd.C_mono (Kd.C_bound HTA.out) (ok' := fun b => b < wr.heap.size) (fun b hb => hb.2))
            have ha1 : (0 : Int) ≤ (a : Int) := by omega
            have ha2 : (a : Int) ≤ (cb : Int) := by omega
            have hacb : a ≤ cb := by omega
            have ha9 : a ≤ 1000000000 := by omega
            have hcase : (((p : Int) == (a : Int)) = true ∧ Hid (allR ((packB fs).take a) = (fs.take K, p, 0))) ∨ (((p : Int) == (a : Int)) = false ∧ Hid (allR ((packB fs).take a) = (fs.take K, p, 30))) := by
              by_cases hap : a = p
              · refine .inl ⟨by simp; omega, ?_⟩
                show _ = _
                rw [HTORN.out, hp, if_pos hap]
              · refine .inr ⟨by simp; omega, ?_⟩
                show _ = _
                rw [HTORN.out, hp, if_neg hap]
            clear e2 hp hjl HTORN
            rcases hcase with ⟨d1, HT2⟩ | ⟨d1, HT2⟩
            all_goals
              go_wp2_with fail
              with_reducible refine (f_end HTA.out HTL.out hacb).mono ?_
              rintro e w4 ⟨rfl, hc4⟩
              have HC4 := Lib.hid (HCH.out.thenNew hc4)
              have HTC := Lib.hid (Kd.C_mono (Kd.C_new HTB.out hc4) (ok' := fun b => b < w4.heap.size) (fun b hb => Nat.lt_of_lt_of_le hb hc4.size))
              rw [HT2.out]
              simp only []
              clear hc4
              go_wp2_with fail
              with_reducible refine (fr_all HTC.out HTL.out hacb ha9).mono ?_
              rintro e w5 ⟨hc5, L, P, n, cl, cp, hn, hncl, hncp, rfl, hL, hPl⟩
              rw [HT2.out] at hn ⊢
              have hnK : n = K := by rw [hn]; show (fs.take K).length = K; rw [List.length_take]; have := HK.out.1; omega
              subst hnK
              have HC5 := Lib.hid (HC4.out.thenNew hc5)
              clear hc5 hn hL hPl
              simp only []
              go_wp2_with fail
              with_reducible refine (frame_works _).mono ?_
              rintro e w9 ⟨rfl, hc9⟩
              have hfin := HC5.out.thenNew hc9
              clear hc9
              go_wp2
              go_ret
              exact ⟨rfl, hfin⟩
theorem frameTorn_row {w : World} {LA : Option Addr} {lc : Nat} {xs : List (UInt8 × List UInt8)} (hx : frK.C w (fun b => b < w.heap.size) LA xs) (q : Int) (hq : (Lit.int .u16 q).wf = true) :
    Calls Try.prog 6 #[.slice LA xs.length lc, .int .u16 q] w fun e w' => e = .returned (.bool true) ∧ Chg nob w w' := by
  have := wf_u16 hq
  obtain ⟨a, rfl⟩ := Int.eq_ofNat_of_zero_le this.1
  exact frameTorn_walk hx rfl a (by omega)
end Go.Proofs.Ytfaiehhmpmbcjaa
