/- Frames: the reference's Same. -/
import Derived.Test.YtmahjeafoogamaaFramePackRef
import Derived.Outline
namespace Go.Proofs.Ytmahjeafoogamaa
open Go.RowKit
set_option linter.unusedVariables false
set_option linter.unusedSimpArgs false
set_option maxRecDepth 100000 in
set_option maxHeartbeats 1000000 in
theorem fr_same {w : World} {okA okB : Nat → Prop} {A B : Option Addr} {n m c d : Nat} {xs ys : List Fr} (hx : frK.C w okA A xs) (hy : frK.C w okB B ys) (hn : xs.length = n) (hm : ys.length = m) :
    Calls Try.prog 17 #[.slice A n c, .slice B m d] w fun e w' => e = .returned (.bool (decide (xs = ys))) ∧ Chg nob w w' := by
  have hsm := hx.small
  have hsm2 := hy.small
  rw [hn] at hsm
  rw [hm] at hsm2
  have HX := Lib.hid hx
  have HY := Lib.hid hy
  have HN := Lib.hid hn
  have HM := Lib.hid hm
  have HS0 := Lib.hid (Chg.refl nob w)
  clear hx hy hn hm
  by_cases hnm : n = m
  · subst hnm
    have HF0 : Hid (xs.take 0 = ys.take 0) := rfl
    go_enter Try.func17, Try.ntmps17
    go_wp2
    go_loopw [5] (fun i wr => ∃ k : Nat, k ≤ n ∧ i = .int .i64 k ∧ Hid (xs.take k = ys.take k) ∧ Hid (Chg nob w wr)) (fun i _ => n - (intOf i).toNat)
    case atStart => exact ⟨0, Nat.zero_le _, rfl, HF0, HS0⟩
    case round =>
      obtain ⟨k, hk1, rfl, HF, HS⟩ := hrel
      clear HS0 HF0
      by_cases hlt : k < n
      · have b1 : (k : Int) < (n : Int) := by omega
        have b3 : (0 : Int) ≤ (k : Int) := by omega
        obtain ⟨f, hf⟩ : ∃ f, xs[k]? = some f := ⟨_, List.getElem?_eq_getElem (by rw [HN.out]; exact hlt)⟩
        obtain ⟨g, hg⟩ : ∃ g, ys[k]? = some g := ⟨_, List.getElem?_eq_getElem (by rw [HM.out]; exact hlt)⟩
        obtain ⟨lb, lo, FB, fd, rfl, _, c0, c1, hfd, hfb⟩ := fr_at (Kd.C_new HX.out HS.out) hf
        obtain ⟨mb, mo, GB, gd, rfl, _, d0, d1, hgd, hgb⟩ := fr_at (Kd.C_new HY.out HS.out) hg
        have HTF := Lib.hid (take_split hf)
        have HTG := Lib.hid (take_split hg)
        obtain ⟨fl, hfl⟩ : ∃ q, f.2.length = q := ⟨_, rfl⟩
        obtain ⟨gl, hgl⟩ : ∃ q, g.2.length = q := ⟨_, rfl⟩
        rw [hfl] at hfd c1
        rw [hgl] at hgd d1
        have HFL := Lib.hid hfl
        have HGL := Lib.hid hgl
        have hcv := fun j => conv_any (Kd.C_new hfb ((Chg.refl nob wr).drewN j)) HFL.out fd
        have hcv2 := fun j => conv_any (Kd.C_new hgb ((Chg.refl nob wr).drewN j)) HGL.out gd
        clear hf hg hfb hgb hfl hgl
        by_cases hk : f.1 = g.1
        · have hki : ((f.1.toNat : Int) == (g.1.toNat : Int)) = true := by rw [hk]; simp
          have hkn : ((f.1.toNat : Int) != (g.1.toNat : Int)) = false := by rw [hk]; simp
          by_cases hbd : f.2 = g.2
          · have hs : ((strOf f.2).toList == (strOf g.2).toList) = true := by rw [hbd]; simp
            have HF2 : Hid (xs.take (k + 1) = ys.take (k + 1)) := by
              show _ = _
              rw [HTF.out.1, HTG.out.1, HF.out, show f = g from Prod.ext hk hbd]
            clear hbd hk
            go_wp2
            go_quiet (fail)
            go_wp2
            exact ⟨⟨k + 1, by omega, by go_num, HF2, HS.out.drewN _⟩, by simp [intOf]; omega⟩
          · have hs : ((strOf f.2).toList == (strOf g.2).toList) = false := by rw [strOf_list, strOf_list]; simpa using hbd
            have HD : Hid (decide (xs = ys) = false) := by
              show _ = _
              refine decide_eq_false (fun h => hbd ?_)
              rw [h] at HTF
              have h1 := HTF.out.1
              rw [HTG.out.1] at h1
              have h2 := List.append_inj_right' h1 rfl
              simp only [List.cons.injEq, and_true] at h2
              rw [h2]
            clear hbd hk
            go_wp2
            go_quiet (fail)
            go_wp2
            go_ret
            rw [HD.out]
            exact ⟨rfl, HS.out.drewN _⟩
        · have hki : ((f.1.toNat : Int) == (g.1.toNat : Int)) = false := by
            have : f.1.toNat ≠ g.1.toNat := fun h => hk (UInt8.toNat_inj.1 h)
            simp; omega
          have HD : Hid (decide (xs = ys) = false) := by
            show _ = _
            refine decide_eq_false (fun h => hk ?_)
            rw [h] at HTF
            have h1 := HTF.out.1
            rw [HTG.out.1] at h1
            have h2 := List.append_inj_right' h1 rfl
            simp only [List.cons.injEq, and_true] at h2
            rw [h2]
          have hkn : ((f.1.toNat : Int) != (g.1.toNat : Int)) = true := by simp only [bne, hki]; rfl
          have HS2 := Lib.hid (HS.out.drewN 1)
          go_wp2
          go_quiet (fail)
          go_wp2
          go_ret
          rw [HD.out]
          exact ⟨rfl, HS.out.drewN _⟩
      · obtain rfl : k = n := by omega
        have b1 : ¬ (k : Int) < (k : Int) := by omega
        have HD : Hid (decide (xs = ys) = true) := by
          show _ = _
          have h1 := HF.out
          rw [List.take_of_length_le (by rw [HN.out]; exact Nat.le_refl _), List.take_of_length_le (by rw [HM.out]; exact Nat.le_refl _)] at h1
          exact decide_eq_true h1
        go_wp2
        go_ret
        rw [HD.out]
        exact ⟨rfl, HS.out⟩
  · have HD : Hid (decide (xs = ys) = false) := decide_eq_false (fun h => hnm (by rw [← HN.out, ← HM.out, h]))
    have hb : ((n : Int) == (m : Int)) = false := by simp; omega
    have hb2 : ((n : Int) != (m : Int)) = true := by simp only [bne, hb]; rfl
    go_enter Try.func17, Try.ntmps17
    go_wp2
    go_ret
    rw [HD.out]
    exact ⟨rfl, HS0.out⟩
end Go.Proofs.Ytmahjeafoogamaa
