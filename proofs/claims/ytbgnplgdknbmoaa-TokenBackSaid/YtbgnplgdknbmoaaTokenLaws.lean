/- Tokens: the walks of TokenChecks, TokenOnce and TokenBack. -/
import Derived.Test.YtbgnplgdknbmoaaTokenWorks
namespace Go.Proofs.Ytbgnplgdknbmoaa
open Go.RowKit
set_option linter.unusedVariables false
set_option linter.unusedSimpArgs false
/-- The key, in block n; the bytes; a token in block tb. -/
theorem tok_alloc {w0 w : World} {n k0 k1 : Nat} {A : Option Addr} {bs : List UInt8} (h : KeySt w0 n k0 k1 A bs w) (T : Tok) : KeySt w0 n k0 k1 A bs (w.alloc (.cells (tokV T) 26)) ∧ (w.alloc (.cells (tokV T) 26)).heap[w.heap.size]? = some (.cells (tokV T) 26 (0, 0)) :=
  ⟨h.new ((Chg.refl _ _).alloc _), heap_alloc_new w _⟩
set_option maxRecDepth 100000 in
set_option maxHeartbeats 4000000 in
theorem tokenChecks_walk {w : World} {k0 k1 : Nat} (h0 : k0 < 18446744073709551616) (h1 : k1 < 18446744073709551616) {A : Option Addr} {m c : Nat} {bs : List UInt8} (hb : Kd.byte.C w (fun b => b < w.heap.size) A bs) (hm : bs.length = m) (hmc : m ≤ c) (hl : m ≤ 1000000000) :
    Calls Try.prog 4 #[.agg #[.int .u64 k0, .int .u64 k1], .slice A m c] w fun e w' => e = .returned (.bool true) ∧ Chg nob w w' := by
  have hst := key_start 23 k0 k1 hb
  obtain ⟨d0, d1⟩ := hst.c
  have HM := Lib.hid hm
  have HST := Lib.hid hst
  clear hst hb hm
  go_enter Try.func4, Try.ntmps4
  go_wp2_with fail
  refine (c_check h0 h1 (Kd.C_mono HST.out.b HST.out.lt) HM.out hmc hl).mono ?_
  rintro e w1 ⟨rfl, hc⟩
  obtain ⟨T, f, hR⟩ : ∃ T f, chkR k0 k1 bs = (T, f) := ⟨_, _, rfl⟩
  have HR := Lib.hid hR
  rw [hR]
  obtain ⟨hk, ha⟩ := tok_alloc (HST.out.new hc) T
  have HA := Lib.hid ha
  have HK := Lib.hid hk
  clear hR d0 d1 hc HST ha
  obtain ⟨d0, d1⟩ := hk.c
  clear hk
  simp only at HA HK d0 d1 ⊢
  unfold tokV at HA HK d0 d1 ⊢
  go_wp2_with fail
  generalize w1.alloc _ = x1 at HA HK d0 d1 ⊢
  refine (c_rcheck h0 h1 (Kd.C_mono HK.out.b HK.out.lt) HM.out hmc hl).mono ?_
  rintro e w2 ⟨rfl, hc⟩
  rw [HR.out]
  have hz2 := Chg.alloc (Chg.refl nob w2) (.cells (tokV T) 26)
  have HA2 := Lib.hid (hz2.heap (hc.heap HA.out (not_nob _)) (not_nob _))
  obtain ⟨hk, ha⟩ := tok_alloc (HK.out.new hc) T
  have HB := Lib.hid ha
  have HK2 := Lib.hid hk
  clear d0 d1 hc HK ha hz2 HA
  obtain ⟨d0, d1⟩ := hk.c
  have HK := HK2
  clear hk HK2
  simp only at HA2 HB HK d0 d1 ⊢
  unfold tokV at HA2 HB HK d0 d1 ⊢
  go_wp2_with fail
  generalize w2.alloc _ = x2 at HA2 HB HK d0 d1 ⊢
  refine (c_read (Kd.C_mono HK.out.b HK.out.lt) HM.out hmc hl).mono ?_
  rintro e w3 ⟨rfl, hc⟩
  obtain ⟨U, g, hR⟩ : ∃ U g, redR bs = (U, g) := ⟨_, _, rfl⟩
  have HS := Lib.hid hR
  rw [hR]
  clear hR
  have hz3 := Chg.alloc (Chg.refl nob w3) (.cells (tokV U) 26)
  have HA3 := Lib.hid (hz3.heap (hc.heap HA2.out (not_nob _)) (not_nob _))
  have HB3 := Lib.hid (hz3.heap (hc.heap HB.out (not_nob _)) (not_nob _))
  obtain ⟨hk, ha⟩ := tok_alloc (HK.out.new hc) U
  have HC := Lib.hid ha
  have HK3 := Lib.hid hk
  clear d0 d1 hc HK ha hz3 HA2 HB
  obtain ⟨d0, d1⟩ := hk.c
  have HK := HK3
  clear hk HK3
  simp only at HA3 HB3 HC HK d0 d1 ⊢
  unfold tokV at HA3 HB3 HC HK d0 d1 ⊢
  go_wp2_with fail
  generalize w3.alloc _ = x3 at HA3 HB3 HC HK d0 d1 ⊢
  refine (c_rread (Kd.C_mono HK.out.b HK.out.lt) HM.out hmc hl).mono ?_
  rintro e w4 ⟨rfl, hc⟩
  rw [HS.out]
  have hz4 := Chg.alloc (Chg.refl nob w4) (.cells (tokV U) 26)
  have HA4 := Lib.hid (hz4.heap (hc.heap HA3.out (not_nob _)) (not_nob _))
  have HB4 := Lib.hid (hz4.heap (hc.heap HB3.out (not_nob _)) (not_nob _))
  have HC4 := Lib.hid (hz4.heap (hc.heap HC.out (not_nob _)) (not_nob _))
  obtain ⟨hk, ha⟩ := tok_alloc (HK.out.new hc) U
  have HD := Lib.hid ha
  have HK4 := Lib.hid hk
  clear d0 d1 hc HK ha hz4 HA3 HB3 HC
  obtain ⟨d0, d1⟩ := hk.c
  have HK := HK4
  clear hk HK4
  simp only at HA4 HB4 HC4 HD HK d0 d1 ⊢
  unfold tokV at HA4 HB4 HC4 HD HK d0 d1 ⊢
  obtain ⟨a0, a1, a2, a3⟩ := t_cells HA4.out
  obtain ⟨e0, e1, e2, e3⟩ := t_cells HB4.out
  obtain ⟨f0, f1, f2, f3⟩ := t_cells HC4.out
  obtain ⟨g0, g1, g2, g3⟩ := t_cells HD.out
  go_wp2_with fail
  refine (tok_works _).mono ?_
  rintro e w9 ⟨rfl, hc9⟩
  have hfin := HK.out.chg.thenNew hc9
  clear hc9
  go_wp2
  go_ret
  exact ⟨rfl, hfin⟩
set_option maxRecDepth 100000 in
set_option maxHeartbeats 4000000 in
theorem tokenOnce_walk {w : World} {k0 k1 : Nat} (h0 : k0 < 18446744073709551616) (h1 : k1 < 18446744073709551616) {A : Option Addr} {m c : Nat} {bs : List UInt8} (hb : Kd.byte.C w (fun b => b < w.heap.size) A bs) (hm : bs.length = m) (hmc : m ≤ c) (hl : m ≤ 1000000000) :
    Calls Try.prog 5 #[.agg #[.int .u64 k0, .int .u64 k1], .slice A m c] w fun e w' => e = .returned (.bool true) ∧ Chg nob w w' := by
  have hst := key_start 23 k0 k1 hb
  obtain ⟨d0, d1⟩ := hst.c
  have HM := Lib.hid hm
  have HST := Lib.hid hst
  clear hst hb hm
  go_enter Try.func5, Try.ntmps5
  go_wp2_with fail
  refine (c_check h0 h1 (Kd.C_mono HST.out.b HST.out.lt) HM.out hmc hl).mono ?_
  rintro e w1 ⟨rfl, hc⟩
  by_cases hz : (chkR k0 k1 bs).2 = 0
  · obtain ⟨T, hR, hbs, hok, hi, hx⟩ := chkR_back hz
    rw [hR]
    have HBS := Lib.hid hbs
    have HOK := Lib.hid hok
    obtain ⟨hk, ha⟩ := tok_alloc (HST.out.new hc) T
    have HA := Lib.hid ha
    have HK := Lib.hid hk
    clear hR hz d0 d1 hc HST ha hbs hok
    obtain ⟨d0, d1⟩ := hk.c
    clear hk
    simp only at HA HK d0 d1 ⊢
    unfold tokV at HA HK d0 d1 ⊢
    obtain ⟨a0, a1, a2, a3⟩ := t_cells HA.out
    obtain ⟨q, hq⟩ : ∃ q, (tokB T.1 T.2.1 T.2.2.1 T.2.2.2).length = q := ⟨_, rfl⟩
    have HQ := Lib.hid hq
    clear hq
    go_wp2_with fail
    generalize w1.alloc _ = x1 at HA HK d0 d1 a0 a1 a2 a3 ⊢
    refine (t_issue h0 h1 T.1 T.2.1 T.2.2.1 T.2.2.2 HOK.out hi hx HQ.out).mono ?_
    rintro e w2 ⟨A2, c2, rfl, ⟨hl2, hmc2, hC2⟩, hc2⟩
    rw [← HBS.out] at hl2 hC2
    have hK2 := HK.out.new hc2
    have hcv1 := fun cx => run_conv (P := Try.prog) (src := 27) (dst := 9) (e := 5) (c := cx) hC2 hl2.out (by kernel_rfl) (by kernel_rfl) (by kernel_rfl)
    have hcv2 := fun cx => run_conv (P := Try.prog) (src := 27) (dst := 9) (e := 5) (c := cx) hK2.b HM.out (by kernel_rfl) (by kernel_rfl) (by kernel_rfl)
    have HK2 := Lib.hid hK2
    clear hC2 hl2 hK2 hc2 d0 d1 a0 a1 a2 a3
    go_wp2_with fail
    refine (tok_works _).mono ?_
    rintro e w9 ⟨rfl, hc9⟩
    have hfin := HK2.out.chg.thenNew hc9
    clear hc9
    go_wp2
    go_ret
    exact ⟨rfl, hfin⟩
  · have hT := chkR_zero hz
    obtain ⟨f, hf⟩ : ∃ f, (chkR k0 k1 bs).2 = f := ⟨_, rfl⟩
    rw [hT, hf]
    rw [hf] at hz
    obtain ⟨hk, ha⟩ := tok_alloc (HST.out.new hc) zeroT
    have HA := Lib.hid ha
    have HK := Lib.hid hk
    have hfb : ((f : Int) == 0) = false := by simp; omega
    clear hT hf d0 d1 hc HST ha
    obtain ⟨d0, d1⟩ := hk.c
    clear hk
    rw [show Value.agg (tokV zeroT) = Value.agg #[.string (ByteArray.mk #[]), .int .i64 0, .int .u32 0, .int .u64 0] from rfl]
    have HA2 : Hid ((w1.alloc (.cells #[.string (ByteArray.mk #[]), .int .i64 0, .int .u32 0, .int .u64 0] 26)).heap[w1.heap.size]? = some (.cells #[.string (ByteArray.mk #[]), .int .i64 0, .int .u32 0, .int .u64 0] 26 (0, 0))) := HA.out
    have HK2 : Hid (KeySt w w.heap.size k0 k1 A bs (w1.alloc (.cells #[.string (ByteArray.mk #[]), .int .i64 0, .int .u32 0, .int .u64 0] 26))) := HK.out
    obtain ⟨a0, a1, a2, a3⟩ := t_cells HA2.out
    clear HA HK d0 d1 hz
    go_wp2_with fail
    refine (tok_works _).mono ?_
    rintro e w9 ⟨rfl, hc9⟩
    have hfin := HK2.out.chg.thenNew hc9
    clear hc9
    go_wp2
    go_ret
    exact ⟨rfl, hfin⟩
end Go.Proofs.Ytbgnplgdknbmoaa
