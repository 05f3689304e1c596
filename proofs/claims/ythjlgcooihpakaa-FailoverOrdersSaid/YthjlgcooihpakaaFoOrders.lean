/- The law FailoverOrders: the walk. -/
import Derived.Test.YthjlgcooihpakaaFoOrder
namespace Go.Proofs.Ythjlgcooihpakaa
open Go.RowKit
set_option linter.unusedVariables false
set_option linter.unusedSimpArgs false
/-- The sum of the ports' ends. -/
def sumP : List Svc → Int
  | [] => 0
  | s :: l => s.2.2.2.2.1.tmod 1000 + sumP l
theorem tmod_bd (x : Int) : -1000 < x.tmod 1000 ∧ x.tmod 1000 < 1000 := by
  have h1 := Int.tmod_lt_of_pos x (b := 1000) (by decide)
  have h2 := Int.tmod_lt_of_pos (-x) (b := 1000) (by decide)
  rw [Int.neg_tmod] at h2
  omega
theorem sumP_append (a b : List Svc) : sumP (a ++ b) = sumP a + sumP b := by
  induction a with
  | nil => simp [sumP]
  | cons s a ih => simp [sumP, ih, Int.add_assoc]
theorem sumP_snoc {l : List Svc} {j : Nat} {s : Svc} (h : l[j]? = some s) : sumP (l.take (j + 1)) = sumP (l.take j) + s.2.2.2.2.1.tmod 1000 := by
  rw [List.take_add_one, h, sumP_append]
  simp [sumP]
theorem sumP_bd (l : List Svc) (j : Nat) : -(999 * (j : Int)) ≤ sumP (l.take j) ∧ sumP (l.take j) ≤ 999 * (j : Int) := by
  induction j with
  | zero => simp [sumP]
  | succ j ih =>
    cases h : l[j]? with
    | none =>
      rw [List.take_add_one, h]
      simp only [Option.toList, List.append_nil]
      omega
    | some s =>
      rw [sumP_snoc h]
      have := tmod_bd s.2.2.2.2.1
      omega
theorem sumP_perm {a b : List Svc} (h : a.Perm b) : sumP a = sumP b := by
  induction h with
  | nil => rfl
  | cons x _ ih => simp only [sumP, ih]
  | swap x y l => simp only [sumP]; omega
  | trans _ _ h1 h2 => exact h1.trans h2
set_option maxRecDepth 100000 in
set_option maxHeartbeats 4000000 in
theorem foOrders_few {w : World} {okl okd : Nat → Prop} {A D : Option Addr} {n c dn dc : Nat} {l : List Svc} {xs : List Int} (hS : svcK.C w okl A l) (hn : l.length = n) (hn64 : n ≤ 64) (hD : (Kd.int .u32).C w okd D xs) (hdn : xs.length = dn) (hdc : xs.length ≤ dc) (hb : ∀ x ∈ xs, 0 ≤ x ∧ x < 4294967296) (hokl : ∀ b, okl b → b < w.heap.size) (hokd : ∀ b, okd b → b < w.heap.size) :
    Calls Try.prog 5 #[.slice A n c, .slice D xs.length dc] w fun e w' => e = .returned (.bool true) ∧ Chg nob w w' := by
  have HS := Lib.hid hS
  have HLN := Lib.hid hn
  have b64 : ¬ (64 : Int) < (n : Int) := by omega
  have HDR := Lib.hid hD
  have HDC := Lib.hid hdc
  have HDB := Lib.hid hb
  have HOK := Lib.hid hokl
  have HOKD := Lib.hid hokd
  obtain ⟨xn, hxn⟩ : ∃ xn, xs.length = xn := ⟨_, rfl⟩
  clear hS hn hD hdc hb hokl hokd hdn hxn
  go_enter Try.func5, Try.ntmps5
  go_wp2_with fail
  refine (draw_new (ok := okd) (c := dc) HDR.out HDC.out HDB.out).mono ?_
  rintro e w1 ⟨gd, rfl, hd, hc1⟩
  obtain ⟨ys, hys⟩ : ∃ ys, List.take 4096 xs = ys := ⟨_, rfl⟩
  rw [hys] at hd
  have HYS := Lib.hid hys
  have HC1 := Lib.hid hc1
  have HD1 := Lib.hid hd
  clear hd hc1 hys
  go_wp2_with fail
  refine (f_order (okd := fun b => w.heap.size ≤ b) (Kd.C_new HS.out HC1.out) HLN.out (by omega) (.of HD1.out) (fun b hb e => by have := HOK.out b e; omega) (fun b hb => Nat.lt_of_lt_of_le (HOK.out b hb) HC1.out.size)).mono ?_
  rintro e w2 ⟨A2, c2, rfl, hc2, hC2, hch2⟩
  have HC2 : Hid (Chg nob w w2) := HC1.out.trans hch2 (fun b hb => .inr hb)
  have HM2 := Lib.hid hC2
  clear hC2 hch2
  go_wp2_with fail
  have hrn := ref_new (ok := okd) (c := dc) (Kd.C_new HDR.out HC2.out) (fun b hb => Nat.lt_of_lt_of_le (HOKD.out b hb) HC2.out.size) HDC.out HDB.out
  refine hrn.mono ?_
  rintro e w3 ⟨gd2, rfl, hg2, hr3, hc3⟩
  rw [HYS.out] at hr3
  have HR3 := Lib.hid hr3
  have HC3 := Lib.hid hc3
  have hs02 := HC2.out.size
  clear hrn hr3 hc3
  go_wp2_with fail
  refine (r_order (Kd.C_new HS.out (HC2.out.thenNew HC3.out)) HLN.out (by omega) HR3.out (fun e => by have := HOK.out _ e; omega) (fun b hb => by have := HOKD.out b hb; have := HC3.out.size; omega) (fun b hb => by have := HOK.out b hb; have := HC3.out.size; omega)).mono ?_
  rintro e w4 ⟨A4, c4, rfl, hc4, hC4, hch4⟩
  have HC4 : Hid (Chg nob w w4) := (HC2.out.thenNew HC3.out).trans hch4 (fun b hb => .inr (by have hb : b = gd2 := hb; omega))
  have HM24 := Lib.hid (Kd.C_chg (Kd.C_new (Kd.C_bound HM2.out) HC3.out) hch4 (fun b hb e => by have e : b = gd2 := e; have := hb.2; omega))
  have HM4 := Lib.hid hC4
  have hpm := pickV_perm (xs := ys) HR3.out.bd (k := 0) (l := l) (by rw [HLN.out]; omega)
  rw [HLN.out] at hpm
  obtain ⟨M, hM⟩ : ∃ M, pickV l (drawOrd ys 0 ((n : Nat) : Int)).1 = M := ⟨_, rfl⟩
  rw [hM] at hpm HM24 HM4
  have HML : Hid (M.length = n) := by show _ = _; rw [hpm.length_eq, HLN.out]
  have HPM := Lib.hid hpm
  clear hch4 hC4 hpm hM
  go_wp2_with fail
  refine (r_sameV HML.out HM24.out HM4.out).mono ?_
  rintro e w5 ⟨rfl, hc5⟩
  have HC5 := Lib.hid (HC4.out.thenNew hc5)
  have HM5 := Lib.hid (Kd.C_new HM24.out hc5)
  clear hc5
  have hz1 : sumP (l.take 0) = 0 := rfl
  have hz2 : sumP (M.take 0) = 0 := rfl
  have HZ1 := Lib.hid hz1
  have HZ2 := Lib.hid hz2
  clear hz1 hz2
  go_wp2
  go_loopw [6, 7, 8] (fun a b i wr => ∃ (j : Nat) (x y : Int), j ≤ n ∧ a = .int .i64 x ∧ b = .int .i64 y ∧ i = .int .i64 j ∧ -63936 ≤ x ∧ x ≤ 63936 ∧ -63936 ≤ y ∧ y ≤ 63936 ∧ Hid (sumP (l.take j) = x) ∧ Hid (sumP (M.take j) = y) ∧ wr = w5) (fun _ _ i _ => n - (intOf i).toNat)
  case atStart => exact ⟨0, 0, 0, Nat.zero_le _, rfl, rfl, rfl, by omega, by omega, by omega, by omega, HZ1, HZ2, rfl⟩
  case round =>
    obtain ⟨j, x, y, hj, rfl, rfl, rfl, hx1, hx2, hy1, hy2, HSX, HSY, rfl⟩ := hrel
    clear HZ1 HZ2
    by_cases hlt : j < n
    · have b1 : (j : Int) < ((n : Nat) : Int) := by omega
      have b3 : (0 : Int) ≤ (j : Int) := by omega
      obtain ⟨s, hs⟩ : ∃ s, l[j]? = some s := ⟨_, List.getElem?_eq_getElem (by rw [HLN.out]; exact hlt)⟩
      obtain ⟨t, ht⟩ : ∃ t, M[j]? = some t := ⟨_, List.getElem?_eq_getElem (by rw [HML.out]; exact hlt)⟩
      obtain ⟨sb, so, L, d, rfl, _, hat, _, _, _⟩ := svc_at (Kd.C_new HS.out HC5.out) hs
      obtain ⟨tb, tq, L2, d2, rfl, _, hat2, _, _, _⟩ := svc_at HM5.out ht
      have p4 := hat.c4
      have r4 := hat2.c4
      have HX2 : Hid (sumP (l.take (j + 1)) = x + s.2.2.2.2.1.tmod 1000) := by show _ = _; rw [sumP_snoc hs, HSX.out]
      have HY2 : Hid (sumP (M.take (j + 1)) = y + t.2.2.2.2.1.tmod 1000) := by show _ = _; rw [sumP_snoc ht, HSY.out]
      have hb1 := sumP_bd l (j + 1)
      have hb2 := sumP_bd M (j + 1)
      rw [HX2.out] at hb1
      rw [HY2.out] at hb2
      have hm1 := tmod_bd s.2.2.2.2.1
      have hm2 := tmod_bd t.2.2.2.2.1
      obtain ⟨pv, hpv⟩ : ∃ pv, s.2.2.2.2.1 = pv := ⟨_, rfl⟩
      obtain ⟨qv, hqv⟩ : ∃ qv, t.2.2.2.2.1 = qv := ⟨_, rfl⟩
      rw [hpv] at p4 HX2 hb1 hm1
      rw [hqv] at r4 HY2 hb2 hm2
      clear hs ht hat hat2 hpv hqv
      go_wp2
      exact ⟨⟨j + 1, _, _, by omega, rfl, rfl, by go_num, by omega, by omega, by omega, by omega, HX2, HY2, trivial⟩, by simp [intOf]; omega⟩
    · have b1 : ¬ (j : Int) < ((n : Nat) : Int) := by omega
      have hxy : x = y := by
        have e1 : List.take j l = l := List.take_of_length_le (by rw [HLN.out]; omega)
        have e2 : List.take j M = M := List.take_of_length_le (by rw [HML.out]; omega)
        rw [← HSX.out, ← HSY.out, e1, e2]
        exact (sumP_perm HPM.out).symm
      subst hxy
      have t1 : (x == x) = true := by simp
      go_wp2_with fail
      refine (fo_works _).mono ?_
      rintro e w6 ⟨rfl, hc6⟩
      have HC6 := Lib.hid (HC5.out.thenNew hc6)
      clear hc6
      go_wp2
      go_ret
      exact ⟨rfl, HC6.out⟩
set_option maxRecDepth 100000 in
set_option maxHeartbeats 4000000 in
theorem foOrders_many {w : World} {okl okd : Nat → Prop} {A D : Option Addr} {n c dn dc : Nat} {l : List Svc} {xs : List Int} (hS : svcK.C w okl A l) (hn : l.length = n) (hn64 : 64 < n) (hnc : n ≤ c) (hD : (Kd.int .u32).C w okd D xs) (hdn : xs.length = dn) (hdc : xs.length ≤ dc) (hb : ∀ x ∈ xs, 0 ≤ x ∧ x < 4294967296) (hokl : ∀ b, okl b → b < w.heap.size) (hokd : ∀ b, okd b → b < w.heap.size) :
    Calls Try.prog 5 #[.slice A n c, .slice D xs.length dc] w fun e w' => e = .returned (.bool true) ∧ Chg nob w w' := by
  have HS := Lib.hid (Kd.C_take hS 64 (by omega))
  have HLN : Hid ((l.take 64).length = 64) := by show _ = _; rw [List.length_take, hn]; omega
  have b64 : (64 : Int) < (n : Int) := by omega
  have b65 : (64 : Int) ≤ (c : Int) := by omega
  have HDR := Lib.hid hD
  have HDC := Lib.hid hdc
  have HDB := Lib.hid hb
  have HOK := Lib.hid hokl
  have HOKD := Lib.hid hokd
  obtain ⟨xn, hxn⟩ : ∃ xn, xs.length = xn := ⟨_, rfl⟩
  clear hS hn hD hdc hb hokl hokd hdn hxn
  go_enter Try.func5, Try.ntmps5
  go_wp2_with fail
  refine (draw_new (ok := okd) (c := dc) HDR.out HDC.out HDB.out).mono ?_
  rintro e w1 ⟨gd, rfl, hd, hc1⟩
  obtain ⟨ys, hys⟩ : ∃ ys, List.take 4096 xs = ys := ⟨_, rfl⟩
  rw [hys] at hd
  have HYS := Lib.hid hys
  have HC1 := Lib.hid hc1
  have HD1 := Lib.hid hd
  clear hd hc1 hys
  go_wp2_with fail
  refine (f_order (okd := fun b => w.heap.size ≤ b) (Kd.C_new HS.out HC1.out) HLN.out (by omega) (.of HD1.out) (fun b hb e => by have := HOK.out b e; omega) (fun b hb => Nat.lt_of_lt_of_le (HOK.out b hb) HC1.out.size)).mono ?_
  rintro e w2 ⟨A2, c2, rfl, hc2, hC2, hch2⟩
  have HC2 : Hid (Chg nob w w2) := HC1.out.trans hch2 (fun b hb => .inr hb)
  have HM2 := Lib.hid hC2
  clear hC2 hch2
  go_wp2_with fail
  have hrn := ref_new (ok := okd) (c := dc) (Kd.C_new HDR.out HC2.out) (fun b hb => Nat.lt_of_lt_of_le (HOKD.out b hb) HC2.out.size) HDC.out HDB.out
  refine hrn.mono ?_
  rintro e w3 ⟨gd2, rfl, hg2, hr3, hc3⟩
  rw [HYS.out] at hr3
  have HR3 := Lib.hid hr3
  have HC3 := Lib.hid hc3
  have hs02 := HC2.out.size
  clear hrn hr3 hc3
  go_wp2_with fail
  refine (r_order (Kd.C_new HS.out (HC2.out.thenNew HC3.out)) HLN.out (by omega) HR3.out (fun e => by have := HOK.out _ e; omega) (fun b hb => by have := HOKD.out b hb; have := HC3.out.size; omega) (fun b hb => by have := HOK.out b hb; have := HC3.out.size; omega)).mono ?_
  rintro e w4 ⟨A4, c4, rfl, hc4, hC4, hch4⟩
  have HC4 : Hid (Chg nob w w4) := (HC2.out.thenNew HC3.out).trans hch4 (fun b hb => .inr (by have hb : b = gd2 := hb; omega))
  have HM24 := Lib.hid (Kd.C_chg (Kd.C_new (Kd.C_bound HM2.out) HC3.out) hch4 (fun b hb e => by have e : b = gd2 := e; have := hb.2; omega))
  have HM4 := Lib.hid hC4
  have hpm := pickV_perm (xs := ys) HR3.out.bd (k := 0) (l := (l.take 64)) (by rw [HLN.out]; omega)
  rw [HLN.out] at hpm
  obtain ⟨M, hM⟩ : ∃ M, pickV (l.take 64) (drawOrd ys 0 ((64 : Nat) : Int)).1 = M := ⟨_, rfl⟩
  rw [hM] at hpm HM24 HM4
  have HML : Hid (M.length = 64) := by show _ = _; rw [hpm.length_eq, HLN.out]
  have HPM := Lib.hid hpm
  clear hch4 hC4 hpm hM
  go_wp2_with fail
  refine (r_sameV HML.out HM24.out HM4.out).mono ?_
  rintro e w5 ⟨rfl, hc5⟩
  have HC5 := Lib.hid (HC4.out.thenNew hc5)
  have HM5 := Lib.hid (Kd.C_new HM24.out hc5)
  clear hc5
  have hz1 : sumP ((l.take 64).take 0) = 0 := rfl
  have hz2 : sumP (M.take 0) = 0 := rfl
  have HZ1 := Lib.hid hz1
  have HZ2 := Lib.hid hz2
  clear hz1 hz2
  go_wp2
  go_loopw [6, 7, 8] (fun a b i wr => ∃ (j : Nat) (x y : Int), j ≤ 64 ∧ a = .int .i64 x ∧ b = .int .i64 y ∧ i = .int .i64 j ∧ -63936 ≤ x ∧ x ≤ 63936 ∧ -63936 ≤ y ∧ y ≤ 63936 ∧ Hid (sumP ((l.take 64).take j) = x) ∧ Hid (sumP (M.take j) = y) ∧ wr = w5) (fun _ _ i _ => 64 - (intOf i).toNat)
  case atStart => exact ⟨0, 0, 0, Nat.zero_le _, rfl, rfl, rfl, by omega, by omega, by omega, by omega, HZ1, HZ2, rfl⟩
  case round =>
    obtain ⟨j, x, y, hj, rfl, rfl, rfl, hx1, hx2, hy1, hy2, HSX, HSY, rfl⟩ := hrel
    clear HZ1 HZ2
    by_cases hlt : j < 64
    · have b1 : (j : Int) < ((64 : Nat) : Int) := by omega
      have b3 : (0 : Int) ≤ (j : Int) := by omega
      obtain ⟨s, hs⟩ : ∃ s, (l.take 64)[j]? = some s := ⟨_, List.getElem?_eq_getElem (by rw [HLN.out]; exact hlt)⟩
      obtain ⟨t, ht⟩ : ∃ t, M[j]? = some t := ⟨_, List.getElem?_eq_getElem (by rw [HML.out]; exact hlt)⟩
      obtain ⟨sb, so, L, d, rfl, _, hat, _, _, _⟩ := svc_at (Kd.C_new HS.out HC5.out) hs
      obtain ⟨tb, tq, L2, d2, rfl, _, hat2, _, _, _⟩ := svc_at HM5.out ht
      have p4 := hat.c4
      have r4 := hat2.c4
      have HX2 : Hid (sumP ((l.take 64).take (j + 1)) = x + s.2.2.2.2.1.tmod 1000) := by show _ = _; rw [sumP_snoc hs, HSX.out]
      have HY2 : Hid (sumP (M.take (j + 1)) = y + t.2.2.2.2.1.tmod 1000) := by show _ = _; rw [sumP_snoc ht, HSY.out]
      have hb1 := sumP_bd (l.take 64) (j + 1)
      have hb2 := sumP_bd M (j + 1)
      rw [HX2.out] at hb1
      rw [HY2.out] at hb2
      have hm1 := tmod_bd s.2.2.2.2.1
      have hm2 := tmod_bd t.2.2.2.2.1
      obtain ⟨pv, hpv⟩ : ∃ pv, s.2.2.2.2.1 = pv := ⟨_, rfl⟩
      obtain ⟨qv, hqv⟩ : ∃ qv, t.2.2.2.2.1 = qv := ⟨_, rfl⟩
      rw [hpv] at p4 HX2 hb1 hm1
      rw [hqv] at r4 HY2 hb2 hm2
      clear hs ht hat hat2 hpv hqv
      go_wp2
      exact ⟨⟨j + 1, _, _, by omega, rfl, rfl, by go_num, by omega, by omega, by omega, by omega, HX2, HY2, trivial⟩, by simp [intOf]; omega⟩
    · have b1 : ¬ (j : Int) < ((64 : Nat) : Int) := by omega
      have hxy : x = y := by
        have e1 : List.take j (l.take 64) = (l.take 64) := List.take_of_length_le (by rw [HLN.out]; omega)
        have e2 : List.take j M = M := List.take_of_length_le (by rw [HML.out]; omega)
        rw [← HSX.out, ← HSY.out, e1, e2]
        exact (sumP_perm HPM.out).symm
      subst hxy
      have t1 : (x == x) = true := by simp
      go_wp2_with fail
      refine (fo_works _).mono ?_
      rintro e w6 ⟨rfl, hc6⟩
      have HC6 := Lib.hid (HC5.out.thenNew hc6)
      clear hc6
      go_wp2
      go_ret
      exact ⟨rfl, HC6.out⟩
theorem foOrders_walk {w : World} {okl okd : Nat → Prop} {A D : Option Addr} {n c dc : Nat} {l : List Svc} {xs : List Int} (hS : svcK.C w okl A l) (hn : l.length = n) (hnc : n ≤ c) (hD : (Kd.int .u32).C w okd D xs) (hdc : xs.length ≤ dc) (hb : ∀ x ∈ xs, 0 ≤ x ∧ x < 4294967296) (hokl : ∀ b, okl b → b < w.heap.size) (hokd : ∀ b, okd b → b < w.heap.size) :
    Calls Try.prog 5 #[.slice A n c, .slice D xs.length dc] w fun e w' => e = .returned (.bool true) ∧ Chg nob w w' := by
  by_cases h : n ≤ 64
  · exact foOrders_few hS hn h hD rfl hdc hb hokl hokd
  · exact foOrders_many hS hn (by omega) hnc hD rfl hdc hb hokl hokd
end Go.Proofs.Ythjlgcooihpakaa
