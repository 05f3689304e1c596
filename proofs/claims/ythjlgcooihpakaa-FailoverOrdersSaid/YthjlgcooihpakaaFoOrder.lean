/- Failover: services in an order that is drawn: the program's and the reference's. -/
import Derived.Test.YthjlgcooihpakaaFoWorks
import Derived.Test.YthjlgcooihpakaaSvcSame
import Derived.Test.YthjlgcooihpakaaDrawRef
import Derived.Test.YthjlgcooihpakaaDrawPerm
namespace Go.Proofs.Ythjlgcooihpakaa
open Go.RowKit
set_option linter.unusedVariables false
set_option linter.unusedSimpArgs false
def pickV (l : List Svc) (o : List Int) : List Svc := o.map (fun i => l.getD i.toNat (0, ByteArray.empty, ByteArray.empty, [], 0, 0, 0))
theorem pickV_length {l : List Svc} {o : List Int} : (pickV l o).length = o.length := by simp [pickV]
theorem pickV_snoc {l : List Svc} {o : List Int} {j q : Nat} {y : Svc} (ho : o[j]? = some (q : Int)) (hy : l[q]? = some y) : (pickV l o).take j ++ [y] = (pickV l o).take (j + 1) := by
  rw [List.take_add_one]
  congr 1
  unfold pickV
  rw [List.getElem?_map, ho]
  simp only [Option.map_some, Int.toNat_natCast, List.getD_eq_getElem?_getD, hy, Option.getD_some]
  rfl
theorem pickV_places {l : List Svc} : pickV l (places l.length) = l := by
  unfold pickV places
  rw [List.map_map]
  apply List.ext_getElem
  · simp
  · intro i h1 h2
    simp [List.getD_eq_getElem?_getD, List.getElem?_eq_getElem h2]
theorem pickV_perm {xs : List Int} (hx : ∀ x ∈ xs, 0 ≤ x ∧ x < 4294967296) {k : Nat} {l : List Svc} (hl : l.length ≤ 64) : (pickV l (drawOrd xs k l.length).1).Perm l := by
  have h1 := (drawOrd_perm xs hx k l.length).map (fun i => l.getD i.toNat (0, ByteArray.empty, ByteArray.empty, [], 0, 0, 0))
  have h2 : ordM (l.length : Int) = l.length := by unfold ordM; omega
  rw [h2] at h1
  exact h1.trans (by rw [show List.map (fun i : Int => l.getD i.toNat (0, ByteArray.empty, ByteArray.empty, [], 0, 0, 0)) (places l.length) = pickV l (places l.length) from rfl, pickV_places])
set_option maxHeartbeats 2000000 in
theorem f_order {w : World} {okl okd : Nat → Prop} {A : Option Addr} {n c k : Nat} {l : List Svc} {xs : List Int} {p : Option Addr} (hS : svcK.C w okl A l) (hn : l.length = n) (hn64 : n ≤ 64) (hD : IsD w okd p xs k) (hdis : ∀ b, okd b → ¬ okl b) (hokl : ∀ b, okl b → b < w.heap.size) :
    Calls Try.prog 13 #[.slice A n c, .pointer p] w fun e w' => ∃ A' c', e = .returned (.slice A' n c') ∧ n ≤ c' ∧ svcK.C w' (fun b => b < w'.heap.size) A' (pickV l (drawOrd xs k n).1) ∧ Chg okd w w' := by
  have HS := Lib.hid hS
  have HN := Lib.hid hn
  have HD := Lib.hid hD
  have HDIS := Lib.hid hdis
  have HOK0 := Lib.hid hokl
  have HO := Lib.hid (drawOrd_ordered xs hD.bd k n)
  have b64 : ¬ (64 : Int) < (n : Int) := by omega
  clear hS hn hD hdis hokl
  go_enter Try.func13, Try.ntmps13
  go_wp2_with fail
  refine Calls.mono (d_order HD.out (n : Int)) ?_
  intro e w2 hp
  obtain ⟨A2, c2, rfl, hl2, hC2, hd2, hc2⟩ := hp.list
  clear hp
  have hM : ordM (n : Int) = n := by unfold ordM; omega
  have hlen : (drawOrd xs k n).1.length = n := by rw [HO.out.len, hM]
  have HMEM : Hid (∀ j, j < n → ∃ q : Nat, (drawOrd xs k n).1[j]? = some (q : Int) ∧ q < n) := by
    intro j hj
    have hj2 : j < (drawOrd xs k n).1.length := by rw [hlen]; exact hj
    obtain ⟨q, hq, hqn⟩ := HO.out.mem _ (List.getElem_mem hj2)
    exact ⟨q, by rw [List.getElem?_eq_getElem hj2, hq], by rw [hM] at hqn; exact hqn⟩
  obtain ⟨o, ho⟩ : ∃ o, (drawOrd xs k n).1 = o := ⟨_, rfl⟩
  rw [hlen]
  rw [ho] at hC2 HMEM hlen hl2
  have HOO := Lib.hid ho
  have HD2 := Lib.hid hd2
  have HC2 := Lib.hid hc2
  have HA2 := Lib.hid hC2
  have HOL := Lib.hid hlen
  have HS2 := Lib.hid (Kd.C_chg HS.out hc2 (fun b hb e => HDIS.out b e hb))
  have HR0 : Hid (svcK.R 58 w2 w2.heap.size (fun b => okl b ∨ w2.heap.size ≤ b) (.slice none 0 0) ((pickV l o).take 0)) := Kd.R_nil _ _ _ _ _
  have HC0 := Lib.hid (Chg.refl nob w2)
  have hs12 := hc2.size
  clear hC2 hd2 hc2 hlen HO ho hM hl2
  have HOK : Hid (∀ b, okl b → b < w2.heap.size) := fun b hb => Nat.lt_of_lt_of_le (HOK0.out b hb) hs12
  go_wp2
  go_loopw [5, 14] (fun v i wr => ∃ (j : Nat) (V : Option Addr) (cv : Nat), j ≤ n ∧ v = .slice V j cv ∧ i = .int .i64 j ∧ Hid (svcK.R 58 wr w2.heap.size (fun b => okl b ∨ w2.heap.size ≤ b) (.slice V j cv) ((pickV l o).take j)) ∧ Hid (Chg nob w2 wr)) (fun v i _ => n - (intOf i).toNat)
  case atStart => exact ⟨0, none, 0, Nat.zero_le _, rfl, rfl, HR0, HC0⟩
  case round =>
    obtain ⟨j, V, cv, hj, rfl, rfl, HR, HC⟩ := hrel
    clear HR0 HC0
    have HLT : Hid (((pickV l o).take j).length = j) := by show _ = _; rw [List.length_take, pickV_length, HOL.out]; omega
    by_cases hlt : j < n
    · have b1 : (j : Int) < (n : Int) := by omega
      have b3 : (0 : Int) ≤ (j : Int) := by omega
      obtain ⟨q, hq, hqn⟩ := HMEM.out j hlt
      obtain ⟨y, hy⟩ : ∃ y, l[q]? = some y := ⟨_, List.getElem?_eq_getElem (by rw [HN.out]; exact hqn)⟩
      obtain ⟨ad2, rfl, _, hcell2⟩ := at_scalar (Kd.C_new HA2.out HC.out) hq
      obtain ⟨sb, so, L, d, rfl, _, hat, hCt, hd, hts⟩ := svc_at (Kd.C_new HS2.out HC.out) hy
      obtain ⟨xn, hxn⟩ : ∃ xn, y.2.2.2.1.length = xn := ⟨_, rfl⟩
      rw [hxn] at hat hd hts
      obtain ⟨p0, p1, p2, p3, p4, p5, p6⟩ := hat
      have b4 : (q : Int) < (n : Int) := by omega
      have b5 : (0 : Int) ≤ (q : Int) := by omega
      have HSN := Lib.hid (pickV_snoc (l := l) hq hy)
      have hsv : svcK.K wr (fun b => okl b) y (svcV y L d xn).toList := by
        have := svc_mk (w := wr) (ok := okl) (x := y) (L := L) (d := d) hCt (by rw [hxn]; exact hd) (by rw [hxn]; exact hts)
        rw [hxn] at this
        exact this
      have HSV := Lib.hid hsv
      clear hq hy hsv hCt hxn hts hd
      go_wp2_with (at_builtin; refine wp_append1 (d := svcK) rfl _ _ 27 rfl 58 (.agg #[.int .i64 0, .string ByteArray.empty, .string ByteArray.empty, .slice none 0 0, .int .i64 0, .int .u64 0, .int .u64 0]) 88 Try.underlying27 l_cloneV_info rfl w2.heap.size _ okl (.slice V j cv) ((pickV l o).take j) y (svcV y L d xn) rfl rfl HR.out HSV.out ?_ ?_ ?_ HC.out.size (j + 1) (by rw [HLT.out]) ?_)
      · intro b hb e
        have h1 := (Kd.R_own HR.out b e.symm).1
        have h2 := HOK.out b hb
        omega
      · rw [HLT.out]; simp only [maxLen]; omega
      · rw [HLT.out]; omega
      intro A5 c5 w5 hR5 hC5 _
      have HR5 : Hid (svcK.R 58 w5 w2.heap.size (fun b => okl b ∨ w2.heap.size ≤ b) (.slice A5 (j + 1) c5) ((pickV l o).take (j + 1))) := by
        show Kd.R _ _ _ _ _ _ _
        rw [← HSN.out]
        have h3 := HC.out.size
        refine Kd.R_mono hR5 (fun b hb => ?_)
        rcases hb with hb | hb | hb
        · exact hb
        · exact .inl hb
        · exact .inr (by omega)
      have HC5 : Hid (Chg nob w2 w5) := HC.out.trans hC5 (fun i hi => .inr (Kd.R_own HR.out i hi.symm).1)
      clear hR5 hC5 p0 p1 p2 p3 p4 p5 p6 hcell2
      go_wp2
      exact ⟨⟨j + 1, A5, c5, by omega, rfl, by go_num, HR5, HC5⟩, by simp [intOf]; omega⟩
    · obtain rfl : j = n := by omega
      have b1 : ¬ (j : Int) < (j : Int) := by omega
      have hR := HR.out
      rw [List.take_of_length_le (by rw [pickV_length, HOL.out]; exact Nat.le_refl _)] at hR
      have HPL : Hid ((pickV l o).length = j) := by show _ = _; rw [pickV_length, HOL.out]
      obtain ⟨k1, k2, k3⟩ := Kd.R_read hR
      have HK := Lib.hid k1
      clear hR k1 k2
      go_wp2_with fail
      refine (f_own HK.out HPL.out (by omega)).mono ?_
      rintro e w4 ⟨A4, c4, rfl, hc4, hR4, hch4⟩
      rw [HPL.out] at hc4 hR4 ⊢
      have HK4 := Lib.hid (Kd.C_bound (Kd.R_read hR4).1)
      have HCF : Hid (Chg okd w w4) := (HC2.out.thenNew HC.out).thenNew hch4
      clear hR4 hch4
      go_wp2
      go_ret
      exact ⟨A4, c4, rfl, hc4, by rw [HOO.out]; exact Kd.C_mono HK4.out (fun b hb => hb.2), HCF.out⟩
set_option maxHeartbeats 2000000 in
theorem r_order {w : World} {okl okd : Nat → Prop} {A : Option Addr} {n c k gd : Nat} {l : List Svc} {xs : List Int} (hS : svcK.C w okl A l) (hn : l.length = n) (hn64 : n ≤ 64) (hD : IsRef w okd gd xs k) (hdis : ¬ okl gd) (hokd : ∀ b, okd b → b < w.heap.size) (hokl : ∀ b, okl b → b < w.heap.size) :
    Calls Try.prog 15 #[.slice A n c, .pointer (some ⟨gd, 0, none⟩)] w fun e w' => ∃ A' c', e = .returned (.slice A' n c') ∧ n ≤ c' ∧ svcK.C w' (fun b => b < w'.heap.size) A' (pickV l (drawOrd xs k n).1) ∧ Chg (fun b => b = gd) w w' := by
  have HS := Lib.hid hS
  have HN := Lib.hid hn
  have HD := Lib.hid hD
  have HDIS := Lib.hid hdis
  have HOK0 := Lib.hid hokl
  have HOKD := Lib.hid hokd
  have hbd : ∀ x ∈ xs, 0 ≤ x ∧ x < 4294967296 := hD.bd
  have HO := Lib.hid (drawOrd_ordered xs hbd k n)
  have b64 : ¬ (64 : Int) < (n : Int) := by omega
  clear hS hn hD hdis hokl hokd hbd
  go_enter Try.func15, Try.ntmps15
  go_wp2_with fail
  refine (ref_order HD.out HOKD.out (n : Int)).mono ?_
  rintro e w2 ⟨A2, c2, rfl, hl2, hC2, hd2, hc2⟩
  have hM : ordM (n : Int) = n := by unfold ordM; omega
  have hlen : (drawOrd xs k n).1.length = n := by rw [HO.out.len, hM]
  have HMEM : Hid (∀ j, j < n → ∃ q : Nat, (drawOrd xs k n).1[j]? = some (q : Int) ∧ q < n) := by
    intro j hj
    have hj2 : j < (drawOrd xs k n).1.length := by rw [hlen]; exact hj
    obtain ⟨q, hq, hqn⟩ := HO.out.mem _ (List.getElem_mem hj2)
    exact ⟨q, by rw [List.getElem?_eq_getElem hj2, hq], by rw [hM] at hqn; exact hqn⟩
  obtain ⟨o, ho⟩ : ∃ o, (drawOrd xs k n).1 = o := ⟨_, rfl⟩
  rw [hlen]
  rw [ho] at hC2 HMEM hlen hl2
  have HOO := Lib.hid ho
  have HD2 := Lib.hid hd2
  have HC2 := Lib.hid hc2
  have HA2 := Lib.hid hC2
  have HOL := Lib.hid hlen
  have HS2 := Lib.hid (Kd.C_chg HS.out hc2 (fun b hb e => HDIS.out (by rw [← show b = gd from e]; exact hb)))
  have HR0 : Hid (svcK.R 58 w2 w2.heap.size (fun b => okl b ∨ w2.heap.size ≤ b) (.slice none 0 0) ((pickV l o).take 0)) := Kd.R_nil _ _ _ _ _
  have HC0 := Lib.hid (Chg.refl nob w2)
  have hs12 := hc2.size
  clear hC2 hd2 hc2 hlen HO ho hM hl2
  have HOK : Hid (∀ b, okl b → b < w2.heap.size) := fun b hb => Nat.lt_of_lt_of_le (HOK0.out b hb) hs12
  go_wp2
  go_loopw [6, 7] (fun v i wr => ∃ (j : Nat) (V : Option Addr) (cv : Nat), j ≤ n ∧ v = .slice V j cv ∧ i = .int .i64 j ∧ Hid (svcK.R 58 wr w2.heap.size (fun b => okl b ∨ w2.heap.size ≤ b) (.slice V j cv) ((pickV l o).take j)) ∧ Hid (Chg nob w2 wr)) (fun v i _ => n - (intOf i).toNat)
  case atStart => exact ⟨0, none, 0, Nat.zero_le _, rfl, rfl, HR0, HC0⟩
  case round =>
    obtain ⟨j, V, cv, hj, rfl, rfl, HR, HC⟩ := hrel
    clear HR0 HC0
    have HLT : Hid (((pickV l o).take j).length = j) := by show _ = _; rw [List.length_take, pickV_length, HOL.out]; omega
    by_cases hlt : j < n
    · have b1 : (j : Int) < (n : Int) := by omega
      have b3 : (0 : Int) ≤ (j : Int) := by omega
      obtain ⟨q, hq, hqn⟩ := HMEM.out j hlt
      obtain ⟨y, hy⟩ : ∃ y, l[q]? = some y := ⟨_, List.getElem?_eq_getElem (by rw [HN.out]; exact hqn)⟩
      obtain ⟨ad2, rfl, _, hcell2⟩ := at_scalar (Kd.C_new HA2.out HC.out) hq
      obtain ⟨sb, so, L, d, rfl, _, hat, hCt, hd, hts⟩ := svc_at (Kd.C_new HS2.out HC.out) hy
      obtain ⟨xn, hxn⟩ : ∃ xn, y.2.2.2.1.length = xn := ⟨_, rfl⟩
      rw [hxn] at hat hd hts
      obtain ⟨p0, p1, p2, p3, p4, p5, p6⟩ := hat
      have b4 : (q : Int) < (n : Int) := by omega
      have b5 : (0 : Int) ≤ (q : Int) := by omega
      have HSN := Lib.hid (pickV_snoc (l := l) hq hy)
      have hsv : svcK.K wr (fun b => okl b) y (svcV y L d xn).toList := by
        have := svc_mk (w := wr) (ok := okl) (x := y) (L := L) (d := d) hCt (by rw [hxn]; exact hd) (by rw [hxn]; exact hts)
        rw [hxn] at this
        exact this
      have HSV := Lib.hid hsv
      clear hq hy hsv hCt hxn hts hd
      go_wp2_with (at_builtin; refine wp_append1 (d := svcK) rfl _ _ 27 rfl 58 (.agg #[.int .i64 0, .string ByteArray.empty, .string ByteArray.empty, .slice none 0 0, .int .i64 0, .int .u64 0, .int .u64 0]) 88 Try.underlying27 l_cloneV_info rfl w2.heap.size _ okl (.slice V j cv) ((pickV l o).take j) y (svcV y L d xn) rfl rfl HR.out HSV.out ?_ ?_ ?_ HC.out.size (j + 1) (by rw [HLT.out]) ?_)
      · intro b hb e
        have h1 := (Kd.R_own HR.out b e.symm).1
        have h2 := HOK.out b hb
        omega
      · rw [HLT.out]; simp only [maxLen]; omega
      · rw [HLT.out]; omega
      intro A5 c5 w5 hR5 hC5 _
      have HR5 : Hid (svcK.R 58 w5 w2.heap.size (fun b => okl b ∨ w2.heap.size ≤ b) (.slice A5 (j + 1) c5) ((pickV l o).take (j + 1))) := by
        show Kd.R _ _ _ _ _ _ _
        rw [← HSN.out]
        have h3 := HC.out.size
        refine Kd.R_mono hR5 (fun b hb => ?_)
        rcases hb with hb | hb | hb
        · exact hb
        · exact .inl hb
        · exact .inr (by omega)
      have HC5 : Hid (Chg nob w2 w5) := HC.out.trans hC5 (fun i hi => .inr (Kd.R_own HR.out i hi.symm).1)
      clear hR5 hC5 p0 p1 p2 p3 p4 p5 p6 hcell2
      go_wp2
      exact ⟨⟨j + 1, A5, c5, by omega, rfl, by go_num, HR5, HC5⟩, by simp [intOf]; omega⟩
    · obtain rfl : j = n := by omega
      have b1 : ¬ (j : Int) < (j : Int) := by omega
      have hR := HR.out
      rw [List.take_of_length_le (by rw [pickV_length, HOL.out]; exact Nat.le_refl _)] at hR
      have HPL : Hid ((pickV l o).length = j) := by show _ = _; rw [pickV_length, HOL.out]
      obtain ⟨k1, k2, k3⟩ := Kd.R_read hR
      have HK := Lib.hid k1
      clear hR k1 k2
      have HCF : Hid (Chg (fun b => b = gd) w wr) := HC2.out.thenNew HC.out
      go_wp2
      go_ret
      exact ⟨V, cv, rfl, k3, by rw [HOO.out]; exact Kd.C_mono (Kd.C_bound HK.out) (fun b hb => hb.2), HCF.out⟩
end Go.Proofs.Ythjlgcooihpakaa
