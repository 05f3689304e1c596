/- A ring: what a call of Others tells. -/
import Derived.Test.YtoiikjojknnobaaProbeNext2
namespace Go.Proofs.Ytoiikjojknnobaa
open Go.RowKit
set_option linter.unusedVariables false
set_option linter.unusedSimpArgs false
def restL (but : Int) (live : List Int) : List Int := live.filter (fun x => decide (x ≠ but))
/-- Some others, and how many draws are taken. -/
def othersF (xs : List Int) (k : Nat) (live : List Int) (but many : Int) : List Int × Nat :=
  (pickL (restL but live) (drawSome xs k (restL but live).length many).1, (drawSome xs k (restL but live).length many).2)
theorem restL_snoc {but y : Int} {l : List Int} {j : Nat} (h : l[j]? = some y) : restL but (l.take (j + 1)) = if y = but then restL but (l.take j) else restL but (l.take j) ++ [y] := by
  rw [List.take_add_one, h, restL, List.filter_append]
  by_cases e : y = but
  · rw [if_pos e, Option.toList, List.filter_cons, if_neg (by simp [e]), List.filter_nil, List.append_nil]; rfl
  · rw [if_neg e, Option.toList, List.filter_cons, if_pos (by simp [e]), List.filter_nil]; rfl
theorem restL_le {but : Int} {l : List Int} : (restL but l).length ≤ l.length := List.length_filter_le _ _
theorem drawSome_mem {xs : List Int} (hx : ∀ x ∈ xs, 0 ≤ x ∧ x < 4294967296) {k m : Nat} {many : Int} {j : Nat} (hj : j < (drawSome xs k m many).1.length) : ∃ q : Nat, (drawSome xs k m many).1[j]? = some (q : Int) ∧ q < m := by
  have hj2 := hj
  obtain ⟨q, hq, hqm⟩ := (drawOrd_ordered xs hx k m).mem ((drawSome xs k m many).1[j]) (List.mem_of_mem_take (List.getElem_mem hj2))
  have hm : ordM (m : Int) ≤ m := by unfold ordM; omega
  exact ⟨q, by rw [List.getElem?_eq_getElem hj2, hq], by omega⟩
theorem drawSome_le {xs : List Int} {k m : Nat} {many : Int} : (drawSome xs k m many).1.length ≤ 4096 := by
  have h1 : (drawSome xs k m many).1.length ≤ (drawOrd xs k m).1.length := by show (List.take _ _).length ≤ _; rw [List.length_take]; omega
  rw [drawOrd_length] at h1
  have := ordM_le (m : Int)
  omega
set_option maxHeartbeats 1000000 in
theorem rg_others {w : World} {okr okd okl : Nat → Prop} {g at_ k ln lc : Nat} {row xs live : List Int} {p L : Option Addr} (h : IsRing w okr g row at_) (hD : IsD w okd p xs k) (hL : intK.C w okl L live) (hln : live.length = ln) (h64 : ln ≤ 64) (hokl : ∀ b, okl b → ¬ okd b) (hokd : ∀ b, okd b → b < w.heap.size) (but many : Int) :
    Calls Try.prog 15 #[.pointer (some ⟨g, 0, none⟩), .slice L ln lc, .int .i64 but, .int .i64 many, .pointer p] w (ListPost w okd p xs (othersF xs k live but many).1 (othersF xs k live but many).2) := by
  have HI := Lib.hid h
  have HD := Lib.hid hD
  have HL := Lib.hid hL
  have HLN := Lib.hid hln
  have HOKD := Lib.hid hokd
  have HOKL := Lib.hid hokl
  have hbd := hD.bd
  have HBD := Lib.hid hbd
  have HR0 : Hid (intK.R 3 w w.heap.size (fun b => some b = (Value.slice none 0 0).ownBlock) (.slice none 0 0) (restL but (live.take 0))) := Kd.R_nil _ _ _ _ _
  have HC0 := Lib.hid (Chg.refl nob w)
  clear h hD hL hln hbd hokd hokl
  go_enter Try.func15, Try.ntmps15
  go_wp2_with fail
  refine (rg_none HI.out).mono ?_
  rintro e w ⟨rfl, rfl⟩
  go_wp2
  go_loopw [11, 21] (fun v i wr => ∃ (j m : Nat) (V : Option Addr) (cv : Nat), j ≤ ln ∧ m ≤ j ∧ v = .slice V m cv ∧ i = .int .i64 j ∧ Hid ((restL but (live.take j)).length = m) ∧ Hid (intK.R 3 wr w.heap.size (fun b => some b = (Value.slice V m cv).ownBlock) (.slice V m cv) (restL but (live.take j))) ∧ Hid (Chg nob w wr)) (fun v i _ => ln - (intOf i).toNat)
  case atStart => exact ⟨0, 0, none, 0, Nat.zero_le _, Nat.le_refl _, rfl, rfl, rfl, HR0, HC0⟩
  case round =>
    obtain ⟨j, m, V, cv, hj, hmj, rfl, rfl, HM, HR, HC⟩ := hrel
    clear HR0 HC0
    by_cases hlt : j < ln
    · have b1 : (j : Int) < (ln : Int) := by omega
      have b3 : (0 : Int) ≤ (j : Int) := by omega
      obtain ⟨y, hy⟩ : ∃ y, live[j]? = some y := ⟨_, List.getElem?_eq_getElem (by rw [HLN.out]; exact hlt)⟩
      obtain ⟨ad2, rfl, _, hcell2⟩ := at_scalar (Kd.C_new HL.out HC.out) hy
      have hsn := restL_snoc (but := but) hy
      clear hy
      by_cases hyb : y = but
      · rw [if_pos hyb] at hsn
        have HR2 := HR.out
        have HM2 := HM.out
        rw [← hsn] at HR2 HM2
        have HR2 := Lib.hid HR2
        have HM2 := Lib.hid HM2
        have t : (y != but) = false := by simp [hyb]
        clear hsn hyb
        go_wp2
        exact ⟨⟨j + 1, m, V, cv, by omega, by omega, rfl, by go_num, HM2, HR2, HC⟩, by simp [intOf]; omega⟩
      · rw [if_neg hyb] at hsn
        have HSN := Lib.hid hsn
        have t : (y != but) = true := by simp [hyb]
        clear hsn hyb
        go_wp2_with (at_builtin; refine wp_app1I rfl _ _ rfl w.heap.size _ (.slice V m cv) (restL but (live.take j)) y rfl rfl HR.out HC.out.size (m + 1) (by rw [HM.out]) (by omega) ?_)
        intro A5 c5 w5 hR5 hC5 _
        have HM2 : Hid ((restL but (live.take (j + 1))).length = m + 1) := by show _ = _; rw [HSN.out, List.length_append, HM.out]; rfl
        rw [← HSN.out] at hR5
        have HR5 := Lib.hid hR5
        have HC5 : Hid (Chg nob w w5) := HC.out.trans hC5 (fun i hi => .inr (Kd.R_own HR.out i hi.symm).1)
        clear hR5 hC5
        go_wp2
        exact ⟨⟨j + 1, m + 1, A5, c5, by omega, by omega, rfl, by go_num, HM2, HR5, HC5⟩, by simp [intOf]; omega⟩
    · obtain rfl : j = ln := by omega
      have b1 : ¬ (j : Int) < (j : Int) := by omega
      have HFULL : Hid (live.take j = live) := List.take_of_length_le (by rw [HLN.out]; exact Nat.le_refl _)
      have hR := HR.out
      have hM := HM.out
      rw [HFULL.out] at hR hM
      obtain ⟨k1, k2, k3⟩ := Kd.R_read (Kd.R_ge Kd.scalar_flat hR)
      have HM2 := Lib.hid hM
      have HK1 := Lib.hid (Kd.C_bound k1)
      have HDX := Lib.hid (HD.out.new HC.out)
      have HF : Hid (othersF xs k live but many = (pickL (restL but live) (drawSome xs k m many).1, (drawSome xs k m many).2)) := by
        show _ = _
        rw [othersF, hM]
      clear hR k1 k2 hM
      go_wp2_with fail
      refine (d_some HDX.out (m : Int) many).mono ?_
      rintro e w2 ⟨A2, c2, rfl, hl2, hC2, hd2, hc2⟩
      have HMEM : Hid (∀ j, j < (drawSome xs k m many).1.length → ∃ q : Nat, (drawSome xs k m many).1[j]? = some (q : Int) ∧ q < m) := fun j hj => drawSome_mem HBD.out hj
      have h4096 := drawSome_le (xs := xs) (k := k) (m := m) (many := many)
      obtain ⟨o, ho⟩ : ∃ o, (drawSome xs k m many).1 = o := ⟨_, rfl⟩
      obtain ⟨kv, hkv⟩ : ∃ kv, (drawSome xs k m many).2 = kv := ⟨_, rfl⟩
      rw [ho]
      rw [ho] at hC2 HMEM hl2 HF h4096
      rw [hkv] at hd2 HF
      obtain ⟨so, hso⟩ : ∃ so, o.length = so := ⟨_, rfl⟩
      rw [hso] at HMEM h4096 hl2 ⊢
      have HSO := Lib.hid hso
      have HD2 := Lib.hid hd2
      have HA2 := Lib.hid hC2
      have hwr := HC.out.size
      have hw2 := hc2.size
      have HK2 := Lib.hid (Kd.C_chg HK1.out hc2 (fun b hb e => by have := HOKD.out b e; omega))
      have HCC : Hid (Chg okd w w2) := HC.out.ofNew.trans hc2 (fun b hb => .inl hb)
      have HR20 : Hid (intK.R 3 w2 w2.heap.size (fun b => some b = (Value.slice none 0 0).ownBlock) (.slice none 0 0) (pickL (restL but live) (o.take 0))) := Kd.R_nil _ _ _ _ _
      have HC20 := Lib.hid (Chg.refl nob w2)
      clear hd2 hC2 hc2 ho hkv hso HK1 HR HC HDX
      go_wp2
      go_loopw [14, 39] (fun v i wr => ∃ (j : Nat) (V : Option Addr) (cv : Nat), j ≤ so ∧ v = .slice V j cv ∧ i = .int .i64 j ∧ Hid (intK.R 3 wr w2.heap.size (fun b => some b = (Value.slice V j cv).ownBlock) (.slice V j cv) (pickL (restL but live) (o.take j))) ∧ Hid (Chg nob w2 wr)) (fun v i _ => so - (intOf i).toNat)
      case atStart => exact ⟨0, none, 0, Nat.zero_le _, rfl, rfl, HR20, HC20⟩
      case round =>
        obtain ⟨i, V2, cv2, hi, rfl, rfl, HR, HC⟩ := hrel
        clear HR20 HC20
        by_cases hlt : i < so
        · have b1 : (i : Int) < (so : Int) := by omega
          have b3 : (0 : Int) ≤ (i : Int) := by omega
          obtain ⟨q, hq, hqn⟩ := HMEM.out i hlt
          obtain ⟨y, hy⟩ : ∃ y, (restL but live)[q]? = some y := ⟨_, List.getElem?_eq_getElem (by rw [HM2.out]; exact hqn)⟩
          obtain ⟨ad2, rfl, _, hcell2⟩ := at_scalar (Kd.C_new HA2.out HC.out) hq
          obtain ⟨ad3, rfl, _, hcell3⟩ := at_scalar (Kd.C_new HK2.out HC.out) hy
          have b4 : (q : Int) < (m : Int) := by omega
          have b5 : (0 : Int) ≤ (q : Int) := by omega
          have HSN := Lib.hid (pickL_snoc (row := restL but live) hq hy)
          have HLT : Hid ((pickL (restL but live) (o.take i)).length = i) := by show _ = _; rw [pickL_length, List.length_take, HSO.out]; omega
          clear hq hy
          go_wp2_with (at_builtin; refine wp_app1I rfl _ _ rfl w2.heap.size _ (.slice V2 i cv2) (pickL (restL but live) (o.take i)) y rfl rfl HR.out HC.out.size (i + 1) (by rw [HLT.out]) (by omega) ?_)
          intro A5 c5 w5 hR5 hC5 _
          rw [HSN.out] at hR5
          have HR5 := Lib.hid hR5
          have HC5 : Hid (Chg nob w2 w5) := HC.out.trans hC5 (fun i hi => .inr (Kd.R_own HR.out i hi.symm).1)
          clear hR5 hC5
          go_wp2
          exact ⟨⟨i + 1, A5, c5, by omega, rfl, by go_num, HR5, HC5⟩, by simp [intOf]; omega⟩
        · obtain rfl : i = so := by omega
          have b1 : ¬ (i : Int) < (i : Int) := by omega
          have HFU2 : Hid (o.take i = o) := List.take_of_length_le (by rw [HSO.out]; exact Nat.le_refl _)
          have hR := HR.out
          rw [HFU2.out] at hR
          obtain ⟨k1, k2, k3⟩ := Kd.R_read (Kd.R_ge Kd.scalar_flat hR)
          have HP : Hid (ListPost w okd p xs (pickL (restL but live) o) kv (.returned (.slice V2 i cv2)) wr) :=
            ⟨V2, cv2, by rw [k2], by rw [k2]; exact k3, Kd.C_mono k1 (fun b hb => by omega), HD2.out.new HC.out, HCC.out.thenNew HC.out⟩
          clear hR k1 k2 k3
          go_wp2
          go_ret
          rw [HF.out]
          exact HP.out
end Go.Proofs.Ytoiikjojknnobaa
