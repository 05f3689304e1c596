import Derived.Test.YthleagjnhpjhiaaFold15
import Derived.Test.YthleagjnhpjhiaaFold10
import Derived.Test.YthleagjnhpjhiaaFold01
/- Orders: what the commands within lay; the program's lay. -/
namespace Go.Proofs.Ythleagjnhpjhiaa
open Go.RowKit
set_option linter.unusedVariables false
set_option linter.unusedSimpArgs false
set_option maxRecDepth 100000
instance : Lays Nat := ⟨fun _ => []⟩
theorem o_lay_0 {w : World} {ok : Nat → Prop} {x : Cm0} {cs : Array Value} (hx : cm0K.K w ok x cs.toList) (h18 : x.kind ≠ 18) (hr : rightB x = true) {okb : Nat → Prop} {B : Option Addr} {m cc : Nat} {bs : List UInt8} (hB : Kd.byte.C w okb B bs) (hm : bs.length = m) (hm2 : m ≤ 60000000) :
    Calls Try.prog 20 #[.slice B m cc, .agg cs] w (Laid w (bs ++ layB x)) :=
  o_lay_gen len_sub hx (M := 100000000) (Nat.le_refl _) (fun wx p cb okb B m c bs _ _ _ h => absurd (hasN_subs h) h18) (by show ([] : List UInt8).length ≤ _; simp) hr hB hm (by omega)
instance : Lays (List Cm0) := ⟨listB layB⟩
theorem subOk_of {y : Cm0} (h : subOk y = true) : y.kind ≠ 18 ∧ rightB y = true := by
  unfold subOk at h
  rw [Bool.and_eq_true] at h
  exact ⟨of_decide_eq_true h.1, h.2⟩
/-- A command within has few bytes: its kind has no row of commands, and no more than sixteen fields of 800 bytes. -/
theorem fld0_le {y : Cm0} (ho : CmOk y) {k : Nat} (hk : k < 15) (h : mayF y k = true) : (fldB y k).length ≤ 800 := by
  have hk2 : k = 0 ∨ k = 1 ∨ k = 2 ∨ k = 3 ∨ k = 4 ∨ k = 5 ∨ k = 6 ∨ k = 7 ∨ k = 8 ∨ k = 9 ∨ k = 10 ∨ k = 11 ∨ k = 12 ∨ k = 13 ∨ k = 14 := by omega
  rcases hk2 with rfl | rfl | rfl | rfl | rfl | rfl | rfl | rfl | rfl | rfl | rfl | rfl | rfl | rfl | rfl
  · have := numOk_le h; have := numB_len (n := y.node.toNat) (by omega); show (numB _).length ≤ _; omega
  · have := numOk_le h; have := numB_len (n := y.port.toNat) (by omega); show (numB _).length ≤ _; omega
  · have := numOk_le h; have := numB_len (n := y.status.toNat) (by omega); show (numB _).length ≤ _; omega
  · have := txtB_le80 (txtOk_le h); show (txtB _).length ≤ _; omega
  · have := txtB_le80 (txtOk_le h); show (txtB _).length ≤ _; omega
  · have := txtB_le80 (txtOk_le h); show (txtB _).length ≤ _; omega
  · have := txtB_le80 (txtOk_le h); show (txtB _).length ≤ _; omega
  · have := txtB_le80 (txtOk_le h); show (txtB _).length ≤ _; omega
  · have := txtB_le80 (txtOk_le h); show (txtB _).length ≤ _; omega
  · have := txtB_le80 (txtOk_le h); show (txtB _).length ≤ _; omega
  · have := txtB_le80 (txtOk_le h); show (txtB _).length ≤ _; omega
  · have h2 : (tagsOk y.tags && decide (y.tags.length ≤ 8)) = true := h
    rw [Bool.and_eq_true] at h2
    have := listT_le (tagsOk_all h2.1) (of_decide_eq_true h2.2)
    show (listB _ _).length ≤ _
    omega
  · show (numB _).length ≤ _
    have := numB_len (n := if y.allow then 1 else 0) (by split <;> omega)
    omega
  · have := ho.old; have := numB_len (n := y.old.toNat) (by omega); show (numB _).length ≤ _; omega
  · have := ho.session; have := numB_len (n := y.session.toNat) (by omega); show (numB _).length ≤ _; omega
theorem lay0_to {y : Cm0} (ho : CmOk y) (hr : rightB y = true) {L : Nat} (hL : L = 800) (j : Nat) : j ≤ 15 → (layTo y j).length ≤ 9 + j * L := by
  induction j with
  | zero =>
    intro _
    have h1 := kind_of hr
    have h2 := numB_len (n := y.kind.toNat) (by omega)
    have h3 : layTo y 0 = numB y.kind.toNat := by unfold layTo; simp
    rw [h3]
    omega
  | succ j ih =>
    intro hj
    have ih := ih (by omega)
    have hm := field_of hr (j := j) (by omega)
    have hl := fld0_le ho (k := j) (by omega) (by unfold fieldOk at hm; rw [Bool.and_eq_true] at hm; exact hm.2)
    rw [← hL] at hl
    rw [layTo_succ, List.length_append, ifB, Nat.add_mul, Nat.one_mul]
    split
    · omega
    · rw [List.length_nil]; omega
theorem lay0_le {y : Cm0} (ho : CmOk y) (hs : subOk y = true) : (layB y).length ≤ 13000 := by
  obtain ⟨h18, hr⟩ := subOk_of hs
  have h1 := lay0_to ho hr (L := 800) rfl 15 (by omega)
  have h2 : layB y = layTo y 15 := by
    unfold layB
    refine layTo_no ?_
    cases hb : bitN (hasN y.kind) 15 with
    | false => rfl
    | true => exact absurd (hasN_subs hb) h18
  rw [h2]
  omega
theorem listL_le {l : List Cm0} (ho : ∀ y ∈ l, CmOk y) (hs : l.all subOk = true) (hl : l.length ≤ 8) : (listB layB l).length ≤ 200000 := by
  have h1 : ∀ l : List Cm0, (∀ y ∈ l, CmOk y) → l.all subOk = true → ((l.map layB).flatten).length ≤ l.length * 13000 := by
    intro l
    induction l with
    | nil => intro _ _; simp
    | cons y l ih =>
      intro h hs
      rw [List.all_cons, Bool.and_eq_true] at hs
      have h2 := ih (fun y hy => h y (List.mem_cons_of_mem _ hy)) hs.2
      have h3 := lay0_le (h y (List.mem_cons_self ..)) hs.1
      simp only [List.map_cons, List.flatten_cons, List.length_append, List.length_cons]
      omega
  unfold listB
  rw [List.length_append]
  have := h1 l ho hs
  have := numB_len (n := l.length) (by omega)
  omega
theorem subs_oks {w : World} {ok : Nat → Prop} {A : Option Addr} {l : List Cm0} (h : cm0K.C w ok A l) : ∀ y ∈ l, CmOk y := by
  obtain ⟨_, inner, hr, _⟩ := h
  intro y hy
  obtain ⟨j, hj⟩ := List.mem_iff_getElem?.1 hy
  obtain ⟨_, _, _, _, _, _, _, ho⟩ := cmd_cells (d := lenK) rfl (hr.2 j y hj)
  exact ho

theorem preB_len {bs : List UInt8} {l : List Cm0} (j : Nat) (ho : ∀ y ∈ l, CmOk y) (hs : l.all subOk = true) (hl : l.length ≤ 8) : (preB layB bs l j).length ≤ bs.length + 200000 := by
  have h1 := listL_le (l := l) ho hs hl
  have h2 : ((l.take j).map layB).flatten.length ≤ (l.map layB).flatten.length := by
    have h3 : (l.map layB).flatten = ((l.take j).map layB).flatten ++ ((l.drop j).map layB).flatten := by
      rw [← List.flatten_append, ← List.map_append, List.take_append_drop]
    rw [h3, List.length_append]
    omega
  unfold listB at h1
  unfold preB
  simp only [List.length_append] at h1 ⊢
  omega
set_option maxHeartbeats 4000000 in
theorem subLay_1 {w : World} {ok : Nat → Prop} {x : Cmd} : SubLay 55000000 subsK w ok x := by
  intro wx p cb okb B m cc bs hc hb hr hbit hmay hB hbm hm2
  obtain ⟨T, tc, A, n, c, hcl, hn, -, -, ⟨⟨A', c', e, hlc, hC⟩, -⟩⟩ := hr.cell
  have e1 : Value.slice A n c = .slice A' x.subs.length c' := by simpa using e
  injection e1 with e1 e2 e3
  subst e1 e3
  have hmy : (x.subs.all subOk && decide (x.subs.length ≤ 8)) = true := hmay
  rw [Bool.and_eq_true] at hmy
  obtain ⟨hall, hl8⟩ := hmy
  have hl8 := of_decide_eq_true hl8
  obtain ⟨l, hl⟩ : ∃ l, x.subs = l := ⟨_, rfl⟩
  have hf : fldB x 15 = listB layB l := by rw [← hl]; rfl
  rw [hf]
  rw [hl] at hC e2 hall hl8
  have hos := subs_oks hC
  have HPL60 : Hid (∀ j, (preB layB bs l j).length ≤ 60000000) := fun j => by have := preB_len (bs := bs) j hos hall hl8; omega
  have h16 : wx.cell? ⟨cb, 16, none⟩ = some (.slice A n c) := hcl 16
  have h0 := hb.cell
  have hn8 : n ≤ 8 := by omega
  have HC := Lib.hid hC
  have HN := Lib.hid e2.symm
  have HALL := Lib.hid hall
  have HBM := Lib.hid hbm
  have HB := Lib.hid hB
  have H0 := Lib.hid h0
  have H16 := Lib.hid h16
  clear hcl hn hr hb hC e2 hl e hlc hbit hmay hall hf hbm hB hl8 hos
  have hwn : IntKind.u64.wrap (n : Int) = (n : Int) := by rw [IntKind.wrap_u64]; omega
  go_enter Try.func78, Try.ntmps78
  go_wp2_with fail
  refine (field_num (c := cc) HB.out HBM.out (by omega) (n : Int) (by omega) (by omega)).mono ?_
  intro e w2 hL
  obtain ⟨B2, c2, rfl, hR2, hc2⟩ := RowB.of hL (Chg.refl nob wx)
  have HL0 : Hid ((bs ++ numB ((n : Int)).toNat) = preB layB bs l 0) := by show _ = _; unfold preB; rw [HN.out]; simp
  rw [HL0.out] at hR2 ⊢
  obtain ⟨m2, hm2'⟩ : ∃ m2, (preB layB bs l 0).length = m2 := ⟨_, rfl⟩
  rw [hm2'] at hR2 ⊢
  have HM2 := Lib.hid hm2'
  have HR2 := Lib.hid hR2
  have HC2 := Lib.hid hc2
  have y0 := hc2.cell h0 (not_nob _)
  have y16 := hc2.cell h16 (not_nob _)
  clear hm2' hR2 hc2 hL h0 h16
  go_wp2
  go_loopw [0, 17] (fun b v wr => ∃ (j : Nat) (B : Option Addr) (m c : Nat), j ≤ n ∧ b = .slice B m c ∧ v = .int .i64 j ∧ Hid (RowB wx wr (.slice B m c) (preB layB bs l j)) ∧ Hid ((preB layB bs l j).length = m) ∧ Hid (Chg nob wx wr)) (fun _ v _ => n - (intOf v).toNat)
  case atStart => exact ⟨0, B2, m2, c2, Nat.zero_le _, rfl, rfl, HR2, HM2, HC2⟩
  case round =>
    obtain ⟨j, B, m, c5, hj, rfl, rfl, HRW, HMJ, HCR⟩ := hrel
    by_cases hlt : j < n
    · have b1 : (j : Int) < (n : Int) := by omega
      have b2 : (0 : Int) ≤ (j : Int) := by omega
      obtain ⟨y, hy⟩ : ∃ y, l[j]? = some y := ⟨_, List.getElem?_eq_getElem (by rw [HN.out]; exact hlt)⟩
      obtain ⟨ab, ao, ac, rfl, hab, hka, hac⟩ := Kd.C_at' (Kd.C_new HC.out HCR.out) hy
      obtain ⟨T1, tc1, A1, n1, c1, rfl⟩ := cm_list len_sub hka
      have HRNG : Hid (wr.rangeAt ab (ao + j * 17) (cmL y T1 tc1 (.slice A1 n1 c1))) := fun i v hv => hac i v hv
      obtain ⟨w3, hw3, hb3, hc3, ht3⟩ := put_new wr y T1 A1 tc1 n1 c1
      have HKA := Lib.hid (Kd.chg hka hc3 (fun b _ => not_nob b))
      have HY := Lib.hid hy
      have HT3 : Hid ((wr.alloc (.cells zeroL.toArray 26)).there wr.heap.size 0 17) := ht3
      have HRN : Hid ((wr.alloc (.cells zeroL.toArray 26)).rangeAt ab (ao + j * 17) (cmL y T1 tc1 (.slice A1 n1 c1))) := fun i v hv => ((Chg.refl nob wr).alloc _).cell (HRNG.out i v hv) (not_nob _)
      have hzw : wr.alloc (.cells zeroL.toArray 26) = wr.alloc (.cells #[.int .i64 0, .int .i64 0, .int .i64 0, .int .i64 0, .string ⟨#[]⟩, .string ⟨#[]⟩, .string ⟨#[]⟩, .string ⟨#[]⟩, .string ⟨#[]⟩, .string ⟨#[]⟩, .string ⟨#[]⟩, .string ⟨#[]⟩, .slice none 0 0, .bool false, .int .u64 0, .int .u64 0, .slice none 0 0] 26) := rfl
      obtain ⟨wz, hwz⟩ : ∃ wz, wr.alloc (.cells zeroL.toArray 26) = wz := ⟨_, rfl⟩
      rw [hwz] at hw3 HT3 hzw HRN
      replace hzw := hzw.symm
      obtain ⟨g, hg⟩ : ∃ g, wr.heap.size = g := ⟨_, rfl⟩
      rw [hg] at hw3 HT3 hb3
      have HW3 := Lib.hid hw3
      clear hy hab hka hac hw3 ht3 hwz
      go_upto_region 5 with (first
        | (refine wpList_load_mid rfl 26 (.tmp 19) rfl ab (ao + j * 17) rfl (cmL y T1 tc1 (.slice A1 n1 c1)) _ HRNG.out Try.underlying26 rfl (by kernel_rfl) ?_; try simp only [Act.put, List.setIfInBounds_toArray, List.set_cons_zero, List.set_cons_succ])
        | (refine wpList_store_mid rfl 26 (.tmp 5) (.tmp 20) rfl g 0 (cmL y T1 tc1 (.slice A1 n1 c1)).toArray rfl rfl HT3.out (by kernel_rfl) (cmL_one _ _ _ _ _ _) ?_))
      rw [HW3.out]
      clear HW3 HT3 hzw hg HRN HRNG
      have HRB : Hid (w3.rangeAt g 0 (cmL y T1 tc1 (.slice A1 n1 c1))) := rng_row hb3
      have HC3 := Lib.hid (HCR.out.thenNew hc3)
      have HR3 := Lib.hid (HRW.out.new hc3)
      clear hb3 hc3
      have HSO : Hid (subOk y = true) := by
        have := HALL.out
        rw [List.all_eq_true] at this
        exact this y (List.mem_of_getElem? HY.out)
      have HSR := Lib.hid (subOk_of HSO.out)
      have HCB := Lib.hid (Kd.R_read HR3.out)
      go_wp2_with (first
        | (refine wpList_load_mid rfl 26 (.tmp 5) rfl g 0 rfl (cmL y T1 tc1 (.slice A1 n1 c1)) _ HRB.out Try.underlying26 rfl (by kernel_rfl) ?_; try simp only [Act.put, List.setIfInBounds_toArray, List.set_cons_zero, List.set_cons_succ])
        | fail)
      refine (o_lay_0 (x := y) HKA.out HSR.out.1 HSR.out.2 HCB.out.1 HMJ.out (by rw [← HMJ.out]; exact HPL60.out j)).mono ?_
      intro e w6 hL
      obtain ⟨B6, c6, rfl, hR6, hc6⟩ := RowB.of hL HC3.out
      rw [← preB_succ layB bs l j y HY.out] at hR6 ⊢
      obtain ⟨m6, hm6⟩ : ∃ m6, (preB layB bs l (j + 1)).length = m6 := ⟨_, rfl⟩
      rw [hm6] at hR6 ⊢
      have HM6 := Lib.hid hm6
      have HR6 := Lib.hid hR6
      have HC6 := Lib.hid (HC3.out.thenNew hc6)
      clear hm6 hR6 hc6 hL
      go_wp2
      exact ⟨⟨j + 1, B6, m6, c6, by omega, rfl, by go_num, HR6, HM6, HC6⟩, by simp [intOf]; omega⟩
    · obtain rfl : j = n := by omega
      have b1 : ¬ (j : Int) < (j : Int) := by omega
      have HEND : Hid (RowB wx wr (.slice B m c5) (bs ++ listB layB l)) := by
        have := HRW.out
        rw [show j = l.length from HN.out.symm, preB_all] at this
        exact this
      go_wp2
      go_ret
      exact ⟨_, rfl, HEND.out, HCR.out⟩
/-- A command's bytes. -/
theorem o_lay {w : World} {ok : Nat → Prop} {x : Cmd} {cs : Array Value} (hx : comK.K w ok x cs.toList) (hr : rightB x = true) {okb : Nat → Prop} {B : Option Addr} {m cc : Nat} {bs : List UInt8} (hB : Kd.byte.C w okb B bs) (hm : bs.length = m) (hm2 : m ≤ 50000000) :
    Calls Try.prog 20 #[.slice B m cc, .agg cs] w (Laid w (bs ++ layB x)) := by
  refine o_lay_gen subs_sub hx (M := 55000000) (by decide) subLay_1 ?_ hr hB hm (by omega)
  obtain ⟨T, tc, s, e, hl, hC, ⟨⟨A', c', e2, hlc, hCl⟩, -⟩, ho⟩ := cmd_cells (d := subsK) rfl hx
  have hm := field_of hr (j := 15) (by decide)
  unfold fieldOk at hm
  rw [Bool.and_eq_true] at hm
  have hm2 : (x.subs.all subOk && decide (x.subs.length ≤ 8)) = true := hm.2
  rw [Bool.and_eq_true] at hm2
  exact listL_le (subs_oks hCl) hm2.1 (of_decide_eq_true hm2.2)
#print axioms o_lay
end Go.Proofs.Ythleagjnhpjhiaa

/- Orders: the reference's row of a command's texts. -/
namespace Go.Proofs.Ythleagjnhpjhiaa
open Go.RowKit
set_option linter.unusedVariables false
set_option linter.unusedSimpArgs false
set_option maxRecDepth 100000
/-- The eight texts, in a row of their own. -/
def TxtsT {α : Type} (w : World) (x : Cm α) (e : Ending) (w' : World) : Prop := ∃ g, e = .returned (.slice (some ⟨g, 0, none⟩) 8 8) ∧ w.heap.size ≤ g ∧ (∀ j s, (txts x)[j]? = some s → w'.cell? ⟨g, j, none⟩ = some (.string s)) ∧ strK.C w' (fun b => b = g) (some ⟨g, 0, none⟩) (txts x) ∧ Chg nob w w'
set_option maxHeartbeats 2000000 in
theorem r_texts {α : Type} {w : World} {x : Cm α} {T A : Option Addr} {tc n c : Nat} : Calls Try.prog 19 #[.agg (cmL x T tc (.slice A n c)).toArray] w (TxtsT w x) := by
  obtain ⟨w1, hw1⟩ : ∃ w1, w.alloc (.cells (cmL x T tc (.slice A n c)).toArray 26) = w1 := ⟨_, rfl⟩
  have hb1 := heap_alloc_new w (.cells (cmL x T tc (.slice A n c)).toArray 26)
  have h1 : Chg nob w w1 := by rw [← hw1]; exact (Chg.refl nob w).alloc _
  obtain ⟨cb, hcb⟩ : ∃ cb, w.heap.size = cb := ⟨_, rfl⟩
  have hz1 : w1.heap.size = cb + 1 := by rw [← hw1, World.size_alloc, hcb]
  rw [hw1, hcb] at hb1
  have HB1 := Lib.hid hb1
  have HC1 := Lib.hid h1
  have HW1 := Lib.hid hw1
  have HCB := Lib.hid hcb
  clear hb1 h1 hw1
  unfold cmL at HW1 ⊢
  go_enter Try.func19, Try.ntmps19
  go_upto_region 1 with fail
  rw [HW1.out]
  obtain ⟨k0, k1, k2, k3, k4, k5, k6, k7, k8, k9, k10, k11, k12, k13, k14, k15, k16⟩ := row17 HB1.out
  have hb2 := heap_alloc_new w1 (.cells #[.string x.id, .string x.name, .string x.service, .string x.remark, .string x.key, .string x.value, .string x.src, .string x.dst] 9)
  have hc2 := (Chg.refl nob w1).alloc (.cells #[.string x.id, .string x.name, .string x.service, .string x.remark, .string x.key, .string x.value, .string x.src, .string x.dst] 9)
  have HB2 := Lib.hid hb2
  have HC2 := Lib.hid (HC1.out.thenNew hc2)
  clear hb2 hc2 hcb
  go_wp2
  go_ret
  have hcell : ∀ j s, (txts x)[j]? = some s → (w1.alloc (.cells #[.string x.id, .string x.name, .string x.service, .string x.remark, .string x.key, .string x.value, .string x.src, .string x.dst] 9)).cell? ⟨w1.heap.size, j, none⟩ = some (.string s) := fun j s hs => by
    rw [cell_of_row _ _ _ _ _ _ HB2.out]
    have : ((txts x).map Value.string)[j]? = some (.string s) := by rw [List.getElem?_map, hs]; rfl
    simpa [txts] using this
  refine ⟨w1.heap.size, ?_, by have h1 := hz1; have h2 := HCB.out; omega, hcell, ?_, HC2.out⟩
  · first | rfl | (rw [hz1]; rfl)
  · refine ⟨by simp [txts], (txts x).map Value.string, reps_of_scalar (txts x), fun _ => ⟨_, rfl, rfl, fun j u hu => ?_⟩⟩
    rw [List.getElem?_map] at hu
    obtain ⟨s, hs, rfl⟩ := Option.map_eq_some_iff.1 hu
    rw [add_at, Nat.zero_add]
    exact hcell j s hs
#print axioms r_texts
end Go.Proofs.Ythleagjnhpjhiaa

/- Guarded operations whose guard is not decided: what they leave is said by a guard ahead of the value; the walk does not split. -/
namespace Go.Proofs.Ythleagjnhpjhiaa
open Go.RowKit
/-- v, if g; else nothing. -/
def may (g : Bool) (v : Value) : Value := if g then v else undef
theorem may_true (v : Value) : may true v = v := rfl
theorem may_false (v : Value) : may false v = undef := rfl
section
variable {P : Program} {ops : Array Oper} {rest : List Oper} {o : Oper} {a : Act} {w : World} {Q : Exit → Act → World → Prop}
theorem wpList_may {g : Bool} {v : Value} (hw : Region.wanted o (yielded ops a.tmps) = g) (hv : g = true → (execOp a.eval o).run P w = .ok (.value v) w) (h : wpList P ops Q rest (a.put o.dst (may g v)) w) : wpList P ops Q (o :: rest) a w := by
  unfold wpList
  rw [hw]
  cases g with
  | true => exact .inl (by unfold Oper.wp; rw [hv rfl]; exact h)
  | false => exact h
theorem wpList_take {v : Value} (hw : Region.wanted o (yielded ops a.tmps) = true) (hv : (execOp a.eval o).run P w = .ok (.value v) w) (h : wpList P ops Q rest (a.put o.dst v) w) : wpList P ops Q (o :: rest) a w :=
  wpList_may (g := true) hw (fun _ => hv) h
end
end Go.Proofs.Ythleagjnhpjhiaa
