import Derived.Test.YthleagjnhpjhiaaFold09
/- Orders: whether the commands within may be; the program's Right. -/
namespace Go.Proofs.Ythleagjnhpjhiaa
open Go.RowKit
set_option linter.unusedVariables false
set_option linter.unusedSimpArgs false
set_option maxRecDepth 100000
theorem cm_list {α : Type} [Sz α] {d : Kd α} (hd : SubK d) {w : World} {ok : Nat → Prop} {x : Cm α} {cs : List Value} (h : (cmdK d).K w ok x cs) : ∃ T tc A n c, cs = cmL x T tc (.slice A n c) := by
  obtain ⟨T, tc, s, e, hl, hC, hs, ho⟩ := cmd_cells hd.sz h
  obtain ⟨A, c, e2, h1, h2⟩ := hd.cut hs
  cases e2
  exact ⟨T, tc, A, _, c, e⟩
/-- A command with nothing. -/
def zeroL : List Value := [.int .i64 0, .int .i64 0, .int .i64 0, .int .i64 0, .string ⟨#[]⟩, .string ⟨#[]⟩, .string ⟨#[]⟩, .string ⟨#[]⟩, .string ⟨#[]⟩, .string ⟨#[]⟩, .string ⟨#[]⟩, .string ⟨#[]⟩, .slice none 0 0, .bool false, .int .u64 0, .int .u64 0, .slice none 0 0]
theorem cmL_one {α : Type} (x : Cm α) (T A : Option Addr) (tc n c : Nat) : (cmL x T tc (.slice A n c)).toArray.all (·.oneCell') = true := by
  unfold cmL
  simp [Value.oneCell']
theorem row17 {α : Type} {w : World} {g t : Nat} {x : Cm α} {T A : Option Addr} {tc n c : Nat} (h : w.heap[g]? = some (.cells (cmL x T tc (.slice A n c)).toArray t (0, 0))) :
    w.cell? ⟨g, 0, none⟩ = some (.int .i64 x.kind) ∧ w.cell? ⟨g, 1, none⟩ = some (.int .i64 x.node) ∧ w.cell? ⟨g, 2, none⟩ = some (.int .i64 x.port) ∧ w.cell? ⟨g, 3, none⟩ = some (.int .i64 x.status) ∧
    w.cell? ⟨g, 4, none⟩ = some (.string x.id) ∧ w.cell? ⟨g, 5, none⟩ = some (.string x.name) ∧ w.cell? ⟨g, 6, none⟩ = some (.string x.service) ∧ w.cell? ⟨g, 7, none⟩ = some (.string x.remark) ∧ w.cell? ⟨g, 8, none⟩ = some (.string x.key) ∧ w.cell? ⟨g, 9, none⟩ = some (.string x.value) ∧ w.cell? ⟨g, 10, none⟩ = some (.string x.src) ∧ w.cell? ⟨g, 11, none⟩ = some (.string x.dst) ∧
    w.cell? ⟨g, 12, none⟩ = some (.slice T x.tags.length tc) ∧ w.cell? ⟨g, 13, none⟩ = some (.bool x.allow) ∧ w.cell? ⟨g, 14, none⟩ = some (.int .u64 x.old) ∧ w.cell? ⟨g, 15, none⟩ = some (.int .u64 x.session) ∧ w.cell? ⟨g, 16, none⟩ = some (.slice A n c) :=
  ⟨by rw [cell_of_row _ _ _ _ _ _ h]; rfl, by rw [cell_of_row _ _ _ _ _ _ h]; rfl, by rw [cell_of_row _ _ _ _ _ _ h]; rfl, by rw [cell_of_row _ _ _ _ _ _ h]; rfl, by rw [cell_of_row _ _ _ _ _ _ h]; rfl, by rw [cell_of_row _ _ _ _ _ _ h]; rfl, by rw [cell_of_row _ _ _ _ _ _ h]; rfl, by rw [cell_of_row _ _ _ _ _ _ h]; rfl, by rw [cell_of_row _ _ _ _ _ _ h]; rfl, by rw [cell_of_row _ _ _ _ _ _ h]; rfl, by rw [cell_of_row _ _ _ _ _ _ h]; rfl, by rw [cell_of_row _ _ _ _ _ _ h]; rfl, by rw [cell_of_row _ _ _ _ _ _ h]; rfl, by rw [cell_of_row _ _ _ _ _ _ h]; rfl, by rw [cell_of_row _ _ _ _ _ _ h]; rfl, by rw [cell_of_row _ _ _ _ _ _ h]; rfl, by rw [cell_of_row _ _ _ _ _ _ h]; rfl⟩
/-- A new block that is filled at once. -/
theorem put_new {α : Type} (w : World) (x : Cm α) (T A : Option Addr) (tc n c : Nat) :
    ∃ w', (w.alloc (.cells zeroL.toArray 26)).setCells w.heap.size 0 (cmL x T tc (.slice A n c)).toArray.toList = w' ∧ w'.heap[w.heap.size]? = some (.cells (cmL x T tc (.slice A n c)).toArray 26 (0, 0)) ∧ Chg nob w w' ∧ (w.alloc (.cells zeroL.toArray 26)).there w.heap.size 0 17 := by
  have hb := heap_alloc_new w (.cells zeroL.toArray 26)
  refine ⟨_, rfl, row_stored hb rfl, ?_, there_row hb⟩
  exact ((Chg.refl nob w).alloc _).trans (chg_setCells _ 0 _) (fun i hi => .inr (by rw [show i = w.heap.size from hi]; exact Nat.le_refl _))
theorem subMay_0 {w : World} {ok : Nat → Prop} {x : Cm0} (h18 : x.kind ≠ 18) : SubMay lenK w ok x := by
  intro wx p cb hc hb hr hi
  rcases hi with hi | hi
  · exact absurd (hasN_subs hi) h18
  · obtain ⟨T, tc, A, n, c, hcl, hn, -, -⟩ := hr.cell
    have hn0 : n = 0 := by
      have h1 : decide (0 < Sz.len x.subs) = false := hi
      rw [← hn] at h1
      simpa using h1
    subst hn0
    have hm : mayF x 15 = true := by
      show (true && decide (Sz.len x.subs ≤ 8)) = true
      rw [← hn]
      rfl
    have h16 : wx.cell? ⟨cb, 16, none⟩ = some (.slice A 0 c) := hcl 16
    have h0 := hb.cell
    clear hcl hn hr hi hb
    go_enter Try.func81, Try.ntmps81
    go_wp2
    go_loopw [8] (fun v wr => v = .int .i64 0 ∧ wr = wx) (fun v _ => 0)
    case atStart => exact ⟨rfl, rfl⟩
    case round =>
      obtain ⟨rfl, hwr⟩ := hrel
      subst hwr
      go_wp2
      go_ret
      rw [hm]
      exact ⟨rfl, Chg.refl nob _⟩
/-- Right of a command that is within none. -/
theorem o_right_0 {w : World} {ok : Nat → Prop} {x : Cm0} {cs : Array Value} (hx : cm0K.K w ok x cs.toList) (h18 : x.kind ≠ 18) : Calls Try.prog 8 #[.agg cs] w (ToldN w (rightB x)) := o_right_gen len_sub hx (subMay_0 h18)
def subOk (y : Cm0) : Bool := decide (y.kind ≠ 18) && rightB y
instance : Sz (List Cm0) := ⟨List.length, fun l => l.all subOk, []⟩
theorem subs_sub : SubK subsK := by
  refine ⟨rfl, ?_, fun w ok => ⟨⟨none, 0, rfl, Nat.le_refl _, Kd.C_nil _ _ _ _⟩, by simp [Sz.nil]⟩⟩
  rintro w ok x cs ⟨⟨A, c, rfl, hl, hC⟩, hb⟩
  exact ⟨A, c, rfl, hl, hC.small⟩
abbrev Cmd := Cm (List Cm0)
abbrev comK : Kd Cmd := cmdK subsK
theorem subs_take {l : List Cm0} {j : Nat} {y : Cm0} (h : (l.take j).all subOk = true) (hx : l[j]? = some y) (hy : subOk y = true) : (l.take (j + 1)).all subOk = true := by
  rw [List.take_add_one, hx, List.all_append, h]
  simpa using hy
theorem subs_not {l : List Cm0} {j : Nat} {y : Cm0} (hx : l[j]? = some y) (hy : subOk y = false) : l.all subOk = false := by
  rw [List.all_eq_false]
  exact ⟨y, List.mem_of_getElem? hx, by rw [hy]; decide⟩
set_option maxHeartbeats 4000000 in
theorem subMay_1 {w : World} {ok : Nat → Prop} {x : Cmd} : SubMay subsK w ok x := by
  intro wx p cb hc hb hr hi
  obtain ⟨T, tc, A, n, c, hcl, hn, -, -, ⟨⟨A', c', e, hlc, hC⟩, -⟩⟩ := hr.cell
  have e1 : Value.slice A n c = .slice A' x.subs.length c' := by simpa using e
  injection e1 with e1 e2 e3
  subst e1 e3
  obtain ⟨l, hl⟩ : ∃ l, x.subs = l := ⟨_, rfl⟩
  have hm : mayF x 15 = (l.all subOk && decide (n ≤ 8)) := by
    show (x.subs.all subOk && decide (x.subs.length ≤ 8)) = _
    rw [← e2, hl]
  rw [hl] at hC e2
  have hsm := hC.small
  rw [← e2] at hsm
  have h16 : wx.cell? ⟨cb, 16, none⟩ = some (.slice A n c) := hcl 16
  have h0 := hb.cell
  have HC := Lib.hid hC
  have HN := Lib.hid e2.symm
  have HM := Lib.hid hm
  clear hcl hn hr hi hb hC e2 hm hl e hlc
  go_enter Try.func81, Try.ntmps81
  go_wp2
  go_loopw [8] (fun v wr => ∃ j : Nat, j ≤ n ∧ v = .int .i64 j ∧ Hid (Chg nob wx wr) ∧ Hid ((l.take j).all subOk = true)) (fun v _ => n - (intOf v).toNat)
  case atStart => exact ⟨0, Nat.zero_le _, rfl, Chg.refl _ _, rfl⟩
  case round =>
    obtain ⟨j, hj, rfl, HCR, HK⟩ := hrel
    by_cases hlt : j < n
    · have b1 : (j : Int) < (n : Int) := by omega
      have b2 : (0 : Int) ≤ (j : Int) := by omega
      obtain ⟨y, hy⟩ : ∃ y, l[j]? = some y := ⟨_, List.getElem?_eq_getElem (by rw [HN.out]; exact hlt)⟩
      obtain ⟨ab, ao, ac, rfl, hab, hka, hac⟩ := Kd.C_at' (Kd.C_new HC.out HCR.out) hy
      obtain ⟨T1, tc1, A1, n1, c1, rfl⟩ := cm_list len_sub hka
      have HRNG : Hid (wr.rangeAt ab (ao + j * 17) (cmL y T1 tc1 (.slice A1 n1 c1))) := fun i v hv => hac i v hv
      obtain ⟨w3, hw3, hb3, hc3, ht3⟩ := put_new wr y T1 A1 tc1 n1 c1
      have HKA := Lib.hid (Kd.chg hka hc3 (fun b _ => not_nob b))
      have HY := Lib.hid hy
      have HT3 : Hid ((wr.alloc (.cells zeroL.toArray 26)).there wr.heap.size 0 17) := ht3
      have HRN : Hid ((wr.alloc (.cells zeroL.toArray 26)).rangeAt ab (ao + j * 17) (cmL y T1 tc1 (.slice A1 n1 c1))) := fun i v hv => ((Chg.refl nob wr).alloc _).cell (HRNG.out i v hv) (not_nob _)
      have hzw : wr.alloc (.cells zeroL.toArray 26) = wr.alloc (.cells #[.int .i64 0, .int .i64 0, .int .i64 0, .int .i64 0, .string ⟨#[]⟩, .string ⟨#[]⟩, .string ⟨#[]⟩, .string ⟨#[]⟩, .string ⟨#[]⟩, .string ⟨#[]⟩, .string ⟨#[]⟩, .string ⟨#[]⟩, .slice none 0 0, .bool false, .int .u64 0, .int .u64 0, .slice none 0 0] 26) := rfl
      obtain ⟨wz, hwz⟩ : ∃ wz, wr.alloc (.cells zeroL.toArray 26) = wz := ⟨_, rfl⟩
      rw [hwz] at hw3 HT3 hzw HRN
      replace hzw := hzw.symm
      obtain ⟨g, hg⟩ : ∃ g, wr.heap.size = g := ⟨_, rfl⟩
      rw [hg] at hw3 HT3 hb3
      have HW3 := Lib.hid hw3
      clear hy hab hka hac hw3 ht3 hwz
      go_upto_region 4 with (first
        | (refine wpList_load_mid rfl 26 (.tmp 10) rfl ab (ao + j * 17) rfl (cmL y T1 tc1 (.slice A1 n1 c1)) _ HRNG.out Try.underlying26 rfl (by kernel_rfl) ?_; try simp only [Act.put, List.setIfInBounds_toArray, List.set_cons_zero, List.set_cons_succ])
        | (refine wpList_store_mid rfl 26 (.tmp 3) (.tmp 11) rfl g 0 (cmL y T1 tc1 (.slice A1 n1 c1)).toArray rfl rfl HT3.out (by kernel_rfl) (cmL_one _ _ _ _ _ _) ?_))
      rw [HW3.out]
      clear HW3 HT3 hzw hg HRN HRNG
      have HB3 := Lib.hid hb3
      have HC3 := Lib.hid (HCR.out.thenNew hc3)
      have k0 : w3.cell? ⟨g, 0, none⟩ = some (.int .i64 y.kind) := by rw [cell_of_row _ _ _ _ _ _ hb3]; rfl
      clear hb3 hc3
      by_cases h18 : y.kind = 18
      · have e18 : (y.kind == 18) = true := by simpa using h18
        have hno : l.all subOk = false := subs_not HY.out (by unfold subOk; rw [h18]; rfl)
        have HNO := Lib.hid hno
        clear hno h18
        go_wp2
        go_ret
        rw [HM.out, HNO.out]
        exact ⟨rfl, HC3.out⟩
      · have e18 : (y.kind == 18) = false := by simpa using h18
        obtain ⟨-, k1, k2, k3, k4, k5, k6, k7, k8, k9, k10, k11, k12, k13, k14, k15, k16⟩ := row17 HB3.out
        have H18 := Lib.hid h18
        clear h18
        go_wp2_with fail
        refine (o_right_0 (x := y) (w := w3) (ok := ok) HKA.out H18.out).mono ?_
        rintro e w4 ⟨rfl, hc4⟩
        have HC4 := Lib.hid (HC3.out.thenNew hc4)
        clear k0 k1 k2 k3 k4 k5 k6 k7 k8 k9 k10 k11 k12 k13 k14 k15 k16 hc4
        obtain ⟨rb, hrb⟩ : ∃ rb, rightB y = rb := ⟨_, rfl⟩
        rw [hrb]
        have hsb : subOk y = rb := by unfold subOk; rw [hrb, decide_eq_true H18.out, Bool.true_and]
        have HSB := Lib.hid hsb
        clear hrb hsb
        cases rb with
        | true =>
          have HNX := Lib.hid (subs_take HK.out HY.out HSB.out)
          go_wp2
          exact ⟨⟨j + 1, by omega, by go_num, HC4, HNX⟩, by simp [intOf]; omega⟩
        | false =>
          have HNO := Lib.hid (subs_not HY.out HSB.out)
          go_wp2
          go_ret
          rw [HM.out, HNO.out]
          exact ⟨rfl, HC4.out⟩
    · obtain rfl : j = n := by omega
      have hall : mayF x 15 = decide (j ≤ 8) := by
        have := HK.out
        rw [List.take_of_length_le (by rw [HN.out]; exact Nat.le_refl _)] at this
        rw [HM.out, this, Bool.true_and]
      have HALL := Lib.hid hall
      have b1 : ¬ (j : Int) < (j : Int) := by omega
      have k16 : wr.cell? ⟨cb, 16, none⟩ = some (.slice A j c) := HCR.out.cell h16 (not_nob _)
      have k0 := HCR.out.cell h0 (not_nob _)
      clear hall
      go_wp2
      go_ret
      rw [HALL.out]
      exact ⟨by simp; omega, HCR.out⟩
/-- Right of a command. -/
theorem o_right {w : World} {ok : Nat → Prop} {x : Cmd} {cs : Array Value} (hx : comK.K w ok x cs.toList) : Calls Try.prog 8 #[.agg cs] w (ToldN w (rightB x)) := o_right_gen subs_sub hx subMay_1
#print axioms o_right
end Go.Proofs.Ythleagjnhpjhiaa
