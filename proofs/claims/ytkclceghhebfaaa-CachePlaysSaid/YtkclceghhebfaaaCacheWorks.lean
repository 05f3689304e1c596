/- What the law's own call leaves. -/
import Derived.Test.YtkclceghhebfaaaCachePut
namespace Go.Proofs.Ytkclceghhebfaaa
open Go.RowKit
set_option linter.unusedVariables false
set_option linter.unusedSimpArgs false
def qNodes : Qry := (6, 0, ⟨#[]⟩, ⟨#[]⟩, ⟨#[]⟩, false)
def idxA (n : Int) : Ans := (6, n, (false, 0, ⟨#[]⟩, [], []), [], [], [], [])
def idxV (n : Int) : Array Value := #[.int .i64 6, .int .u64 n, .bool false, .int .i64 0, .string ⟨#[]⟩, .slice none 0 0, .slice none 0 0, .slice none 0 0, .slice none 0 0, .slice none 0 0, .slice none 0 0]
theorem idx_K (w : World) (ok : Nat → Prop) (n : Int) : ansK.K w ok (idxA n) (idxV n).toList :=
  ans_mk (x := idxA n) (S := none) (K := none) (N := none) (I := none) (E := none) (T := none) (sd := 0) (kd := 0) (nd := 0) (id := 0) (ed := 0) (td := 0)
    ⟨Kd.C_nil _ _ _ _, Nat.le_refl _, by simp [idxA]⟩ ⟨Kd.C_nil _ _ _ _, Nat.le_refl _, by simp [idxA]⟩ ⟨Kd.C_nil _ _ _ _, Nat.le_refl _, by simp [idxA]⟩ ⟨Kd.C_nil _ _ _ _, Nat.le_refl _, by simp [idxA]⟩ ⟨Kd.C_nil _ _ _ _, Nat.le_refl _, by simp [idxA]⟩ ⟨Kd.C_nil _ _ _ _, Nat.le_refl _, by simp [idxA]⟩
theorem qNodes_right : qRight qNodes = true := by decide +kernel
theorem qNodes_sz : QSz qNodes := ⟨by decide +kernel, by decide +kernel, by decide +kernel⟩
theorem works1 : putOk [] qNodes (idxA 3) = true := by decide +kernel
theorem works2 : putL [] qNodes (idxA 3) = [(qNodes, idxA 3)] := by unfold putL; rw [works1]; rfl
theorem works3 : (seekA [(qNodes, idxA 3)] qNodes).getD zeroA = idxA 3 := by simp only [seekA, qEq_self, if_true]; rfl
theorem works4 : putOk [(qNodes, idxA 3)] qNodes (idxA 2) = false := by decide +kernel
set_option maxHeartbeats 1000000 in
theorem cache_works (w : World) : Calls Try.prog 11 #[] w fun e w' => e = .returned (.bool true) ∧ Chg nob w w' := by
  go_enter Try.func11, Try.ntmps11
  go_wp2_with fail
  refine (ca_new w nob).mono ?_
  rintro e w1 ⟨c, rfl, hcw, hst, hc1⟩
  have hbox : ∀ wx : World, (wx.alloc (.cells (qryV qNodes) 34)).heap[wx.heap.size]? = some (.cells (qryV qNodes) 34 (0, 0)) := fun wx => heap_alloc_new wx _
  have hb := hbox w1
  have hca : Chg nob w1 (w1.alloc (.cells (qryV qNodes) 34)) := (Chg.refl nob w1).alloc _
  have hst' := hst.new hca
  obtain ⟨g, hg⟩ : ∃ g, w1.heap.size = g := ⟨_, rfl⟩
  have HGL : Hid (∀ b, w.heap.size ≤ b ∧ b < w1.heap.size → b < (w1.alloc (.cells (qryV qNodes) 34)).heap.size) := fun b hb => by simp; omega
  have hgw : w.heap.size ≤ g := by rw [← hg]; exact hc1.size
  rw [hg] at hb
  unfold qryV qNodes at *
  dsimp only at *
  obtain ⟨v, hv⟩ : ∃ v, w1.alloc (.cells #[.int .i64 6, .int .i64 0, .string ⟨#[]⟩, .string ⟨#[]⟩, .string ⟨#[]⟩, .bool false] 34) = v := ⟨_, rfl⟩
  rw [hv] at hb hca hst' HGL
  have HV := Lib.hid hv
  clear hv
  obtain ⟨s0, s1, s2, s3, s4, s5⟩ := row6 hb
  have HB := Lib.hid hb
  have HST := Lib.hid hst'
  have HCV := Lib.hid (hc1.thenNew hca)
  have HGW := Lib.hid hgw
  have HG := Lib.hid hg
  clear hb hst hst' hca hc1 hgw hbox hcw
  go_upto_region 3 with fail
  rw [HV.out]
  go_wp2_with fail
  refine (ca_put HST.out HGL.out (fun b hb => hb.elim) (by simp) (idx_K v nob 3) (fun b hb => hb.elim) qNodes qNodes_sz).mono ?_
  rintro e w2 ⟨rfl, hp⟩
  rw [works1]
  rw [works2] at hp
  obtain ⟨own2, hst2, hc2, hl2, hs2, hu2⟩ := hp.ex
  have hgn : ¬ (w.heap.size ≤ g ∧ g < w1.heap.size) := fun h => by have := HG.out; omega
  have hb2 := hc2.heap HB.out hgn
  clear s0 s1 s2 s3 s4 s5
  obtain ⟨s0, s1, s2, s3, s4, s5⟩ := row6 hb2
  have HB2 := Lib.hid hb2
  have HST2 := Lib.hid hst2
  have HL2 := Lib.hid hl2
  have HC2 : Hid (Chg nob w w2) := HCV.out.trans hc2 (fun i hi => .inr hi.1)
  have HU2 : Hid (∀ b, own2 b → w.heap.size ≤ b) := fun b hb => (hu2 b hb).elim (fun h => h.1) (fun h => Nat.le_trans HCV.out.size h)
  have HGN : Hid (¬ own2 g) := fun h => (hu2 g h).elim hgn (fun h => by have := heap_lt HB.out; omega)
  clear hp hst2 hc2 hl2 hs2 hu2 hgn hb2
  go_wp2_with fail
  refine (ca_index HST2.out qNodes).mono ?_
  rintro e w3 ⟨rfl, hc3⟩
  rw [works3]
  have hb3 := hc3.heap HB2.out (not_nob _)
  clear s0 s1 s2 s3 s4 s5
  obtain ⟨s0, s1, s2, s3, s4, s5⟩ := row6 hb3
  have HST3 := Lib.hid (HST2.out.new hc3)
  have HC3 := Lib.hid hc3
  clear hc3 hb3
  unfold idxA
  go_wp2_with fail
  refine (ca_put HST3.out (fun b hb => Nat.lt_of_lt_of_le (HL2.out b hb) HC3.out.size) (fun b hb => hb.elim) (by simp) (idx_K w3 nob 2) (fun b hb => hb.elim) qNodes qNodes_sz).mono ?_
  rintro e w4 ⟨rfl, hp⟩
  rw [works4]
  obtain ⟨own4, hst4, hc4, -, -, -⟩ := hp.ex
  have HC4 : Hid (Chg nob w w4) := (HC2.out.thenNew HC3.out).trans hc4 (fun i hi => .inr (HU2.out i hi))
  clear hp hst4 hc4
  go_wp2
  go_ret
  exact ⟨rfl, HC4.out⟩
#print axioms cache_works
end Go.Proofs.Ytkclceghhebfaaa
