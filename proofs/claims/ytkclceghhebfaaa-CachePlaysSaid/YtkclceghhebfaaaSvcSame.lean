/- Services: the reference's SameServices of two lists that are the same. -/
import Derived.Test.YtkclceghhebfaaaSvc
import Derived.Deep.CutRange
import Derived.Deep.DeepCutAuto
import Derived.Deep.Cut
namespace Go.Proofs.Ytkclceghhebfaaa
open Go.RowKit
set_option linter.unusedVariables false
set_option linter.unusedSimpArgs false
theorem two_box (w : World) (u v : Array Value) (t : TypeId) : ((w.alloc (.cells u t)).alloc (.cells v t)).heap[w.heap.size]? = some (.cells u t (0, 0)) ∧ ((w.alloc (.cells u t)).alloc (.cells v t)).heap[w.heap.size + 1]? = some (.cells v t (0, 0)) ∧ Chg nob w ((w.alloc (.cells u t)).alloc (.cells v t)) := by
  have h1 := ((Chg.refl nob (w.alloc (.cells u t))).alloc (.cells v t)).heap (heap_alloc_new w (.cells u t)) (not_nob _)
  have h2 := heap_alloc_new (w.alloc (.cells u t)) (.cells v t)
  rw [show (w.alloc (.cells u t)).heap.size = w.heap.size + 1 from by simp] at h2
  exact ⟨h1, h2, ((Chg.refl nob w).alloc _).alloc _⟩
set_option maxRecDepth 100000 in
set_option maxHeartbeats 4000000 in
theorem r_sameV {w : World} {ok ok' : Nat → Prop} {A B : Option Addr} {l : List Svc} {m c d : Nat} (hm : l.length = m) (h : svcK.C w ok A l) (k : svcK.C w ok' B l) :
    Calls Try.prog 17 #[.slice A m c, .slice B m d] w fun e w' => e = .returned (.bool true) ∧ Chg nob w w' := by
  have hs := h.small
  rw [hm] at hs
  have HM := Lib.hid hm
  have HA := Lib.hid h
  have HB := Lib.hid k
  have HC0 := Lib.hid (Chg.refl nob w)
  clear hm h k
  go_enter Try.func17, Try.ntmps17
  go_wp2
  go_loopw [5] (fun i wr => ∃ j : Nat, j ≤ m ∧ i = .int .i64 j ∧ Hid (Chg nob w wr)) (fun i _ => m - (intOf i).toNat)
  case atStart => exact ⟨0, Nat.zero_le _, rfl, HC0⟩
  case round =>
    obtain ⟨j, hj, rfl, HC⟩ := hrel
    clear HC0
    by_cases hlt : j < m
    · have b1 : (j : Int) < (m : Int) := by omega
      have b3 : (0 : Int) ≤ (j : Int) := by omega
      obtain ⟨x, hx⟩ : ∃ x, l[j]? = some x := ⟨_, List.getElem?_eq_getElem (by rw [HM.out]; exact hlt)⟩
      obtain ⟨ab, ao, L, ld, rfl, _, hat, hCa, _, _⟩ := svc_at (Kd.C_new HA.out HC.out) hx
      obtain ⟨bb, bo, L2, ld2, rfl, _, hbt, hCb, _, _⟩ := svc_at (Kd.C_new HB.out HC.out) hx
      obtain ⟨tn, htn⟩ : ∃ tn, x.2.2.2.1.length = tn := ⟨_, rfl⟩
      rw [htn] at hat hbt
      have HTN := Lib.hid htn
      have HCA := Lib.hid hCa
      have HCB := Lib.hid hCb
      have HAT := Lib.hid hat
      have HBT := Lib.hid hbt
      clear hx hCa hCb htn hat hbt
      go_upto_region 6 with fail
      have hdr := (Chg.refl nob wr).drew
      go_cut [6, 7] from 13 to 74 (fun a b wx => ∃ p q, a = .pointer (some ⟨p, 0, none⟩) ∧ b = .pointer (some ⟨q, 0, none⟩) ∧ Hid (SvcAt wx p 0 x L ld tn) ∧ Hid (SvcAt wx q 0 x L2 ld2 tn) ∧ Hid (Chg nob wr wx))
      case first =>
        go_region_held3 (fun w' => (w'.cell? ⟨ab, ao + j * 7, none⟩ = some (.int .i64 x.1) ∧ w'.cell? ⟨ab, ao + j * 7 + 1, none⟩ = some (.string x.2.1) ∧ w'.cell? ⟨ab, ao + j * 7 + 2, none⟩ = some (.string x.2.2.1) ∧ w'.cell? ⟨ab, ao + j * 7 + 3, none⟩ = some (.slice L tn ld) ∧ w'.cell? ⟨ab, ao + j * 7 + 4, none⟩ = some (.int .i64 x.2.2.2.2.1) ∧ w'.cell? ⟨ab, ao + j * 7 + 5, none⟩ = some (.int .u64 x.2.2.2.2.2.1) ∧ w'.cell? ⟨ab, ao + j * 7 + 6, none⟩ = some (.int .u64 x.2.2.2.2.2.2)) ∧ w'.cell? ⟨bb, bo + j * 7, none⟩ = some (.int .i64 x.1) ∧ w'.cell? ⟨bb, bo + j * 7 + 1, none⟩ = some (.string x.2.1) ∧ w'.cell? ⟨bb, bo + j * 7 + 2, none⟩ = some (.string x.2.2.1) ∧ w'.cell? ⟨bb, bo + j * 7 + 3, none⟩ = some (.slice L2 tn ld2) ∧ w'.cell? ⟨bb, bo + j * 7 + 4, none⟩ = some (.int .i64 x.2.2.2.2.1) ∧ w'.cell? ⟨bb, bo + j * 7 + 5, none⟩ = some (.int .u64 x.2.2.2.2.2.1) ∧ w'.cell? ⟨bb, bo + j * 7 + 6, none⟩ = some (.int .u64 x.2.2.2.2.2.2))
          (first | exact SvcAt.pair (HAT.out.new (by assumption)) (HBT.out.new (by assumption)) | exact SvcAt.pair (HAT.out.new (((Chg.refl nob wr).drew).alloc _)) (HBT.out.new (((Chg.refl nob wr).drew).alloc _)) | exact SvcAt.pair (HAT.out.new ((((Chg.refl nob wr).drew).alloc _).alloc _)) (HBT.out.new ((((Chg.refl nob wr).drew).alloc _).alloc _))) (fail)
        · go_wp2_with fail
          go_meet
          exact ⟨_, _, rfl, rfl, svc_block (two_box wr (svcV x L ld tn) (svcV x L2 ld2 tn) _).1, svc_block (two_box wr (svcV x L ld tn) (svcV x L2 ld2 tn) _).2.1, (two_box wr (svcV x L ld tn) (svcV x L2 ld2 tn) _).2.2.drew⟩
        · go_wp2_with fail
          go_meet
          exact ⟨_, _, rfl, rfl, svc_block (two_box wr (svcV x L2 ld2 tn) (svcV x L ld tn) _).2.1, svc_block (two_box wr (svcV x L2 ld2 tn) (svcV x L ld tn) _).1, (two_box wr (svcV x L2 ld2 tn) (svcV x L ld tn) _).2.2.drew⟩
      case rest =>
        obtain ⟨p, q, rfl, rfl, HP, HQ, HW⟩ := hcut
        have HCW := Lib.hid (HC.out.thenNew HW.out)
        have HCA2 := Lib.hid (Kd.C_new HCA.out HW.out)
        have HCB2 := Lib.hid (Kd.C_new HCB.out HW.out)
        obtain ⟨p0, p1, p2, p3, p4, p5, p6⟩ := HP.out
        obtain ⟨q0, q1, q2, q3, q4, q5, q6⟩ := HQ.out
        go_wp2_with fail
        refine (r_sameS HTN.out HTN.out HCA2.out HCB2.out).mono ?_
        rintro e w2 ⟨rfl, hc2⟩
        rw [decide_eq_true rfl]
        have HP2 := Lib.hid (HP.out.new hc2)
        have HQ2 := Lib.hid (HQ.out.new hc2)
        have HC3 := Lib.hid (HCW.out.thenNew hc2)
        clear p0 p1 p2 p3 p4 p5 p6 q0 q1 q2 q3 q4 q5 q6 hc2
        obtain ⟨p0, p1, p2, p3, p4, p5, p6⟩ := HP2.out
        obtain ⟨q0, q1, q2, q3, q4, q5, q6⟩ := HQ2.out
        go_wp2
        exact ⟨⟨j + 1, by omega, by go_num, HC3⟩, by simp [intOf]; omega⟩
    · obtain rfl : j = m := by omega
      have b1 : ¬ (j : Int) < (j : Int) := by omega
      go_wp2
      go_ret
      exact ⟨rfl, HC.out⟩
end Go.Proofs.Ytkclceghhebfaaa
