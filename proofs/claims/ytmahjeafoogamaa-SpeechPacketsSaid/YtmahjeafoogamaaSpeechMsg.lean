/- Messages: whether a message may be: the program's answer. -/
import Derived.Test.YtmahjeafoogamaaSpeechRight
import Derived.Deep.CutRange
import Derived.Deep.DeepCutAuto
import Derived.Outline
import Derived.WalkSpells
import Derived.Lib.SliceRun
namespace Go.Proofs.Ytmahjeafoogamaa
open Go.RowKit
set_option linter.unusedVariables false
set_option linter.unusedSimpArgs false
/-- A message as a value. -/
abbrev msV (m : Ms) (B : Option Addr) (n d : Nat) : Array Value := #[.int .i64 m.1, .int .u32 m.2.1, .int .i64 m.2.2.1, .int .i64 m.2.2.2.1, .bool m.2.2.2.2.1, .slice B n d]
/-- A message in its place g. -/
structure MsSt (w0 : World) (g : Nat) (m : Ms) (ok : Nat → Prop) (B : Option Addr) (n d : Nat) (w : World) : Prop where
  row : w.heap[g]? = some (.cells (msV m B n d) 25 (0, 0))
  us : updK.C w ok B m.2.2.2.2.2
  chg : Chg nob w0 w
theorem MsSt.new {w0 w w' : World} {g : Nat} {m : Ms} {ok : Nat → Prop} {B : Option Addr} {n d : Nat} (h : MsSt w0 g m ok B n d w) (hc : Chg nob w w') : MsSt w0 g m ok B n d w' :=
  ⟨hc.heap h.row (not_nob _), Kd.C_new h.us hc, h.chg.thenNew hc⟩
theorem ms_start {w : World} {m : Ms} {ok : Nat → Prop} {B : Option Addr} {n d : Nat} (h : updK.C w ok B m.2.2.2.2.2) : MsSt w w.heap.size m ok B n d (w.alloc (.cells (msV m B n d) 25)) :=
  ⟨heap_alloc_new w _, Kd.C_new h ((Chg.refl _ w).alloc _), (Chg.refl _ w).alloc _⟩
theorem fieldsL_nil (k : Int) : fieldsL k = [] ↔ ¬ (1 ≤ k ∧ k ≤ 6) := by
  unfold fieldsL
  by_cases h1 : k = 1 ∨ k = 3
  · rw [if_pos h1]; simp; omega
  rw [if_neg h1]
  by_cases h2 : k = 2 ∨ k = 4
  · rw [if_pos h2]; simp; omega
  rw [if_neg h2]
  by_cases h3 : k = 5
  · rw [if_pos h3]; simp; omega
  rw [if_neg h3]
  by_cases h4 : k = 6
  · rw [if_pos h4]; simp; omega
  rw [if_neg h4]
  simp; omega
def condA (m : Ms) : Bool := !(decide (1 ≤ m.1 ∧ m.1 ≤ 6) && nodeB m.2.2.1 && nodeB m.2.2.2.1 && decide (m.2.2.2.2.2.length ≤ 16))
def condB (m : Ms) : Bool := !(decide (m.2.1 = 0) || hasL (fieldsL m.1) 0)
def condC (m : Ms) : Bool := !(decide (m.2.2.2.1 = 0) || hasL (fieldsL m.1) 2)
def condD (m : Ms) : Bool := !(!m.2.2.2.2.1 || hasL (fieldsL m.1) 3)
def condE (m : Ms) : Bool := !(decide (m.2.2.2.2.2.length = 0) || hasL (fieldsL m.1) 4)
theorem rightM_eq (m : Ms) : rightM m = (!condA m && !condB m && !condC m && !condD m && !condE m && m.2.2.2.2.2.all rightU) := by
  unfold rightM condA condB condC condD condE
  simp only [Bool.not_not, Bool.and_assoc]
set_option maxRecDepth 100000 in
set_option maxHeartbeats 1000000 in
theorem s_right {w : World} {m : Ms} {ok : Nat → Prop} {B : Option Addr} {n d : Nat} (hb : updK.C w ok B m.2.2.2.2.2) (hn : m.2.2.2.2.2.length = n) :
    Calls Try.prog 10 #[.agg (msV m B n d)] w fun e w' => e = .returned (.bool (rightM m)) ∧ Chg nob w w' := by
  have hst := ms_start (n := n) (d := d) hb
  have hrow := row6c hst.row
  obtain ⟨mv, hmv⟩ : ∃ mv, msV m B n d = mv := ⟨_, rfl⟩
  rw [hmv] at hst hrow ⊢
  clear hmv
  obtain ⟨kd, sq, fr, tg, rp, us⟩ := m
  have hsm := hb.small
  have HN := Lib.hid hn
  simp only at hn hsm
  rw [hn] at hsm
  have HST := Lib.hid hst
  obtain ⟨q0, q1, q2, q3, q4, q5⟩ := hrow
  have HRM := Lib.hid (rightM_eq (kd, sq, fr, tg, rp, us))
  clear hst hb hn
  go_enter Try.func10, Try.ntmps10
  go_upto_region 1 with fail
  go_cut [5] (fun s5 wx => s5 = .bool (condA (kd, sq, fr, tg, rp, us)) ∧ Hid (MsSt w w.heap.size (kd, sq, fr, tg, rp, us) ok B n d wx))
  case first =>
    go_wp2_with fail
    refine (s_fields kd).mono ?_
    rintro e w2 ⟨hc2, A, nf, rfl, hnf, hnil, _⟩
    have HS := Lib.hid (HST.out.new hc2)
    clear q0 q1 q2 q3 q4 q5
    obtain ⟨q0, q1, q2, q3, q4, q5⟩ := row6c HS.out.row
    rw [fieldsL_nil] at hnil
    have heq := fun (A : Option Addr) (wx : World) => Lib.run_eql_slice_nil (P := Try.prog) wx 56 3 A nf nf 0 0 Try.underlying56
    by_cases hk : 1 ≤ kd ∧ kd ≤ 6
    · cases A with
      | none => exact absurd hk (hnil.1 rfl)
      | some a =>
        have HK := Lib.hid hk
        clear hnil hnf hc2 hk
        by_cases hf : nodeB fr = true
        · by_cases ht : nodeB tg = true
          · by_cases hl : n ≤ 16
            · have HA : Hid (condA (kd, sq, fr, tg, rp, us) = false) := by show _ = _; simp only [condA, hf, ht, HN.out, decide_eq_true HK.out, decide_eq_true hl]; rfl
              have hl' : ¬ (16 : Int) < (n : Int) := by omega
              go_wp2_with (go_at_call 25; refine (s_node _).mono ?_; rintro e w' ⟨rfl, rfl⟩)
              go_meet
              case rel => exact ⟨by rw [HA.out] <;> (first | (simp; omega) | simp), HS⟩
            · have HA : Hid (condA (kd, sq, fr, tg, rp, us) = true) := by show _ = _; simp only [condA, hf, ht, HN.out, decide_eq_true HK.out, decide_eq_false hl]; rfl
              have hl' : (16 : Int) < (n : Int) := by omega
              go_wp2_with (go_at_call 25; refine (s_node _).mono ?_; rintro e w' ⟨rfl, rfl⟩)
              go_meet
              case rel => exact ⟨by rw [HA.out] <;> (first | (simp; omega) | simp), HS⟩
          · have ht' : nodeB tg = false := by simpa using ht
            have HA : Hid (condA (kd, sq, fr, tg, rp, us) = true) := by show _ = _; simp only [condA, hf, ht', decide_eq_true HK.out]; rfl
            clear ht
            go_wp2_with (go_at_call 25; refine (s_node _).mono ?_; rintro e w' ⟨rfl, rfl⟩)
            go_meet
            case rel => exact ⟨by rw [HA.out] <;> (first | (simp; omega) | simp), HS⟩
        · have hf' : nodeB fr = false := by simpa using hf
          have HA : Hid (condA (kd, sq, fr, tg, rp, us) = true) := by show _ = _; simp only [condA, hf', decide_eq_true HK.out]; rfl
          clear hf
          go_wp2_with (go_at_call 25; refine (s_node _).mono ?_; rintro e w' ⟨rfl, rfl⟩)
          go_meet
          case rel => exact ⟨by rw [HA.out] <;> (first | (simp; omega) | simp), HS⟩
    · obtain rfl : A = none := hnil.2 hk
      have HA : Hid (condA (kd, sq, fr, tg, rp, us) = true) := by show _ = _; simp only [condA, decide_eq_false hk]; rfl
      clear hnil hnf hc2 hk
      go_wp2_with fail
      go_meet
      case rel => exact ⟨by rw [HA.out] <;> (first | (simp; omega) | simp), HS⟩
  case rest =>
    obtain ⟨hs5, HS1⟩ := hcut
    clear q0 q1 q2 q3 q4 q5 HST
    obtain ⟨b, hA⟩ : ∃ b, condA (kd, sq, fr, tg, rp, us) = b := ⟨_, rfl⟩
    rw [hA] at hs5
    subst hs5
    cases b
    rotate_left
    · have HR : Hid (rightM (kd, sq, fr, tg, rp, us) = false) := by show _ = _; rw [HRM.out, hA]; simp
      clear hA
      go_wp2_with fail
      go_ret
      rw [HR.out]
      exact ⟨rfl, HS1.out.chg⟩
    have HA := Lib.hid hA
    clear hA
    obtain ⟨q0, q1, q2, q3, q4, q5⟩ := row6c HS1.out.row
    go_upto_region 3 with fail
    go_cut [28] (fun s wx => s = .bool (condB (kd, sq, fr, tg, rp, us)) ∧ Hid (MsSt w w.heap.size (kd, sq, fr, tg, rp, us) ok B n d wx))
    case first =>
      by_cases ht : sq = 0
      · have HV : Hid (condB (kd, sq, fr, tg, rp, us) = false) := by show _ = _; simp only [condB, decide_eq_true ht] <;> rfl
        have t0 : (sq == 0) = true := by simpa using ht
        have t1 : (sq != 0) = false := by simp only [bne, t0]; rfl
        clear ht
        go_wp2_with fail
        go_meet
        case rel => exact ⟨by rw [HV.out], HS1⟩
      · have HV : Hid (condB (kd, sq, fr, tg, rp, us) = !hasL (fieldsL kd) 0) := by show _ = _; simp only [condB, decide_eq_false ht, Bool.false_or] <;> rfl
        have t0 : (sq == 0) = false := by simpa using ht
        have t1 : (sq != 0) = true := by simp only [bne, t0]; rfl
        clear ht
        go_wp2_with fail
        refine (s_has kd 0).mono ?_
        rintro e w3 ⟨rfl, hc3⟩
        have HS := Lib.hid (HS1.out.new hc3)
        obtain ⟨hv, hhv⟩ : ∃ hv, hasL (fieldsL kd) 0 = hv := ⟨_, rfl⟩
        rw [hhv] at HV ⊢
        clear hc3 hhv
        cases hv <;> go_wp2_with fail
        all_goals go_meet
        all_goals exact ⟨by rw [HV.out]; rfl, HS⟩
    case rest =>
      obtain ⟨hs, HS2⟩ := hcut
      clear q0 q1 q2 q3 q4 q5
      obtain ⟨b, hV⟩ : ∃ b, condB (kd, sq, fr, tg, rp, us) = b := ⟨_, rfl⟩
      rw [hV] at hs
      subst hs
      have HB := Lib.hid hV
      clear hV
      obtain ⟨q0, q1, q2, q3, q4, q5⟩ := row6c HS2.out.row
      cases b
      rotate_left
      · have HR : Hid (rightM (kd, sq, fr, tg, rp, us) = false) := by show _ = _; rw [HRM.out, HB.out]; simp
        go_wp2_with fail
        go_ret
        rw [HR.out]
        exact ⟨rfl, HS2.out.chg⟩
      go_upto_region 4 with fail
      go_cut [28] (fun s wx => s = .bool (condC (kd, sq, fr, tg, rp, us)) ∧ Hid (MsSt w w.heap.size (kd, sq, fr, tg, rp, us) ok B n d wx))
      case first =>
        by_cases ht : tg = 0
        · have HV : Hid (condC (kd, sq, fr, tg, rp, us) = false) := by show _ = _; simp only [condC, decide_eq_true ht] <;> rfl
          have t0 : (tg == 0) = true := by simpa using ht
          have t1 : (tg != 0) = false := by simp only [bne, t0]; rfl
          clear ht
          go_wp2_with fail
          go_meet
          case rel => exact ⟨by rw [HV.out], HS2⟩
        · have HV : Hid (condC (kd, sq, fr, tg, rp, us) = !hasL (fieldsL kd) 2) := by show _ = _; simp only [condC, decide_eq_false ht, Bool.false_or] <;> rfl
          have t0 : (tg == 0) = false := by simpa using ht
          have t1 : (tg != 0) = true := by simp only [bne, t0]; rfl
          clear ht
          go_wp2_with fail
          refine (s_has kd 2).mono ?_
          rintro e w3 ⟨rfl, hc3⟩
          have HS := Lib.hid (HS2.out.new hc3)
          obtain ⟨hv, hhv⟩ : ∃ hv, hasL (fieldsL kd) 2 = hv := ⟨_, rfl⟩
          rw [hhv] at HV ⊢
          clear hc3 hhv
          cases hv <;> go_wp2_with fail
          all_goals go_meet
          all_goals exact ⟨by rw [HV.out]; rfl, HS⟩
      case rest =>
        obtain ⟨hs, HS3⟩ := hcut
        clear q0 q1 q2 q3 q4 q5
        obtain ⟨b, hV⟩ : ∃ b, condC (kd, sq, fr, tg, rp, us) = b := ⟨_, rfl⟩
        rw [hV] at hs
        subst hs
        have HC := Lib.hid hV
        clear hV
        obtain ⟨q0, q1, q2, q3, q4, q5⟩ := row6c HS3.out.row
        cases b
        rotate_left
        · have HR : Hid (rightM (kd, sq, fr, tg, rp, us) = false) := by show _ = _; rw [HRM.out, HC.out]; simp
          go_wp2_with fail
          go_ret
          rw [HR.out]
          exact ⟨rfl, HS3.out.chg⟩
        go_upto_region 6 with fail
        go_cut [47] (fun s wx => s = .bool (condD (kd, sq, fr, tg, rp, us)) ∧ Hid (MsSt w w.heap.size (kd, sq, fr, tg, rp, us) ok B n d wx))
        case first =>
          by_cases ht : rp = false
          · have HV : Hid (condD (kd, sq, fr, tg, rp, us) = false) := by show _ = _; simp only [condD, ht] <;> rfl
            have t0 : rp = false := ht
            go_wp2_with fail
            go_meet
            case rel => exact ⟨by rw [HV.out], HS3⟩
          · have HV : Hid (condD (kd, sq, fr, tg, rp, us) = !hasL (fieldsL kd) 3) := by show _ = _; simp only [condD, show rp = true from by simpa using ht] <;> rfl
            have ht' : rp = true := by simpa using ht
            go_wp2_with fail
            refine (s_has kd 3).mono ?_
            rintro e w3 ⟨rfl, hc3⟩
            have HS := Lib.hid (HS3.out.new hc3)
            obtain ⟨hv, hhv⟩ : ∃ hv, hasL (fieldsL kd) 3 = hv := ⟨_, rfl⟩
            rw [hhv] at HV ⊢
            clear hc3 hhv
            cases hv <;> go_wp2_with fail
            all_goals go_meet
            all_goals exact ⟨by rw [HV.out]; rfl, HS⟩
        case rest =>
          obtain ⟨hs, HS4⟩ := hcut
          clear q0 q1 q2 q3 q4 q5
          obtain ⟨b, hV⟩ : ∃ b, condD (kd, sq, fr, tg, rp, us) = b := ⟨_, rfl⟩
          rw [hV] at hs
          subst hs
          have HD := Lib.hid hV
          clear hV
          obtain ⟨q0, q1, q2, q3, q4, q5⟩ := row6c HS4.out.row
          cases b
          rotate_left
          · have HR : Hid (rightM (kd, sq, fr, tg, rp, us) = false) := by show _ = _; rw [HRM.out, HD.out]; simp
            go_wp2_with fail
            go_ret
            rw [HR.out]
            exact ⟨rfl, HS4.out.chg⟩
          go_upto_region 7 with fail
          go_cut [47] (fun s wx => s = .bool (condE (kd, sq, fr, tg, rp, us)) ∧ Hid (MsSt w w.heap.size (kd, sq, fr, tg, rp, us) ok B n d wx))
          case first =>
            by_cases ht : n = 0
            · have HV : Hid (condE (kd, sq, fr, tg, rp, us) = false) := by show _ = _; simp only [condE, HN.out, decide_eq_true ht] <;> rfl
              have t0 : ¬ (0 : Int) < (n : Int) := by omega
              go_wp2_with fail
              go_meet
              case rel => exact ⟨by rw [HV.out], HS4⟩
            · have HV : Hid (condE (kd, sq, fr, tg, rp, us) = !hasL (fieldsL kd) 4) := by show _ = _; simp only [condE, HN.out, decide_eq_false ht, Bool.false_or] <;> rfl
              have t0 : (0 : Int) < (n : Int) := by omega
              have t00 : 0 < n := by omega
              go_wp2_with fail
              refine (s_has kd 4).mono ?_
              rintro e w3 ⟨rfl, hc3⟩
              have HS := Lib.hid (HS4.out.new hc3)
              obtain ⟨hv, hhv⟩ : ∃ hv, hasL (fieldsL kd) 4 = hv := ⟨_, rfl⟩
              rw [hhv] at HV ⊢
              clear hc3 hhv
              cases hv <;> go_wp2_with fail
              all_goals go_meet
              all_goals exact ⟨by rw [HV.out]; rfl, HS⟩
          case rest =>
            obtain ⟨hs, HS5⟩ := hcut
            clear q0 q1 q2 q3 q4 q5
            obtain ⟨b, hV⟩ : ∃ b, condE (kd, sq, fr, tg, rp, us) = b := ⟨_, rfl⟩
            rw [hV] at hs
            subst hs
            have HE := Lib.hid hV
            clear hV
            obtain ⟨q0, q1, q2, q3, q4, q5⟩ := row6c HS5.out.row
            cases b
            rotate_left
            · have HR : Hid (rightM (kd, sq, fr, tg, rp, us) = false) := by show _ = _; rw [HRM.out, HE.out]; simp
              go_wp2_with fail
              go_ret
              rw [HR.out]
              exact ⟨rfl, HS5.out.chg⟩
            have HST0 : Hid ((us.take 0).all rightU = true) := rfl
            go_wp2
            go_loopw [69] (fun i wr => ∃ k : Nat, k ≤ n ∧ i = .int .i64 k ∧ Hid ((us.take k).all rightU = true) ∧ Hid (MsSt w w.heap.size (kd, sq, fr, tg, rp, us) ok B n d wr)) (fun i _ => n - (intOf i).toNat)
            case atStart => exact ⟨0, Nat.zero_le _, rfl, HST0, HS5⟩
            case round =>
              obtain ⟨k, hk1, rfl, HF, HS⟩ := hrel
              clear q0 q1 q2 q3 q4 q5 HST0
              by_cases hlt : k < n
              · have b1 : (k : Int) < (n : Int) := by omega
                have b3 : (0 : Int) ≤ (k : Int) := by omega
                obtain ⟨u, hu⟩ : ∃ u, us[k]? = some u := ⟨_, List.getElem?_eq_getElem (by rw [HN.out]; exact hlt)⟩
                obtain ⟨ub, uo, rfl, _, c0, c1, c2⟩ := upd_at HS.out.us hu
                have HTK : Hid (us.take (k + 1) = us.take k ++ [u] ∧ u ∈ us) := by
                  obtain ⟨hj, he⟩ := List.getElem?_eq_some_iff.1 hu
                  exact ⟨by rw [List.take_succ_eq_append_getElem hj, he], List.mem_of_getElem? hu⟩
                have hcA := (Chg.refl nob wr).alloc (.cells #[.int .i64 u.1, .int .u32 u.2.1, .int .i64 u.2.2] 62)
                have HCA := Lib.hid hcA
                obtain ⟨r0, r1, r2⟩ := row3c (heap_alloc_new wr (.cells #[.int .i64 u.1, .int .u32 u.2.1, .int .i64 u.2.2] 62))
                clear hu hcA
                go_wp2_with fail
                refine (k_right u).mono ?_
                rintro e w3 ⟨rfl, hc3⟩
                have HS3 := Lib.hid (HS.out.new (HCA.out.thenNew hc3))
                obtain ⟨b, hb⟩ : ∃ b, rightU u = b := ⟨_, rfl⟩
                rw [hb]
                have HB := Lib.hid hb
                clear hc3 hb c0 c1 c2 r0 r1 r2
                cases b
                · have HR : Hid (rightM (kd, sq, fr, tg, rp, us) = false) := by
                    show _ = _
                    have : us.all rightU = false := by
                      rw [List.all_eq_false]
                      exact ⟨u, HTK.out.2, by rw [HB.out]; simp⟩
                    rw [HRM.out]
                    show (_ && us.all rightU) = false
                    rw [this, Bool.and_false]
                  go_wp2
                  go_ret
                  rw [HR.out]
                  exact ⟨rfl, HS3.out.chg⟩
                · have HF2 : Hid ((us.take (k + 1)).all rightU = true) := by
                    show _ = _
                    rw [HTK.out.1, List.all_append, HF.out]
                    simp [HB.out]
                  go_wp2
                  exact ⟨⟨k + 1, by omega, by go_num, HF2, HS3⟩, by simp [intOf]; omega⟩
              · obtain rfl : k = n := by omega
                have b1 : ¬ (k : Int) < (k : Int) := by omega
                have HR : Hid (rightM (kd, sq, fr, tg, rp, us) = true) := by
                  show _ = _
                  have h1 : us.all rightU = true := by
                    have := HF.out
                    rw [← HN.out, List.take_length] at this
                    exact this
                  rw [HRM.out, HA.out, HB.out, HC.out, HD.out, HE.out]
                  exact h1
                go_wp2
                go_ret
                rw [HR.out]
                exact ⟨rfl, HS.out.chg⟩
end Go.Proofs.Ytmahjeafoogamaa
