/- Messages: whether a message may be: the reference's answer. -/
import Derived.Test.YtmahjeafoogamaaSpeechMsg
namespace Go.Proofs.Ytmahjeafoogamaa
open Go.RowKit
set_option linter.unusedVariables false
set_option linter.unusedSimpArgs false
def cond8 (m : Ms) : Bool := (decide (5 ≤ m.1) && (!decide (m.2.1 = 0) || !decide (m.2.2.2.1 = 0))) || (decide (m.1 < 5) && decide (0 < m.2.2.2.2.2.length))
def cond10 (m : Ms) : Bool := !decide (m.1 = 6) && m.2.2.2.2.1
def cond12 (m : Ms) : Bool := decide (m.2.2.2.1 = 0) || decide (m.1 = 1) || decide (m.1 = 3)
theorem rightM_ref {m : Ms} (h : condA m = false) : rightM m = (!cond8 m && !cond10 m && cond12 m && m.2.2.2.2.2.all rightU) := by
  obtain ⟨kd, sq, fr, tg, rp, us⟩ := m
  rw [rightM_eq, h]
  have hk : 1 ≤ kd ∧ kd ≤ 6 := by
    unfold condA at h
    by_cases hk : 1 ≤ kd ∧ kd ≤ 6
    · exact hk
    · rw [decide_eq_false hk] at h; simp at h
  have hk' : kd = 1 ∨ kd = 2 ∨ kd = 3 ∨ kd = 4 ∨ kd = 5 ∨ kd = 6 := by omega
  have hlen : us.length = 0 ∨ 0 < us.length := by omega
  unfold condB condC condD condE cond8 cond10 cond12
  generalize us.all rightU = q
  generalize us.length = n at hlen ⊢
  by_cases h1 : sq = 0 <;> by_cases h2 : tg = 0 <;> rcases hlen with h3 | h3 <;> rcases hk' with rfl | rfl | rfl | rfl | rfl | rfl <;> cases rp <;> cases q <;> simp [h1, h2, h3, hasL, fieldsL] <;> omega
set_option maxRecDepth 100000 in
set_option maxHeartbeats 1000000 in
theorem r_rightM {w : World} {m : Ms} {ok : Nat → Prop} {B : Option Addr} {n d : Nat} (hb : updK.C w ok B m.2.2.2.2.2) (hn : m.2.2.2.2.2.length = n) :
    Calls Try.prog 11 #[.agg (msV m B n d)] w fun e w' => e = .returned (.bool (rightM m)) ∧ Chg nob w w' := by
  have hst := ms_start (n := n) (d := d) hb
  have hrow := row6c hst.row
  obtain ⟨mv, hmv⟩ : ∃ mv, msV m B n d = mv := ⟨_, rfl⟩
  rw [hmv] at hst hrow ⊢
  clear hmv
  obtain ⟨kd, sq, fr, tg, rp, us⟩ := m
  have hsm := hb.small
  have HN := Lib.hid hn
  simp only at hn hsm
  rw [hn] at hsm
  have HST := Lib.hid hst
  obtain ⟨q0, q1, q2, q3, q4, q5⟩ := hrow
  have HRM := Lib.hid (fun h => rightM_ref (m := (kd, sq, fr, tg, rp, us)) h)
  have HRA := Lib.hid (rightM_eq (kd, sq, fr, tg, rp, us))
  clear hst hb hn
  go_enter Try.func11, Try.ntmps11
  go_upto_region 1 with fail
  go_cut [37] (fun s wx => s = .bool (condA (kd, sq, fr, tg, rp, us)) ∧ Hid (MsSt w w.heap.size (kd, sq, fr, tg, rp, us) ok B n d wx))
  case first =>
    by_cases h0 : kd < 1
    · have HA : Hid (condA (kd, sq, fr, tg, rp, us) = true) := by show _ = _; simp [condA, nodeB, HN.out]; omega
      go_wp2_with fail
      go_meet
      case rel => exact ⟨by rw [HA.out] <;> (first | (simp; omega) | simp), HST⟩
    · have g0 := Int.not_lt.1 h0
      by_cases h1 : 6 < kd
      · have HA : Hid (condA (kd, sq, fr, tg, rp, us) = true) := by show _ = _; simp [condA, nodeB, HN.out]; omega
        go_wp2_with fail
        go_meet
        case rel => exact ⟨by rw [HA.out] <;> (first | (simp; omega) | simp), HST⟩
      · have g1 := Int.not_lt.1 h1
        by_cases h2 : fr < 0
        · have HA : Hid (condA (kd, sq, fr, tg, rp, us) = true) := by show _ = _; simp [condA, nodeB, HN.out]; omega
          go_wp2_with fail
          go_meet
          case rel => exact ⟨by rw [HA.out] <;> (first | (simp; omega) | simp), HST⟩
        · have g2 := Int.not_lt.1 h2
          by_cases h3 : 7 < fr
          · have HA : Hid (condA (kd, sq, fr, tg, rp, us) = true) := by show _ = _; simp [condA, nodeB, HN.out]; omega
            go_wp2_with fail
            go_meet
            case rel => exact ⟨by rw [HA.out] <;> (first | (simp; omega) | simp), HST⟩
          · have g3 := Int.not_lt.1 h3
            by_cases h4 : tg < 0
            · have HA : Hid (condA (kd, sq, fr, tg, rp, us) = true) := by show _ = _; simp [condA, nodeB, HN.out]; omega
              go_wp2_with fail
              go_meet
              case rel => exact ⟨by rw [HA.out] <;> (first | (simp; omega) | simp), HST⟩
            · have g4 := Int.not_lt.1 h4
              by_cases h5 : 7 < tg
              · have HA : Hid (condA (kd, sq, fr, tg, rp, us) = true) := by show _ = _; simp [condA, nodeB, HN.out]; omega
                go_wp2_with fail
                go_meet
                case rel => exact ⟨by rw [HA.out] <;> (first | (simp; omega) | simp), HST⟩
              · have g5 := Int.not_lt.1 h5
                by_cases h6 : 16 < (n : Int)
                · have HA : Hid (condA (kd, sq, fr, tg, rp, us) = true) := by show _ = _; simp [condA, nodeB, HN.out]; omega
                  go_wp2_with fail
                  go_meet
                  case rel => exact ⟨by rw [HA.out] <;> (first | (simp; omega) | simp), HST⟩
                · have g6 := Int.not_lt.1 h6
                  have HA : Hid (condA (kd, sq, fr, tg, rp, us) = false) := by show _ = _; simp [condA, nodeB, HN.out]; omega
                  go_wp2_with fail
                  go_meet
                  case rel => exact ⟨by rw [HA.out] <;> (first | (simp; omega) | simp), HST⟩
  case rest =>
    obtain ⟨hs, HS1⟩ := hcut
    clear q0 q1 q2 q3 q4 q5 HST
    obtain ⟨b, hA⟩ : ∃ b, condA (kd, sq, fr, tg, rp, us) = b := ⟨_, rfl⟩
    rw [hA] at hs
    subst hs
    have HA := Lib.hid hA
    clear hA
    obtain ⟨q0, q1, q2, q3, q4, q5⟩ := row6c HS1.out.row
    cases b
    rotate_left
    · have HR : Hid (rightM (kd, sq, fr, tg, rp, us) = false) := by show _ = _; rw [HRA.out, HA.out]; simp
      go_wp2_with fail
      go_ret
      rw [HR.out]
      exact ⟨rfl, HS1.out.chg⟩
    have HRM2 := Lib.hid (HRM.out HA.out)
    clear HRM HRA
    have HST0 : Hid ((us.take 0).all rightU = true) := rfl
    go_wp2
    go_loopw [3] (fun i wr => ∃ k : Nat, k ≤ n ∧ i = .int .i64 k ∧ Hid ((us.take k).all rightU = true) ∧ Hid (MsSt w w.heap.size (kd, sq, fr, tg, rp, us) ok B n d wr)) (fun i _ => n - (intOf i).toNat)
    case atStart => exact ⟨0, Nat.zero_le _, rfl, HST0, HS1⟩
    case round =>
      obtain ⟨k, hk1, rfl, HF, HS⟩ := hrel
      clear q0 q1 q2 q3 q4 q5 HST0
      obtain ⟨q0, q1, q2, q3, q4, q5⟩ := row6c HS.out.row
      by_cases hlt : k < n
      · have b1 : (k : Int) < (n : Int) := by omega
        have b3 : (0 : Int) ≤ (k : Int) := by omega
        obtain ⟨u, hu⟩ : ∃ u, us[k]? = some u := ⟨_, List.getElem?_eq_getElem (by rw [HN.out]; exact hlt)⟩
        obtain ⟨ub, uo, rfl, _, c0, c1, c2⟩ := upd_at HS.out.us hu
        have HTK : Hid (us.take (k + 1) = us.take k ++ [u] ∧ u ∈ us) := by
          obtain ⟨hj, he⟩ := List.getElem?_eq_some_iff.1 hu
          exact ⟨by rw [List.take_succ_eq_append_getElem hj, he], List.mem_of_getElem? hu⟩
        clear hu
        go_wp2_with fail
        refine (r_right u).mono ?_
        rintro e w3 ⟨rfl, hc3⟩
        have HS3 := Lib.hid (HS.out.new hc3)
        obtain ⟨b, hb⟩ : ∃ b, rightU u = b := ⟨_, rfl⟩
        rw [hb]
        have HB := Lib.hid hb
        clear hc3 hb c0 c1 c2 q0 q1 q2 q3 q4 q5
        cases b
        · have HR : Hid (rightM (kd, sq, fr, tg, rp, us) = false) := by
            show _ = _
            have : us.all rightU = false := by
              rw [List.all_eq_false]
              exact ⟨u, HTK.out.2, by rw [HB.out]; simp⟩
            rw [HRM2.out]
            show (_ && us.all rightU) = false
            rw [this, Bool.and_false]
          go_wp2
          go_ret
          rw [HR.out]
          exact ⟨rfl, HS3.out.chg⟩
        · have HF2 : Hid ((us.take (k + 1)).all rightU = true) := by
            show _ = _
            rw [HTK.out.1, List.all_append, HF.out]
            simp [HB.out]
          go_wp2
          exact ⟨⟨k + 1, by omega, by go_num, HF2, HS3⟩, by simp [intOf]; omega⟩
      · obtain rfl : k = n := by omega
        have b1 : ¬ (k : Int) < (k : Int) := by omega
        have HALL : Hid (us.all rightU = true) := by
          have := HF.out
          rw [← HN.out, List.take_length] at this
          exact this
        have HR : Hid (rightM (kd, sq, fr, tg, rp, us) = (!cond8 (kd, sq, fr, tg, rp, us) && !cond10 (kd, sq, fr, tg, rp, us) && cond12 (kd, sq, fr, tg, rp, us))) := by
          show _ = _
          rw [HRM2.out]
          show (_ && us.all rightU) = _
          rw [HALL.out, Bool.and_true]
        clear HRM2
        have hnk : us.length = k := HN.out
        have hval8 : ∀ b, cond8 (kd, sq, fr, tg, rp, us) = b → Hid (cond8 (kd, sq, fr, tg, rp, us) = b) := fun _ h => h
        go_upto_region 8 with fail
        go_cut [75] (fun s wx => s = .bool (cond8 (kd, sq, fr, tg, rp, us)) ∧ Hid (MsSt w w.heap.size (kd, sq, fr, tg, rp, us) ok B k d wx))
        case first =>
          clear hval8 hnk
          by_cases h5 : 5 ≤ kd
          · have h5' : ¬ kd < 5 := by omega
            by_cases hs0 : sq = 0
            · have t0 : (sq == 0) = true := by simpa using hs0
              have t1 : (sq != 0) = false := by simp only [bne, t0]; rfl
              by_cases ht0 : tg = 0
              · have u0 : (tg == 0) = true := by simpa using ht0
                have u1 : (tg != 0) = false := by simp only [bne, u0]; rfl
                have HV : Hid (cond8 (kd, sq, fr, tg, rp, us) = false) := by show _ = _; simp [cond8, h5, hs0, ht0]; intro h; omega
                clear hs0 ht0
                go_wp2_with fail
                go_meet
                case rel => exact ⟨by rw [HV.out] <;> (first | (simp; omega) | simp), HS⟩
              · have u0 : (tg == 0) = false := by simpa using ht0
                have u1 : (tg != 0) = true := by simp only [bne, u0]; rfl
                have HV : Hid (cond8 (kd, sq, fr, tg, rp, us) = true) := by show _ = _; simp [cond8, h5, ht0]
                clear hs0 ht0
                go_wp2_with fail
                go_meet
                case rel => exact ⟨by rw [HV.out] <;> (first | (simp; omega) | simp), HS⟩
            · have t0 : (sq == 0) = false := by simpa using hs0
              have t1 : (sq != 0) = true := by simp only [bne, t0]; rfl
              have HV : Hid (cond8 (kd, sq, fr, tg, rp, us) = true) := by show _ = _; simp [cond8, h5, hs0]
              clear hs0
              go_wp2_with fail
              go_meet
              case rel => exact ⟨by rw [HV.out] <;> (first | (simp; omega) | simp), HS⟩
          · have h5' : kd < 5 := by omega
            by_cases hl : 0 < k
            · have b0 : (0 : Int) < (k : Int) := by omega
              have HV : Hid (cond8 (kd, sq, fr, tg, rp, us) = true) := by show _ = _; simp [cond8, h5, h5', HN.out]; omega
              go_wp2_with fail
              go_meet
              case rel => exact ⟨by rw [HV.out] <;> (first | (simp; omega) | simp), HS⟩
            · have b0 : ¬ (0 : Int) < (k : Int) := by omega
              have HV : Hid (cond8 (kd, sq, fr, tg, rp, us) = false) := by
                show _ = _
                have : us.length = 0 := by rw [HN.out]; omega
                simp [cond8, h5, h5', this]
              go_wp2_with fail
              go_meet
              case rel => exact ⟨by rw [HV.out] <;> (first | (simp; omega) | simp), HS⟩
        case rest =>
          obtain ⟨hs, HS8⟩ := hcut
          clear q0 q1 q2 q3 q4 q5 hval8 hnk HS
          obtain ⟨b, hV⟩ : ∃ b, cond8 (kd, sq, fr, tg, rp, us) = b := ⟨_, rfl⟩
          rw [hV] at hs
          subst hs
          have H8 := Lib.hid hV
          clear hV
          obtain ⟨q0, q1, q2, q3, q4, q5⟩ := row6c HS8.out.row
          cases b
          rotate_left
          · have HF : Hid (rightM (kd, sq, fr, tg, rp, us) = false) := by show _ = _; rw [HR.out, H8.out]; simp
            go_wp2_with fail
            go_ret
            rw [HF.out]
            exact ⟨rfl, HS8.out.chg⟩
          go_upto_region 10 with fail
          go_cut [82] (fun s wx => s = .bool (cond10 (kd, sq, fr, tg, rp, us)) ∧ Hid (MsSt w w.heap.size (kd, sq, fr, tg, rp, us) ok B k d wx))
          case first =>
            by_cases h6 : kd = 6
            · have t0 : (kd == 6) = true := by simpa using h6
              have t1 : (kd != 6) = false := by simp only [bne, t0]; rfl
              have HV : Hid (cond10 (kd, sq, fr, tg, rp, us) = false) := by show _ = _; simp [cond10, h6]
              clear h6
              go_wp2_with fail
              go_meet
              case rel => exact ⟨by rw [HV.out] <;> (first | (simp; omega) | simp), HS8⟩
            · have t0 : (kd == 6) = false := by simpa using h6
              have t1 : (kd != 6) = true := by simp only [bne, t0]; rfl
              have HV : Hid (cond10 (kd, sq, fr, tg, rp, us) = rp) := by show _ = _; simp [cond10, h6]
              clear h6
              go_wp2_with fail
              go_meet
              case rel => exact ⟨by rw [HV.out], HS8⟩
          case rest =>
            obtain ⟨hs, HS10⟩ := hcut
            clear q0 q1 q2 q3 q4 q5 HS8
            obtain ⟨b, hV⟩ : ∃ b, cond10 (kd, sq, fr, tg, rp, us) = b := ⟨_, rfl⟩
            rw [hV] at hs
            subst hs
            have H10 := Lib.hid hV
            clear hV
            obtain ⟨q0, q1, q2, q3, q4, q5⟩ := row6c HS10.out.row
            cases b
            rotate_left
            · have HF : Hid (rightM (kd, sq, fr, tg, rp, us) = false) := by show _ = _; rw [HR.out, H8.out, H10.out]; simp
              go_wp2_with fail
              go_ret
              rw [HF.out]
              exact ⟨rfl, HS10.out.chg⟩
            have HR2 : Hid (rightM (kd, sq, fr, tg, rp, us) = cond12 (kd, sq, fr, tg, rp, us)) := by show _ = _; rw [HR.out, H8.out, H10.out]; simp
            clear HR H8 H10
            by_cases ht0 : tg = 0
            · have u0 : (tg == 0) = true := by simpa using ht0
              have HF : Hid (rightM (kd, sq, fr, tg, rp, us) = true) := by show _ = _; rw [HR2.out]; simp [cond12, ht0]
              clear ht0
              go_wp2_with fail
              go_ret
              rw [HF.out]
              exact ⟨rfl, HS10.out.chg⟩
            · have u0 : (tg == 0) = false := by simpa using ht0
              by_cases h1 : kd = 1
              · have t0 : (kd == 1) = true := by simpa using h1
                have HF : Hid (rightM (kd, sq, fr, tg, rp, us) = true) := by show _ = _; rw [HR2.out]; simp [cond12, h1]
                clear ht0 h1
                go_wp2_with fail
                go_ret
                rw [HF.out]
                exact ⟨rfl, HS10.out.chg⟩
              · have t0 : (kd == 1) = false := by simpa using h1
                by_cases h3 : kd = 3
                · have t3 : (kd == 3) = true := by simpa using h3
                  have HF : Hid (rightM (kd, sq, fr, tg, rp, us) = true) := by show _ = _; rw [HR2.out]; simp [cond12, h3]
                  clear ht0 h1 h3
                  go_wp2_with fail
                  go_ret
                  rw [HF.out]
                  exact ⟨rfl, HS10.out.chg⟩
                · have t3 : (kd == 3) = false := by simpa using h3
                  have HF : Hid (rightM (kd, sq, fr, tg, rp, us) = false) := by show _ = _; rw [HR2.out]; simp [cond12, ht0, h1, h3]
                  clear ht0 h1 h3
                  go_wp2_with fail
                  go_ret
                  rw [HF.out]
                  exact ⟨rfl, HS10.out.chg⟩
end Go.Proofs.Ytmahjeafoogamaa
