/- A ring: what a call of Next leaves. -/
import Derived.Test.YtoiikjojknnobaaProbeShuf
import Derived.Laws.EntriesVeiled
import Derived.WalkMore
namespace Go.Proofs.Ytoiikjojknnobaa
open Go.RowKit
set_option linter.unusedVariables false
set_option linter.unusedSimpArgs false
theorem rgPost_of {w w2 : World} {okr okr' okd : Nat → Prop} {g i k : Nat} {row xs : List Int} {p : Option Addr} (hI : IsRing w2 okr' g row i) (hsub : ∀ b, okr' b → okr b ∨ w.heap.size ≤ b) (hg : ¬ okr g) (hgw : g < w.heap.size) (hD : IsD w2 okd p xs k) (hc : Chg (fun b => b = g ∨ okd b) w w2) : RgPost w okr okd g p xs row i k w2 := by
  refine ⟨?_, hD, hc⟩
  obtain ⟨_, A, c, a1, a2, a3, a4⟩ := hI.bound
  exact ⟨fun k => by rcases k.1 with h1 | h1; exact hg h1; omega, A, c, a1, a2, Kd.C_mono a3 (fun b hb => ⟨hsub b hb.1, hb.2⟩), a4⟩
set_option maxHeartbeats 1000000 in
theorem rg_next {w : World} {okr okd okl : Nat → Prop} {g at_ k n ln lc : Nat} {row xs live : List Int} {p L : Option Addr} (h : IsRing w okr g row at_) (hD : IsD w okd p xs k) (hdis : ∀ b, okd b → ¬ okr b ∧ b ≠ g) (hokd : ∀ b, okd b → b < w.heap.size) (hn : row.length = n) (hn8 : n ≤ 8) (hat : at_ ≤ n) (hL : intK.C w okl L live) (hln : live.length = ln) (hokl : ∀ b, okl b → b ≠ g ∧ ¬ okd b) :
    Calls Try.prog 11 #[.pointer (some ⟨g, 0, none⟩), .slice L ln lc, .pointer p] w fun e w' => e = .returned (.tuple #[.int .i64 (nextF xs k (row, at_) live).1.1, .bool (nextF xs k (row, at_) live).1.2]) ∧ RgPost w okr okd g p xs (nextF xs k (row, at_) live).2.1.1 (nextF xs k (row, at_) live).2.1.2 (nextF xs k (row, at_) live).2.2 w' := by
  have HI := Lib.hid h
  have HD := Lib.hid hD
  have HDIS := Lib.hid hdis
  have HOKD := Lib.hid hokd
  have HOKL := Lib.hid hokl
  have HN := Lib.hid hn
  have HL := Lib.hid hL
  have HLN := Lib.hid hln
  have hg := h.lt
  obtain ⟨N, hN⟩ : ∃ N, nextF xs k (row, at_) live = N := ⟨_, rfl⟩
  rw [hN]
  have HNX := Lib.hid hN
  clear h hD hdis hokd hn hL hln hokl hN
  go_enter Try.func11, Try.ntmps11
  go_wp2_with fail
  have hc1 : Chg nob w ((w.alloc (.cells #[.pointer (some ⟨g, 0, none⟩)] 24)).alloc (.cells #[.slice L ln lc] 28)) := ((Chg.refl _ _).alloc _).alloc _
  obtain ⟨w1, hw1⟩ : ∃ w1, w1 = (w.alloc (.cells #[.pointer (some ⟨g, 0, none⟩)] 24)).alloc (.cells #[.slice L ln lc] 28) := ⟨_, rfl⟩
  rw [← hw1] at hc1 ⊢
  have hb1 : w1.cell? ⟨w.heap.size, 0, none⟩ = some (.pointer (some ⟨g, 0, none⟩)) := by rw [hw1]; simp [go_sem]
  have hb2 : w1.cell? ⟨w.heap.size + 1, 0, none⟩ = some (.slice L ln lc) := by rw [hw1]; simp [go_sem]
  have hsz1 : w1.heap.size = w.heap.size + 2 := by rw [hw1]; simp
  have HC1 := Lib.hid hc1
  have HB1 := Lib.hid hb1
  have HB2 := Lib.hid hb2
  have HSZ1 := Lib.hid hsz1
  have HI1 := Lib.hid (HI.out.new hc1)
  have HD1 := Lib.hid (HD.out.new hc1)
  clear hw1 hc1 hsz1
  go_step3
  go_wp2_with fail
  refine (rg_none HI1.out).mono ?_
  rintro e w1 ⟨rfl, rfl⟩
  clear hb1 hb2
  go_wp2
  go_step3
  go_wp2
  go_loopw [9, 10, 15] (fun nd is i wr =>
      (i = .int .i64 0 ∧ nd = .int .i64 0 ∧ is = .bool false ∧ wr = w1)
      ∨ (i = .int .i64 1 ∧ nd = .int .i64 0 ∧ is = .bool false ∧ Hid ((seekL live (row.drop at_) at_).2.1 = false) ∧ Hid (IsRing wr okr g row n) ∧ Hid (Chg (fun b => b = g) w1 wr))
      ∨ (i = .int .i64 2 ∧ nd = .int .i64 N.1.1 ∧ is = .bool N.1.2 ∧ Hid (RgPost w okr okd g p xs N.2.1.1 N.2.1.2 N.2.2 wr))) (fun _ _ i _ => 2 - (intOf i).toNat)
  case atStart => exact .inl ⟨rfl, rfl, rfl, rfl⟩
  case round =>
    rcases hrel with ⟨rfl, rfl, rfl, rfl⟩ | ⟨rfl, rfl, rfl, HF, HIX, HCX⟩ | ⟨rfl, rfl, rfl, HP⟩
    · go_wp2_with fail
      have hg1 := HI1.out.lt
      refine (rg_seek (lb := w.heap.size + 1) HI1.out HN.out (by omega) hat HB1.out HB2.out (Kd.C_new HL.out HC1.out) HLN.out ⟨by omega, by omega⟩ (fun e => (HOKL.out _ e).1 rfl)).mono ?_
      rintro e w2 ⟨rfl, hi2, hc2⟩
      have HI2 := Lib.hid hi2
      have HC2 := Lib.hid hc2
      cases hb : (seekL live (row.drop at_) at_).2.1 with
      | true =>
        have HN2 : Hid (N = (((seekL live (row.drop at_) at_).1, true), (row, (seekL live (row.drop at_) at_).2.2), k)) := by
          show _ = _
          rw [← HNX.out, nextF, if_pos hb]
        have HP : Hid (RgPost w okr okd g p xs N.2.1.1 N.2.1.2 N.2.2 w2) := by
          show RgPost _ _ _ _ _ _ _ _ _ _
          rw [HN2.out]
          exact rgPost_of HI2.out (fun b hb => .inl hb) HI.out.1 hg (HD1.out.chg HC2.out (fun b hb e => (HDIS.out b hb).2 e)) ((HC1.out.ofNew).trans HC2.out (fun b hb => .inl (.inl hb)))
        clear hi2 hc2 hb
        go_wp2
        rw [Exit.noGoto_ret]
        go_ret2
        refine ⟨?_, HP.out⟩
        rw [HN2.out]
        rfl
      | false =>
        obtain ⟨hz, hat2⟩ := seekL_no hb
        rw [hat2, List.length_drop, HN.out] at hi2
        rw [hz]
        have HI2 : Hid (IsRing w2 okr g row n) := by have := hi2; rwa [show at_ + (n - at_) = n from by omega] at this
        have HF := Lib.hid hb
        clear hi2 hc2 hb hz hat2
        go_wp2
        exact ⟨.inr (.inl ⟨rfl, rfl, rfl, HF, HI2, HC2⟩), by simp [intOf]⟩
    · have hg1 := HI1.out.lt
      have hcx := HCX.out.size
      have hg2 := HIX.out.lt
      have hs1 := HSZ1.out
      have HDX := Lib.hid (HD1.out.chg HCX.out (fun b hb e => (HDIS.out b hb).2 e))
      have HBX1 := Lib.hid (HCX.out.cell HB1.out (fun e => by have e : w.heap.size = g := e; omega))
      have HBX2 := Lib.hid (HCX.out.cell HB2.out (fun e => by have e : w.heap.size + 1 = g := e; omega))
      have hbx := HBX1.out
      go_wp2_with fail
      clear hbx
      refine (rg_shuffle HIX.out HDX.out HDIS.out HN.out hn8).mono ?_
      rintro e w2 ⟨rfl, hpost⟩
      obtain ⟨hi2, hd2, hc2⟩ := hpost
      obtain ⟨o, ho⟩ : ∃ o, (drawOrd xs k n).1 = o := ⟨_, rfl⟩
      obtain ⟨kv, hkv⟩ : ∃ kv, (drawOrd xs k n).2 = kv := ⟨_, rfl⟩
      have hol : (pickL row o).length = n := by rw [pickL_length, ← ho, drawOrd_length]; unfold ordM; omega
      have HN2 : Hid (N = (((seekL live (pickL row o) 0).1, (seekL live (pickL row o) 0).2.1), (pickL row o, (seekL live (pickL row o) 0).2.2), kv)) := by
        show _ = _
        rw [← HNX.out, nextF, if_neg (by rw [HF.out]; decide)]
        dsimp only
        rw [HN.out, ho, hkv]
      rw [ho] at hi2
      rw [hkv] at hd2
      have HI2 := Lib.hid hi2
      have HD2 := Lib.hid hd2
      have HC2 := Lib.hid hc2
      have HOL := Lib.hid hol
      have HB21 := Lib.hid (hc2.cell HBX1.out (fun e => by rcases e with e | e; (have e : w.heap.size = g := e; omega); (have := HOKD.out w.heap.size e; omega)))
      have HB22 := Lib.hid (hc2.cell HBX2.out (fun e => by rcases e with e | e; (have e : w.heap.size + 1 = g := e; omega); (have := HOKD.out (w.heap.size + 1) e; omega)))
      have HLX := Lib.hid (Kd.C_chg (Kd.C_chg (Kd.C_new HL.out HC1.out) HCX.out (fun b hb e => (HOKL.out b hb).1 e)) hc2 (fun b hb e => by rcases e with e | e; exact (HOKL.out b hb).1 e; exact (HOKL.out b hb).2 e))
      clear hi2 hd2 hc2 ho hkv hol
      go_wp2_with fail
      refine (rg_seek (lb := w.heap.size + 1) HI2.out HOL.out (by omega) (Nat.zero_le _) HB21.out HB22.out HLX.out HLN.out ⟨by omega, by omega⟩ (fun e => (HOKL.out _ e).1 rfl)).mono ?_
      rintro e w3 ⟨rfl, hi3, hc3⟩
      rw [List.drop_zero] at hi3 ⊢
      have HP : Hid (RgPost w okr okd g p xs N.2.1.1 N.2.1.2 N.2.2 w3) := by
        show RgPost _ _ _ _ _ _ _ _ _ _
        rw [HN2.out]
        refine rgPost_of hi3 (fun b hb => ?_) HI.out.1 hg (HD2.out.chg hc3 (fun b hb e => (HDIS.out b hb).2 e)) ((((HC1.out.ofNew).trans HCX.out (fun b hb => .inl (.inl hb))).trans HC2.out (fun b hb => .inl hb)).trans hc3 (fun b hb => .inl (.inl hb)))
        rcases hb.1 with h1 | h1
        · exact .inl h1
        · exact .inr (by omega)
      have HN3 : Hid (N.1 = ((seekL live (pickL row o) 0).1, (seekL live (pickL row o) 0).2.1)) := by show _ = _; rw [HN2.out]
      clear hi3 hc3 HN2
      generalize (seekL live (pickL row o) 0).1 = sn at HN3 ⊢
      generalize (seekL live (pickL row o) 0).2.1 = sb at HN3 ⊢
      cases sb with
      | true =>
        go_wp2
        rw [Exit.noGoto_ret]
        go_ret2
        refine ⟨?_, HP.out⟩
        rw [HN3.out]
        rfl
      | false =>
        go_wp2
        exact ⟨.inr (.inr ⟨rfl, by rw [HN3.out], by rw [HN3.out], HP⟩), by simp [intOf]⟩
    · go_wp2
      rw [Exit.noGoto_ret]
      go_ret2
      exact ⟨rfl, HP.out⟩
end Go.Proofs.Ytoiikjojknnobaa
