import Derived.Test.YtcibdcahcpcmaaaFold24
import Derived.Laws.StructEq
import Derived.Test.YtcibdcahcpcmaaaFold35
import Derived.Deep.RegionHeld3
import Derived.Deep.DrawnRows
/- Bytes and their sum: what a call of Take does. -/
namespace Go.Proofs.Ytcibdcahcpcmaaa
open Go.RowKit
set_option maxRecDepth 100000
set_option linter.unusedVariables false
set_option linter.unusedSimpArgs false
theorem eq8 (a0 a1 a2 a3 a4 a5 a6 a7 b0 b1 b2 b3 b4 b5 b6 b7 : UInt8) (w : World) :
    (Op.equalIn 10000 113 (.agg #[.int .u8 a0.toNat, .int .u8 a1.toNat, .int .u8 a2.toNat, .int .u8 a3.toNat, .int .u8 a4.toNat, .int .u8 a5.toNat, .int .u8 a6.toNat, .int .u8 a7.toNat]) (.agg #[.int .u8 b0.toNat, .int .u8 b1.toNat, .int .u8 b2.toNat, .int .u8 b3.toNat, .int .u8 b4.toNat, .int .u8 b5.toNat, .int .u8 b6.toNat, .int .u8 b7.toNat])).run Try.prog w = .ok (decide ([a0, a1, a2, a3, a4, a5, a6, a7] = [b0, b1, b2, b3, b4, b5, b6, b7])) w := by
  have u3 := Try.underlying5
  have a3' := Try.isAgg5
  have z3 := Try.sizeOf5
  rw [show (10000 : Nat) = 9999 + 1 from rfl, Op.equalIn]
  simp only [Sem.run_bind, run_underlying Try.underlying113, Result.andThen_ok]
  simp only [Std.Legacy.Range.forIn_eq_forIn_range', Std.Legacy.Range.size, Nat.sub_zero, Nat.add_sub_cancel, Nat.div_one, List.range'_succ, List.range'_zero, List.forIn_cons, List.forIn_nil]
  go_simp
  have e : ∀ x y : UInt8, ((x.toNat : Int) = (y.toNat : Int)) = (x = y) := fun x y => propext ⟨fun h => UInt8.toNat_inj.1 (by omega), fun h => by rw [h]⟩
  simp only [e]
  by_cases h0 : a0 = b0
  · by_cases h1 : a1 = b1
    · by_cases h2 : a2 = b2
      · by_cases h3 : a3 = b3
        · by_cases h4 : a4 = b4
          · by_cases h5 : a5 = b5
            · by_cases h6 : a6 = b6
              · by_cases h7 : a7 = b7 <;> simp [h0, h1, h2, h3, h4, h5, h6, h7]
              · simp [h0, h1, h2, h3, h4, h5, h6]
            · simp [h0, h1, h2, h3, h4, h5]
          · simp [h0, h1, h2, h3, h4]
        · simp [h0, h1, h2, h3]
      · simp [h0, h1, h2]
    · simp [h0, h1]
  · simp [h0]
theorem list8 {l : List UInt8} (h : l.length = 8) : ∃ a0 a1 a2 a3 a4 a5 a6 a7, l = [a0, a1, a2, a3, a4, a5, a6, a7] := by
  match l, h with
  | [a0, a1, a2, a3, a4, a5, a6, a7], _ => exact ⟨_, _, _, _, _, _, _, _, rfl⟩
/-- The key in block n, the bytes, the last eight of them. -/
structure TakeSt (w0 : World) (n k0 k1 ab ao p : Nat) (bs : List UInt8) (a0 a1 a2 a3 a4 a5 a6 a7 : UInt8) (w : World) : Prop where
  key : KeySt w0 n k0 k1 (some ⟨ab, ao, none⟩) bs w
  c : (w.cell? ⟨ab, ao + p, none⟩ = some (.int .u8 a0.toNat) ∧ w.cell? ⟨ab, ao + p + 1, none⟩ = some (.int .u8 a1.toNat) ∧ w.cell? ⟨ab, ao + p + 2, none⟩ = some (.int .u8 a2.toNat) ∧ w.cell? ⟨ab, ao + p + 3, none⟩ = some (.int .u8 a3.toNat) ∧ w.cell? ⟨ab, ao + p + 4, none⟩ = some (.int .u8 a4.toNat) ∧ w.cell? ⟨ab, ao + p + 5, none⟩ = some (.int .u8 a5.toNat) ∧ w.cell? ⟨ab, ao + p + 6, none⟩ = some (.int .u8 a6.toNat) ∧ w.cell? ⟨ab, ao + p + 7, none⟩ = some (.int .u8 a7.toNat))
section
variable {w0 w w' : World} {n k0 k1 ab ao p : Nat} {bs : List UInt8} {a0 a1 a2 a3 a4 a5 a6 a7 : UInt8}
theorem TakeSt.new (h : TakeSt w0 n k0 k1 ab ao p bs a0 a1 a2 a3 a4 a5 a6 a7 w) (hc : Chg nob w w') : TakeSt w0 n k0 k1 ab ao p bs a0 a1 a2 a3 a4 a5 a6 a7 w' := by
  obtain ⟨h1, c0, c1, c2, c3, c4, c5, c6, c7⟩ := h
  exact ⟨h1.new hc, hc.cell c0 (not_nob _), hc.cell c1 (not_nob _), hc.cell c2 (not_nob _), hc.cell c3 (not_nob _), hc.cell c4 (not_nob _), hc.cell c5 (not_nob _), hc.cell c6 (not_nob _), hc.cell c7 (not_nob _)⟩
theorem TakeSt.of (h : KeySt w0 n k0 k1 (some ⟨ab, ao, none⟩) bs w) (hd : bs.drop p = [a0, a1, a2, a3, a4, a5, a6, a7]) : TakeSt w0 n k0 k1 ab ao p bs a0 a1 a2 a3 a4 a5 a6 a7 w := by
  have at_ : ∀ j x, (bs.drop p)[j]? = some x → w.cell? ⟨ab, ao + p + j, none⟩ = some (.int .u8 (x.toNat : Int)) := by
    intro j x hj
    rw [List.getElem?_drop] at hj
    obtain ⟨ad, e, _, ha⟩ := at_scalar h.b hj
    cases e
    rw [add_at] at ha
    rw [Nat.add_assoc]
    exact ha
  rw [hd] at at_
  exact ⟨h, at_ 0 _ rfl, at_ 1 _ rfl, at_ 2 _ rfl, at_ 3 _ rfl, at_ 4 _ rfl, at_ 5 _ rfl, at_ 6 _ rfl, at_ 7 _ rfl⟩
theorem take_sum (h : TakeSt w0 n k0 k1 ab ao p bs a0 a1 a2 a3 a4 a5 a6 a7 w) (h0 : k0 < 18446744073709551616) (h1 : k1 < 18446744073709551616) {c S : Nat} (hm : Hid ((bs.take p).length = p)) (hp : Hid (p ≤ bs.length)) (hmc : p ≤ c) (hS : Hid (sumN k0 k1 (bs.take p) = S)) :
    Calls Try.prog 62 #[.agg #[.int .u64 k0, .int .u64 k1], .slice (some ⟨ab, ao, none⟩) p c] w fun e w' => e = .returned (.int .u64 S) ∧ TakeSt w0 n k0 k1 ab ao p bs a0 a1 a2 a3 a4 a5 a6 a7 w' :=
  (s_sum h0 h1 (Kd.C_take h.key.b p hp.out) h.key.lt hm.out hmc).mono fun e w' ⟨he, hc⟩ => ⟨by rw [he, hS.out], h.new hc⟩
theorem take_laid (h : TakeSt w0 n k0 k1 ab ao p bs a0 a1 a2 a3 a4 a5 a6 a7 w) {S : Nat} (hS : S < 18446744073709551616) {b0 b1 b2 b3 b4 b5 b6 b7 : UInt8} (hb : Hid (beB S = [b0, b1, b2, b3, b4, b5, b6, b7])) :
    Calls Try.prog 61 #[.int .u64 S] w fun e w' => e = .returned (.agg #[.int .u8 b0.toNat, .int .u8 b1.toNat, .int .u8 b2.toNat, .int .u8 b3.toNat, .int .u8 b4.toNat, .int .u8 b5.toNat, .int .u8 b6.toNat, .int .u8 b7.toNat]) ∧ TakeSt w0 n k0 k1 ab ao p bs a0 a1 a2 a3 a4 a5 a6 a7 w' :=
  (s_laid S hS).mono fun e w' ⟨he, hc⟩ => ⟨by rw [he, hb.out]; rfl, h.new hc⟩
end
set_option maxRecDepth 100000 in
set_option maxHeartbeats 2000000 in
theorem s_takes {w : World} {k0 k1 : Nat} (h0 : k0 < 18446744073709551616) (h1 : k1 < 18446744073709551616) {A : Option Addr} {p c : Nat} {bs : List UInt8} (hb : Kd.byte.C w (fun b => b < w.heap.size) A bs) (hm : bs.length = p + 8) (hmc : p + 8 ≤ c) (hl : p + 8 ≤ 140737488351232) :
    Calls Try.prog 30 #[.agg #[.int .u64 k0, .int .u64 k1], .slice A (p + 8) c] w fun e w' => Chg nob w w' ∧
      ((bs.drop p = beB (sumN k0 k1 (bs.take p)) ∧ ∃ A' c', e = .returned (.tuple #[.slice A' p c', .bool true]) ∧ Kd.byte.C w' (fun b => w.heap.size ≤ b) A' (bs.take p)) ∨
       (¬ bs.drop p = beB (sumN k0 k1 (bs.take p)) ∧ e = .returned (.tuple #[.slice none 0 0, .bool false]))) := by
  obtain ⟨a0, a1, a2, a3, a4, a5, a6, a7, hd⟩ := list8 (l := bs.drop p) (by rw [List.length_drop, hm]; omega)
  obtain ⟨S, hS⟩ : ∃ S, sumN k0 k1 (bs.take p) = S := ⟨_, rfl⟩
  have hSl : S < 18446744073709551616 := by rw [← hS]; exact sumN_lt h0 h1 _
  obtain ⟨b0, b1, b2, b3, b4, b5, b6, b7, hbe⟩ : ∃ b0 b1 b2 b3 b4 b5 b6 b7, beB S = [b0, b1, b2, b3, b4, b5, b6, b7] := ⟨_, _, _, _, _, _, _, _, rfl⟩
  obtain ⟨x0, hx0⟩ : ∃ x, bs[0]? = some x := ⟨_, List.getElem?_eq_getElem (by omega)⟩
  obtain ⟨ab, ao, _, rfl, _, _, _⟩ := Kd.C_at' hb hx0
  have hst := key_start 70 k0 k1 hb
  have hst' := TakeSt.of (hst.new ((Chg.refl _ _).drew)) hd
  obtain ⟨q, hq⟩ : ∃ q : Bool, decide ([a0, a1, a2, a3, a4, a5, a6, a7] = [b0, b1, b2, b3, b4, b5, b6, b7]) = q := ⟨_, rfl⟩
  have e8 : ∀ wx : World, _ := fun wx => eq8 a0 a1 a2 a3 a4 a5 a6 a7 b0 b1 b2 b3 b4 b5 b6 b7 wx
  rw [hq] at e8
  have HTL : Hid ((bs.take p).length = p) := by show _ = _; rw [List.length_take, hm]; omega
  have HPL : Hid (p ≤ bs.length) := by show _ ≤ _; omega
  have HS := Lib.hid hS
  have HBE := Lib.hid hbe
  have HQ : Hid (q = true ↔ bs.drop p = beB (sumN k0 k1 (bs.take p))) := by show _ ↔ _; rw [← hq, decide_eq_true_iff, hd, hS, hbe]
  have hcp : ¬ c = p := by omega
  have hpc : p ≤ c := by omega
  have b1 : decide ((p : Int) < 0) = false := by simp
  have b2 : (0 : Int) ≤ (p : Int) := by omega
  have b3 : (p : Int) ≤ (p : Int) + 8 := by omega
  have har : ∀ wx : World, (Instr.arrayAt 113 (.slice (some ⟨ab, ao + p, none⟩) 8 (c - p))).run Try.prog wx = .ok (.pointer (some ⟨ab, ao + p, none⟩)) wx := by
    intro wx
    simp [Instr.arrayAt]
  clear hq hS hbe hd hm hb hx0
  go_enter Try.func30, Try.ntmps30
  go_wp2
  go_region_held3 (fun w' => (w'.cell? ⟨w.heap.size, 0, none⟩ = some (.int .u64 k0) ∧ w'.cell? ⟨w.heap.size, 1, none⟩ = some (.int .u64 k1)) ∧ (w'.cell? ⟨ab, ao + p, none⟩ = some (.int .u8 a0.toNat) ∧ w'.cell? ⟨ab, ao + p + 1, none⟩ = some (.int .u8 a1.toNat) ∧ w'.cell? ⟨ab, ao + p + 2, none⟩ = some (.int .u8 a2.toNat) ∧ w'.cell? ⟨ab, ao + p + 3, none⟩ = some (.int .u8 a3.toNat) ∧ w'.cell? ⟨ab, ao + p + 4, none⟩ = some (.int .u8 a4.toNat) ∧ w'.cell? ⟨ab, ao + p + 5, none⟩ = some (.int .u8 a5.toNat) ∧ w'.cell? ⟨ab, ao + p + 6, none⟩ = some (.int .u8 a6.toNat) ∧ w'.cell? ⟨ab, ao + p + 7, none⟩ = some (.int .u8 a7.toNat))) (exact (⟨(TakeSt.key (by assumption)).c, TakeSt.c (by assumption)⟩))
    (first | (go_at_call 62; refine (take_sum (by assumption) h0 h1 HTL HPL hpc HS).mono ?_; rintro e w' ⟨rfl, hq⟩) | (go_at_call 61; refine (take_laid (by assumption) hSl HBE).mono ?_; rintro e w' ⟨rfl, hq⟩))
  all_goals
    have hF := hq
    have HFC := Lib.hid hF.key.chg
    have HFB := Lib.hid (Kd.C_take hF.key.b p HPL.out)
    clear hst hst' hq hF
    cases q with
    | false =>
      have hne : ¬ bs.drop p = beB (sumN k0 k1 (bs.take p)) := fun h => by have := HQ.out.2 h; cases this
      go_wp2
      go_ret2
      exact ⟨HFC.out, .inr ⟨hne, rfl⟩⟩
    | true =>
      have heq := HQ.out.1 rfl
      have HE : Hid (Kd.byte.R 5 (w'.alloc (.cells #[] 5)) w'.heap.size (fun k => k = w'.heap.size) (.slice (some ⟨w'.heap.size, 0, none⟩) 0 0) ([] : List UInt8)) := empty_own w' w'.heap.size 5 Kd.byte (Nat.le_refl _)
      have hc0 : Chg nob w' (w'.alloc (.cells #[] 5)) := (Chg.refl _ _).alloc _
      have HC0 := Lib.hid hc0
      have hsz := HFC.out.size
      have HEQ := Lib.hid heq
      clear hc0 heq e8
      go_wp2_with (at_builtin; refine wp_appB rfl _ _ rfl w'.heap.size _ _ (.slice (some ⟨w'.heap.size, 0, none⟩) 0 0) ([] : List UInt8) (bs.take p) (some ⟨ab, ao, none⟩) p c rfl rfl HTL.out HE.out (Kd.C_new HFB.out HC0.out) HC0.out.size p (by simp) (by omega) ?_)
      intro A1 c1 w1 hR hC _
      have hn1 : Chg nob w' w1 := HC0.out.trans hC (fun b hb => .inr (by
        have : some b = some w'.heap.size := hb
        cases this
        exact Nat.le_refl _))
      have HN1 := Lib.hid (HFC.out.thenNew hn1)
      have HR := Lib.hid (Kd.C_mono (Kd.R_read (byte_ge hR)).1 (fun b hb => Nat.le_trans hsz hb))
      clear hR hC hn1 HE
      go_wp2
      go_ret2
      exact ⟨HN1.out, .inl ⟨HEQ.out, A1, c1, rfl, HR.out⟩⟩
end Go.Proofs.Ytcibdcahcpcmaaa
