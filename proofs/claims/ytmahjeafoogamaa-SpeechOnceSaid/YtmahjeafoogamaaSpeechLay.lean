/- Messages: what a call of lay lays. -/
import Derived.Test.YtmahjeafoogamaaSpeechRefRight
namespace Go.Proofs.Ytmahjeafoogamaa
open Go.RowKit
set_option linter.unusedVariables false
set_option linter.unusedSimpArgs false
def updB (u : Upd) : List UInt8 := numB u.1.toNat ++ (numB u.2.1.toNat ++ numB u.2.2.toNat)
def updsB (l : List Upd) : List UInt8 := l.flatMap updB
theorem updsB_snoc (l : List Upd) (u : Upd) : updsB (l ++ [u]) = updsB l ++ updB u := by simp [updsB]
/-- A field of a message, as bytes. -/
def fieldB (m : Ms) (f : Int) : List UInt8 :=
  if f = 0 then numB m.2.1.toNat else if f = 1 then numB m.2.2.1.toNat else if f = 2 then numB m.2.2.2.1.toNat else if f = 3 then numB (if m.2.2.2.2.1 then 1 else 0) else numB m.2.2.2.2.2.length ++ updsB m.2.2.2.2.2
/-- Numbers within their bounds. -/
def inM (m : Ms) : Prop := (0 ≤ m.2.1 ∧ m.2.1 < 4294967296) ∧ (0 ≤ m.2.2.1 ∧ m.2.2.1 < 8) ∧ (0 ≤ m.2.2.2.1 ∧ m.2.2.2.1 < 8) ∧ m.2.2.2.2.2.length ≤ 16 ∧ ∀ u ∈ m.2.2.2.2.2, (0 ≤ u.1 ∧ u.1 < 8) ∧ (0 ≤ u.2.1 ∧ u.2.1 < 4294967296) ∧ (0 ≤ u.2.2 ∧ u.2.2 ≤ 3)
theorem u64_same {n : Int} (h0 : 0 ≤ n) (h1 : n < 4294967296) : IntKind.u64.wrap n = n := Int.emod_eq_of_lt h0 (by show n < 18446744073709551616; omega)
set_option maxRecDepth 100000 in
set_option maxHeartbeats 1000000 in
theorem s_lay_num {w : World} {m : Ms} {ok okb : Nat → Prop} {B A : Option Addr} {n d mb cb : Nat} {bs : List UInt8} {f : Int} (hb : updK.C w ok B m.2.2.2.2.2) (hA : Kd.byte.C w okb A bs) (hm : bs.length = mb) (hmb : mb ≤ 1000000) (hin : inM m) (hf : f = 0 ∨ f = 1 ∨ f = 2 ∨ f = 3) :
    Calls Try.prog 24 #[.slice A mb cb, .agg (msV m B n d), .int .i64 f] w (Laid w (bs ++ fieldB m f)) := by
  have hst := ms_start (n := n) (d := d) hb
  have hA1 := Kd.C_new hA ((Chg.refl nob w).alloc (.cells (msV m B n d) 25))
  have hcm := (Chg.refl nob w).alloc (.cells (msV m B n d) 25)
  have hrow := row6c hst.row
  obtain ⟨mv, hmv⟩ : ∃ mv, msV m B n d = mv := ⟨_, rfl⟩
  rw [hmv] at hst hrow hA1 hcm ⊢
  clear hmv
  obtain ⟨kd, sq, fr, tg, rp, us⟩ := m
  obtain ⟨⟨s0, s1⟩, ⟨f0, f1⟩, ⟨t0, t1⟩, _, _⟩ := hin
  dsimp only at s0 s1 f0 f1 t0 t1
  have HM := Lib.hid hm
  have HA := Lib.hid hA1
  have HC := Lib.hid hcm
  obtain ⟨q0, q1, q2, q3, q4, q5⟩ := hrow
  have w0 := u64_same s0 s1
  have w1 := u64_same f0 (by omega)
  have w2 := u64_same t0 (by omega)
  have up : ∀ (l : List UInt8) (e : Ending) (w' : World), Laid (w.alloc (.cells mv 25)) l e w' → Laid w l e w' := fun l e w' h => by
    obtain ⟨v, rfl, hR, hc⟩ := h
    exact Laid.of hR HC.out.size (HC.out.thenNew hc)
  have UP := Lib.hid up
  clear hst hb hA hm hA1 hcm up
  rcases hf with rfl | rfl | rfl | rfl
  all_goals
    go_enter Try.func24, Try.ntmps24
    go_wp2_with fail
  · refine (field_num HA.out HM.out (by omega) _ s0 (by omega)).mono ?_
    intro e w3 hL
    have HE := Lib.hid (UP.out _ _ _ hL)
    obtain ⟨v, rfl, _⟩ := hL
    go_wp2
    go_ret
    exact HE.out
  · refine (field_num HA.out HM.out (by omega) _ f0 (by omega)).mono ?_
    intro e w3 hL
    have HE := Lib.hid (UP.out _ _ _ hL)
    obtain ⟨v, rfl, _⟩ := hL
    go_wp2
    go_ret
    exact HE.out
  · refine (field_num HA.out HM.out (by omega) _ t0 (by omega)).mono ?_
    intro e w3 hL
    have HE := Lib.hid (UP.out _ _ _ hL)
    obtain ⟨v, rfl, _⟩ := hL
    go_wp2
    go_ret
    exact HE.out
  · refine (field_flag HA.out HM.out (by omega) rp).mono ?_
    intro e w3 hL
    have HE := Lib.hid (UP.out _ _ _ hL)
    obtain ⟨v, rfl, _⟩ := hL
    go_wp2
    go_ret
    exact HE.out
end Go.Proofs.Ytmahjeafoogamaa
