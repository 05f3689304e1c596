/- Frames: Each as an iterator. -/
import Derived.Test.YtmahjeafoogamaaFrameEach
import Derived.Outline
namespace Go.Proofs.Ytmahjeafoogamaa
open Go.RowKit
set_option linter.unusedVariables false
set_option linter.unusedSimpArgs false
/-- The bytes that the iterator keeps. -/
def keptB (bx : Nat) (ok : Nat → Prop) (A : Option Addr) (m c : Nat) (bs : List UInt8) (W : World) : Prop := W.cell? ⟨bx, 0, none⟩ = some (.slice A m c) ∧ Kd.byte.C W ok A bs
set_option maxHeartbeats 2000000 in
theorem f_iter {bx : Nat} {ok : Nat → Prop} {A : Option Addr} {m c : Nat} {bs : List UInt8} (hm : bs.length = m) (hmc : m ≤ c) (hsm : m ≤ 9223372036854775807) :
    Iter Try.prog 67 #[.pointer (some ⟨bx, 0, none⟩)] (keptB bx ok A m c bs) (frM bs) (allR bs).1.length := by
  intro l J Jx W hl hJ hJx hK hY h0
  have hc := (hK 0 W h0).2.1
  have HF := Lib.hid (f_walkY (W := W) (A := A) (ok := ok) hm hmc hsm hJ hJx (fun k X h => (hK k X h).2.2) hY h0)
  show Calls Try.prog 67 #[.func (.yield l) #[] #[], .pointer (some ⟨bx, 0, none⟩)] W _
  clear hl hJ hJx hK hY h0
  go_enter Try.func67, Try.ntmps67
  go_wp2_with fail
  refine HF.out.mono ?_
  rintro e B ⟨⟨v, rfl⟩, hj⟩
  have HJ := Lib.hid hj
  clear hj HF
  go_wp2
  go_end0
  exact ⟨⟨_, rfl⟩, HJ.out⟩
set_option maxHeartbeats 2000000 in
theorem f_each {w : World} {ok : Nat → Prop} {A : Option Addr} {m c : Nat} {bs : List UInt8} (hb : Kd.byte.C w ok A bs) (hm : bs.length = m) (hmc : m ≤ c) (hsm : m ≤ 1000000000) :
    Calls Try.prog 57 #[.slice A m c] w fun e w' => ∃ bx A2 c2, e = .returned (.func (.func 67) #[] #[.pointer (some ⟨bx, 0, none⟩)]) ∧ Chg nob w w' ∧ m ≤ c2 ∧ w.heap.size ≤ bx ∧ bx < w'.heap.size ∧ keptB bx (fun b => w.heap.size ≤ b ∧ b < w'.heap.size) A2 m c2 bs w' := by
  have HM := Lib.hid hm
  have HC0 := Lib.hid ((Chg.refl nob w).alloc (.cells #[] 5))
  have HE := Lib.hid (empty_own w w.heap.size 5 Kd.byte (Nat.le_refl _))
  have HB := Lib.hid (Kd.C_new hb HC0.out)
  clear hb hm
  go_enter Try.func57, Try.ntmps57
  go_wp2_with (at_builtin; refine wp_appB rfl _ _ rfl w.heap.size _ _ (.slice (some ⟨w.heap.size, 0, none⟩) 0 0) [] bs A m c rfl rfl HM.out HE.out HB.out HC0.out.size m (by simp) (by omega) ?_)
  intro A' c' w' hR hC hO
  have hc : Chg nob w w' := (HC0.out.ofNew (S := fun k => some k = (Value.slice (some ⟨w.heap.size, 0, none⟩) 0 0).ownBlock)).trans hC (fun i hi => .inl hi) |>.mono (fun i hi => .inr (by cases hi; exact Nat.le_refl _))
  obtain ⟨k1, k2, k3⟩ := Kd.R_read hR
  have HR := Lib.hid k1
  have HOW : Hid (∀ k, some k = (Value.slice A' m c').ownBlock → w.heap.size ≤ k ∧ k < w'.heap.size) := fun k hk => by
    have := Kd.R_own hR k hk.symm
    exact ⟨this.1, this.2⟩
  have HMC : Hid (m ≤ c') := k3
  have HC := Lib.hid hc
  have q0 : (w'.alloc (.cells #[.slice A' m c'] 26)).cell? ⟨w'.heap.size, 0, none⟩ = some (.slice A' m c') := by rw [cell_of_row _ w'.heap.size 0 _ _ _ (heap_alloc_new w' _)]; rfl
  have HQ := Lib.hid q0
  have HA := Lib.hid ((Chg.refl nob w').alloc (.cells #[.slice A' m c'] 26))
  clear hR hC hO hc k1 k2 k3
  go_wp2
  go_ret
  refine ⟨w'.heap.size, A', c', rfl, HC.out.thenNew HA.out, HMC.out, HC.out.size, by simp, HQ.out, ?_⟩
  exact Kd.C_mono (Kd.C_new HR.out HA.out) (fun b hb => ⟨(HOW.out b hb).1, Nat.lt_of_lt_of_le (HOW.out b hb).2 HA.out.size⟩)
end Go.Proofs.Ytmahjeafoogamaa
