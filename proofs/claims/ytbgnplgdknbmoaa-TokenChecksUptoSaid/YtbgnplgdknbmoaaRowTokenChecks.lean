/- The law TokenChecks, of inputs that the given Rows call small: whatever the input, it returns true and leaves the input as it was. Condition: the arguments' bulk is at most 1048576. -/
import Derived.Test.YtbgnplgdknbmoaaTokenRow
import Derived.Test.YtbgnplgdknbmoaaOpen
import Derived.SizedLaws
namespace Go.Proofs.Ytbgnplgdknbmoaa.tokenChecks
open Go.ChangeShapes Go.WideShapes Go.ChangeAt Go.RowKit
open Go.ChangeMaps (open_string shut_string)
set_option linter.unusedVariables false
theorem own : ownKnob Try.prog.godebug = none := by kernel_rfl
theorem laidOut : laidOutB Try.prog = true := by kernel_rfl
set_option maxRecDepth 100000 in
theorem lifted (os : Os) (started : os.Started) (H : Type) (enc : TypeId × Value → H) (F : Stop.Interp) :
    ReturnsInHanded {} Try.checked os 4 .any ((Rows.OpenSpec.upto Rows.tokenChecksSpec).pre6 enc Try.prog Try.f4 Rows.tokenChecksUptoRow.domain false) (((Rows.OpenSpec.upto Rows.tokenChecksSpec).at F).post enc Try.prog Try.f4 false true false false) := by
  refine returnsInHanded_of_cond (C := Try.checked) (s := (Rows.OpenSpec.upto Rows.tokenChecksSpec)) (k := Rows.uptoSmall) rfl own started (by kernel_rfl) Try.func4
    (OpenSpec.witness (enc := enc) (C := Try.checked) (s := (Rows.OpenSpec.upto Rows.tokenChecksSpec)) (k := Rows.uptoSmall) rfl false ⟨#[], #[.agg #[.int .u64 0, .int .u64 0], .slice none 0 0], []⟩ 8 (by kernel_rfl) (by kernel_rfl) (by kernel_rfl)
      (x := ([.agg [.lit (.int .u64 0), .lit (.int .u64 0)], .nil], [], [])) (by kernel_rfl) rfl (by kernel_rfl)) ?_
  intro W base args ds gs before hval0 hW _ hk _
  have hval : ∀ (j : Nat) t v, Try.f4.params[j]? = some t → args[j]? = some v → Value.okWide Try.prog W .any base t v := hval0
  have hW' := hW
  obtain ⟨p, q, hA0, hV, rfl, hfz, hnd⟩ := hW
  have hA : DataW.TrodAll enc Try.prog W 0 (fun _ => true) true Try.f4.params.toList args.toList ds p := hA0
  rw [Try.params4] at hA hval
  obtain ⟨v0, vs0, d0, ds0, p0, q0, hargs, rfl, rfl, h0, r0⟩ := trodAll_cons hA
  obtain ⟨v1, vs1, d1, ds1, p1, q1, rfl, rfl, rfl, h1, r1⟩ := trodAll_cons r0
  obtain ⟨rfl, rfl, rfl⟩ := trodAll_nil r1
  obtain rfl : args = #[v0, v1] := by cases args; simp_all
  obtain ⟨rfl, rfl⟩ := trodVars_none hV
  have hsum : Rows.uptoBulkAll [d0, d1] ≤ 1048576 := of_decide_eq_true hk
  have B0 : Rows.uptoBulk d0 ≤ 1048576 := by simp only [Rows.uptoBulkAll] at hsum; omega
  have B1 : Rows.uptoBulk d1 ≤ 1048576 := by simp only [Rows.uptoBulkAll] at hsum; omega
  have k0 := h0
  have lt0 : ∀ x ∈ p0, x.block < W.heap.size := by obtain ⟨m, hm⟩ := k0; exact DataW.trod_lt m _ _ _ hm
  obtain ⟨c0, rfl, hz0⟩ := okWide_array Try.underlying23 (hval 0 23 v0 rfl rfl)
  obtain ⟨m0, hm0⟩ := k0
  obtain ⟨x0, K0, b0⟩ := (opens_ints2 Try.underlying23 (by kernel_rfl) Try.underlying22 (by kernel_rfl)).2 enc W m0 _ _ hm0
  have k0 : DataW.Trod enc Try.prog W 0 (fun _ => true) true 23 _ d0 p0 := ⟨m0, hm0⟩
  have k1 := h1
  have lt1 : ∀ x ∈ p1, x.block < W.heap.size := by obtain ⟨m, hm⟩ := k1; exact DataW.trod_lt m _ _ _ hm
  obtain ⟨A1, n1, c1, rfl⟩ := okWide_slice Try.underlying27 (hval 1 27 v1 rfl rfl)
  obtain ⟨m1, hm1⟩ := k1
  obtain ⟨x1, ⟨A1', c1', e1, l1, C1⟩, b1⟩ := (opens_slice Try.underlying27 (by kernel_rfl) (opens_byte Try.underlying5 (by kernel_rfl))).2 enc W m1 _ _ hm1
  have k1 : DataW.Trod enc Try.prog W 0 (fun _ => true) true 27 _ d1 p1 := ⟨m1, hm1⟩
  obtain ⟨rfl, rfl, rfl⟩ : A1' = A1 ∧ x1.length = n1 ∧ c1' = c1 := by simp [Value.cells] at e1; exact ⟨e1.1.symm, e1.2.1.symm, e1.2.2.symm⟩
  clear hA0 hval0
  refine (tokenChecks_row K0 C1 l1 (Nat.le_trans b1 B1)).mono fun e W' ⟨he, chg⟩ => ?_
  have bel := Chg.below chg
  subst he
  exact ⟨_, rfl, _, _, _, [], _, [], hW', trodAll_mk1 (shut_bool Try.underlying4 _), (trodAll_cons_mk (Below.trod laidOut (by kernel_rfl) (of_decide_eq_true (by kernel_rfl)) k0 bel lt0) (trodAll_cons_mk (Below.trod laidOut (by kernel_rfl) (of_decide_eq_true (by kernel_rfl)) k1 bel lt1) trodAll_mk0)), rfl, bel.frame _, fun h => by cases h⟩
theorem over : Rows.tokenChecksUptoRow.holds Try.pinned (Rows.OpenSpec.upto Rows.tokenChecksSpec) :=
  OpenClaim.holds_of_cond 4 Try.f4 rfl rfl rfl rfl rfl rfl rfl ⟨rfl, rfl, rfl, rfl, rfl⟩ rfl rfl rfl rfl rfl (by kernel_rfl) Try.func4 (by kernel_rfl)
    (of_decide_eq_true (by kernel_rfl)) (by unfold Func.isWrapper; first | (rw [if_pos (by decide +kernel)]; kernel_rfl) | (rw [if_neg (by decide +kernel)]; exact ⟨rfl, rfl⟩))
    (fun os started H enc _ F => lifted os started H enc F)
theorem proved : Rows.TokenChecksUptoSaid := over
#print axioms proved
end Go.Proofs.Ytbgnplgdknbmoaa.tokenChecks
