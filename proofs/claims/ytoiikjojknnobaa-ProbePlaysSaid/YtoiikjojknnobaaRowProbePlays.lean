/- The law ProbePlays, of every input: whatever the input, it returns true and leaves the input as it was. No condition. -/
import Derived.Test.YtoiikjojknnobaaProbePlays
import Derived.Test.YtoiikjojknnobaaOpen
import Derived.SizedLaws
namespace Go.Proofs.Ytoiikjojknnobaa.probePlays
open Go.ChangeShapes Go.WideShapes Go.ChangeAt Go.RowKit
open Go.ChangeMaps (open_string shut_string)
set_option linter.unusedVariables false
theorem own : ownKnob Try.prog.godebug = none := by kernel_rfl
theorem laidOut : laidOutB Try.prog = true := by kernel_rfl
set_option maxRecDepth 100000 in
theorem lifted (os : Os) (started : os.Started) (H : Type) (enc : TypeId × Value → H) :
    ReturnsInHanded {} Try.checked os 6 .any (Rows.probePlaysSpec.pre6 enc Try.prog Try.f6 Rows.probePlaysRow.domain false) (Rows.probePlaysSpec.post enc Try.prog Try.f6 false true false false) := by
  refine returnsInHanded_of_change (C := Try.checked) own started (by kernel_rfl) Try.func6
    (ChangeSpec.witness6 (enc := enc) (C := Try.checked) false ⟨#[], #[.slice none 0 0, .slice none 0 0], []⟩ 8 (by kernel_rfl) (by kernel_rfl) (by kernel_rfl) (by kernel_rfl)) ?_
  intro W base args ds gs before hval0 hW hcnd _
  have hval : ∀ (j : Nat) t v, Try.f6.params[j]? = some t → args[j]? = some v → Value.okWide Try.prog W .any base t v := hval0
  have hW' := hW
  obtain ⟨p, q, hA0, hV, rfl, hfz, hnd⟩ := hW
  have hA : DataW.TrodAll enc Try.prog W 0 (fun _ => true) true Try.f6.params.toList args.toList ds p := hA0
  rw [Try.params6] at hA hval
  obtain ⟨v0, vs0, d0, ds0, p0, q0, hargs, rfl, rfl, h0, r0⟩ := trodAll_cons hA
  obtain ⟨v1, vs1, d1, ds1, p1, q1, rfl, rfl, rfl, h1, r1⟩ := trodAll_cons r0
  obtain ⟨rfl, rfl, rfl⟩ := trodAll_nil r1
  obtain rfl : args = #[v0, v1] := by cases args; simp_all
  obtain ⟨rfl, rfl⟩ := trodVars_none hV
  have k0 := h0
  have lt0 : ∀ x ∈ p0, x.block < W.heap.size := by obtain ⟨m, hm⟩ := k0; exact DataW.trod_lt m _ _ _ hm
  obtain ⟨A0, n0, c0, rfl⟩ := okWide_slice Try.underlying22 (hval 0 22 v0 rfl rfl)
  obtain ⟨m0, hm0⟩ := k0
  obtain ⟨x0, ⟨A0', c0', e0, l0, C0⟩, b0⟩ := (opens_slice Try.underlying22 (by kernel_rfl) (opens_int Try.underlying61 (by kernel_rfl))).2 enc W m0 _ _ hm0
  have k0 : DataW.Trod enc Try.prog W 0 (fun _ => true) true 22 _ d0 p0 := ⟨m0, hm0⟩
  obtain ⟨rfl, rfl, rfl⟩ : A0' = A0 ∧ x0.length = n0 ∧ c0' = c0 := by simp [Value.cells] at e0; exact ⟨e0.1.symm, e0.2.1.symm, e0.2.2.symm⟩
  have k1 := h1
  have lt1 : ∀ x ∈ p1, x.block < W.heap.size := by obtain ⟨m, hm⟩ := k1; exact DataW.trod_lt m _ _ _ hm
  obtain ⟨A1, n1, c1, rfl⟩ := okWide_slice Try.underlying41 (hval 1 41 v1 rfl rfl)
  obtain ⟨m1, hm1⟩ := k1
  obtain ⟨x1, ⟨A1', c1', e1, l1, C1⟩, b1⟩ := (opens_slice Try.underlying41 (by kernel_rfl) (opens_struct Try.underlying48 (by kernel_rfl) (opensF_cons (opens_int Try.underlying3 (by kernel_rfl)) rfl (opensF_cons (opens_int Try.underlying3 (by kernel_rfl)) rfl (opensF_cons (opens_int Try.underlying3 (by kernel_rfl)) rfl (opensF_last (opens_slice Try.underlying28 (by kernel_rfl) (opens_int Try.underlying3 (by kernel_rfl))) rfl)))))).2 enc W m1 _ _ hm1
  have k1 : DataW.Trod enc Try.prog W 0 (fun _ => true) true 41 _ d1 p1 := ⟨m1, hm1⟩
  obtain ⟨rfl, rfl, rfl⟩ : A1' = A1 ∧ x1.length = n1 ∧ c1' = c1 := by simp [Value.cells] at e1; exact ⟨e1.1.symm, e1.2.1.symm, e1.2.2.symm⟩
  clear hA0 hval0
  refine (probePlays_walk (Kd.C_all C0).1 l0 (fun x hx => wf_u32 ((Kd.C_all C0).2 x hx)) C1 rfl).mono fun e W' ⟨he, chg⟩ => ?_
  have bel := Chg.below chg
  subst he
  exact ⟨_, rfl, _, _, _, [], _, [], hW', trodAll_mk1 (shut_bool Try.underlying4 _), (trodAll_cons_mk (Below.trod laidOut (by kernel_rfl) (of_decide_eq_true (by kernel_rfl)) k0 bel lt0) (trodAll_cons_mk (Below.trod laidOut (by kernel_rfl) (of_decide_eq_true (by kernel_rfl)) k1 bel lt1) trodAll_mk0)), rfl, bel.frame _, fun h => by cases h⟩
theorem over : Rows.probePlaysRow.holds Try.pinned (OpenSpec.ofChange Rows.probePlaysSpec) :=
  OpenClaim.holds_of_wide 6 Try.f6 rfl rfl rfl rfl rfl rfl rfl ⟨rfl, rfl, rfl, rfl, rfl⟩ rfl rfl rfl rfl rfl (by kernel_rfl) Try.func6 (by kernel_rfl)
    (of_decide_eq_true (by kernel_rfl)) (by unfold Func.isWrapper; first | (rw [if_pos (by decide +kernel)]; kernel_rfl) | (rw [if_neg (by decide +kernel)]; exact ⟨rfl, rfl⟩))
    (fun os started H enc _ => lifted os started H enc)
theorem proved : Rows.ProbePlaysSaid := over
#print axioms proved
end Go.Proofs.Ytoiikjojknnobaa.probePlays
