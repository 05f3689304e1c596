/- The law CachePlays, of every input: whatever the input, it returns true and leaves the input as it was. No condition. -/
import Derived.Test.YtkclceghhebfaaaCacheRow2
import Derived.Test.YtkclceghhebfaaaOpenS
import Derived.SizedLaws
namespace Go.Proofs.Ytkclceghhebfaaa.cachePlays
open Go.ChangeShapes Go.WideShapes Go.ChangeAt Go.RowKit
open Go.ChangeMaps (open_string shut_string)
set_option linter.unusedVariables false
theorem own : ownKnob Try.prog.godebug = none := by kernel_rfl
theorem laidOut : laidOutB Try.prog = true := by kernel_rfl
set_option maxRecDepth 100000 in
theorem lifted (os : Os) (started : os.Started) (H : Type) (enc : TypeId × Value → H) :
    ReturnsInHanded {} Try.checked os 5 .any (Rows.cachePlaysSpec.pre6 enc Try.prog Try.f5 Rows.cachePlaysRow.domain false) (Rows.cachePlaysSpec.post enc Try.prog Try.f5 false true false false) := by
  refine returnsInHanded_of_change_sized (C := Try.checked) own started (by kernel_rfl) Try.func5
    (ChangeSpec.witness6 (enc := enc) (C := Try.checked) false ⟨#[], #[.slice none 0 0], []⟩ 8 (by kernel_rfl) (by kernel_rfl) (by kernel_rfl) (by kernel_rfl)) ?_
  intro W base args ds gs before hval0 hW hcnd hsz0 _
  have hsz : (DataW.weightsEach Try.prog (Try.f5.params.toList ++ Rows.cachePlaysSpec.plain.varTypes Try.prog) (ds ++ gs)).all (· ≤ reachBytes) = true := hsz0
  have hval : ∀ (j : Nat) t v, Try.f5.params[j]? = some t → args[j]? = some v → Value.okWide Try.prog W .any base t v := hval0
  have hW' := hW
  obtain ⟨p, q, hA0, hV, rfl, hfz, hnd⟩ := hW
  have hA : DataW.TrodAll enc Try.prog W 0 (fun _ => true) true Try.f5.params.toList args.toList ds p := hA0
  rw [Try.params5] at hA hval hsz
  obtain ⟨v0, vs0, d0, ds0, p0, q0, hargs, rfl, rfl, h0, r0⟩ := trodAll_cons hA
  obtain ⟨rfl, rfl, rfl⟩ := trodAll_nil r0
  obtain rfl : args = #[v0] := by cases args; simp_all
  obtain ⟨rfl, rfl⟩ := trodVars_none hV
  have k0 := h0
  have lt0 : ∀ x ∈ p0, x.block < W.heap.size := by obtain ⟨m, hm⟩ := k0; exact DataW.trod_lt m _ _ _ hm
  have W0 : ∀ v ∈ d0.weights Try.prog 52, v ≤ reachBytes := fun v hv => by simpa using List.all_eq_true.1 hsz v (DataW.weights_mem_each (j := 0) rfl rfl v hv)
  obtain ⟨A0, n0, c0, rfl⟩ := okWide_slice Try.underlying52 (hval 0 52 v0 rfl rfl)
  obtain ⟨m0, hm0⟩ := k0
  obtain ⟨x0, ⟨⟨A0', c0', e0, l0, C0⟩, z0⟩⟩ := (opensS_slice (by_ := 272) Try.underlying52 (by kernel_rfl) (by kernel_rfl) (opensS_struct Try.underlying54 (by kernel_rfl) (opensSF_cons (opensS_of (opens_int Try.underlying3 (by kernel_rfl))) rfl (opensSF_cons (opensS_struct Try.underlying34 (by kernel_rfl) (opensSF_cons (opensS_of (opens_int Try.underlying3 (by kernel_rfl))) rfl (opensSF_cons (opensS_of (opens_int Try.underlying3 (by kernel_rfl))) rfl (opensSF_cons (opensS_string Try.underlying9 (by kernel_rfl)) rfl (opensSF_cons (opensS_string Try.underlying9 (by kernel_rfl)) rfl (opensSF_cons (opensS_string Try.underlying9 (by kernel_rfl)) rfl (opensSF_last (opensS_of (opens_bool Try.underlying4 (by kernel_rfl))) rfl))))))) rfl (opensSF_last (opensS_struct Try.underlying32 (by kernel_rfl) (opensSF_cons (opensS_of (opens_int Try.underlying3 (by kernel_rfl))) rfl (opensSF_cons (opensS_of (opens_int Try.underlying22 (by kernel_rfl))) rfl (opensSF_cons (opensS_struct Try.underlying26 (by kernel_rfl) (opensSF_cons (opensS_of (opens_bool Try.underlying4 (by kernel_rfl))) rfl (opensSF_cons (opensS_of (opens_int Try.underlying3 (by kernel_rfl))) rfl (opensSF_cons (opensS_string Try.underlying9 (by kernel_rfl)) rfl (opensSF_cons (opensS_slice (by_ := 88) Try.underlying23 (by kernel_rfl) (by kernel_rfl) (opensS_struct Try.underlying45 (by kernel_rfl) (opensSF_cons (opensS_of (opens_int Try.underlying3 (by kernel_rfl))) rfl (opensSF_cons (opensS_string Try.underlying9 (by kernel_rfl)) rfl (opensSF_cons (opensS_string Try.underlying9 (by kernel_rfl)) rfl (opensSF_cons (opensS_slice (by_ := 16) Try.underlying43 (by kernel_rfl) (by kernel_rfl) (opensS_string Try.underlying9 (by kernel_rfl))) rfl (opensSF_cons (opensS_of (opens_int Try.underlying3 (by kernel_rfl))) rfl (opensSF_cons (opensS_of (opens_int Try.underlying22 (by kernel_rfl))) rfl (opensSF_last (opensS_of (opens_int Try.underlying22 (by kernel_rfl))) rfl))))))))) rfl (opensSF_last (opensS_slice (by_ := 80) Try.underlying24 (by kernel_rfl) (by kernel_rfl) (opensS_struct Try.underlying80 (by kernel_rfl) (opensSF_cons (opensS_of (opens_int Try.underlying3 (by kernel_rfl))) rfl (opensSF_cons (opensS_string Try.underlying9 (by kernel_rfl)) rfl (opensSF_cons (opensS_string Try.underlying9 (by kernel_rfl)) rfl (opensSF_cons (opensS_string Try.underlying9 (by kernel_rfl)) rfl (opensSF_cons (opensS_of (opens_int Try.underlying3 (by kernel_rfl))) rfl (opensSF_cons (opensS_of (opens_int Try.underlying22 (by kernel_rfl))) rfl (opensSF_last (opensS_of (opens_int Try.underlying22 (by kernel_rfl))) rfl))))))))) rfl)))))) rfl (opensSF_cons (opensS_slice (by_ := 40) Try.underlying27 (by kernel_rfl) (by kernel_rfl) (opensS_struct Try.underlying42 (by kernel_rfl) (opensSF_cons (opensS_of (opens_int Try.underlying3 (by kernel_rfl))) rfl (opensSF_cons (opensS_string Try.underlying9 (by kernel_rfl)) rfl (opensSF_cons (opensS_of (opens_int Try.underlying22 (by kernel_rfl))) rfl (opensSF_last (opensS_of (opens_int Try.underlying22 (by kernel_rfl))) rfl)))))) rfl (opensSF_cons (opensS_slice (by_ := 96) Try.underlying28 (by kernel_rfl) (by kernel_rfl) (opensS_struct Try.underlying47 (by kernel_rfl) (opensSF_cons (opensS_struct Try.underlying45 (by kernel_rfl) (opensSF_cons (opensS_of (opens_int Try.underlying3 (by kernel_rfl))) rfl (opensSF_cons (opensS_string Try.underlying9 (by kernel_rfl)) rfl (opensSF_cons (opensS_string Try.underlying9 (by kernel_rfl)) rfl (opensSF_cons (opensS_slice (by_ := 16) Try.underlying43 (by kernel_rfl) (by kernel_rfl) (opensS_string Try.underlying9 (by kernel_rfl))) rfl (opensSF_cons (opensS_of (opens_int Try.underlying3 (by kernel_rfl))) rfl (opensSF_cons (opensS_of (opens_int Try.underlying22 (by kernel_rfl))) rfl (opensSF_last (opensS_of (opens_int Try.underlying22 (by kernel_rfl))) rfl)))))))) rfl (opensSF_last (opensS_of (opens_int Try.underlying3 (by kernel_rfl))) rfl)))) rfl (opensSF_cons (opensS_slice (by_ := 64) Try.underlying29 (by kernel_rfl) (by kernel_rfl) (opensS_struct Try.underlying49 (by kernel_rfl) (opensSF_cons (opensS_string Try.underlying9 (by kernel_rfl)) rfl (opensSF_cons (opensS_string Try.underlying9 (by kernel_rfl)) rfl (opensSF_cons (opensS_of (opens_int Try.underlying22 (by kernel_rfl))) rfl (opensSF_cons (opensS_of (opens_int Try.underlying22 (by kernel_rfl))) rfl (opensSF_cons (opensS_of (opens_int Try.underlying22 (by kernel_rfl))) rfl (opensSF_last (opensS_of (opens_int Try.underlying22 (by kernel_rfl))) rfl)))))))) rfl (opensSF_last (opensS_slice (by_ := 56) Try.underlying30 (by kernel_rfl) (by kernel_rfl) (opensS_struct Try.underlying82 (by kernel_rfl) (opensSF_cons (opensS_string Try.underlying9 (by kernel_rfl)) rfl (opensSF_cons (opensS_string Try.underlying9 (by kernel_rfl)) rfl (opensSF_cons (opensS_of (opens_bool Try.underlying4 (by kernel_rfl))) rfl (opensSF_cons (opensS_of (opens_int Try.underlying22 (by kernel_rfl))) rfl (opensSF_last (opensS_of (opens_int Try.underlying22 (by kernel_rfl))) rfl))))))) rfl)))))))) rfl))))).2 enc W m0 _ _ hm0 W0
  have k0 : DataW.Trod enc Try.prog W 0 (fun _ => true) true 52 _ d0 p0 := ⟨m0, hm0⟩
  obtain ⟨rfl, rfl, rfl⟩ : A0' = A0 ∧ x0.length = n0 ∧ c0' = c0 := by simp [Value.cells] at e0; exact ⟨e0.1.symm, e0.2.1.symm, e0.2.2.symm⟩
  clear hval0
  refine (cachePlays_row C0).mono fun e W' ⟨he, chg⟩ => ?_
  have bel := Chg.below chg
  subst he
  exact ⟨_, rfl, _, _, _, [], _, [], hW', trodAll_mk1 (shut_bool Try.underlying4 _), (trodAll_cons_mk (Below.trod laidOut (by kernel_rfl) (of_decide_eq_true (by kernel_rfl)) k0 bel lt0) trodAll_mk0), rfl, bel.frame _, fun h => by cases h⟩
theorem over : Rows.cachePlaysRow.holds Try.pinned (OpenSpec.ofChange Rows.cachePlaysSpec) :=
  OpenClaim.holds_of_wide 5 Try.f5 rfl rfl rfl rfl rfl rfl rfl ⟨rfl, rfl, rfl, rfl, rfl⟩ rfl rfl rfl rfl rfl (by kernel_rfl) Try.func5 (by kernel_rfl)
    (of_decide_eq_true (by kernel_rfl)) (by unfold Func.isWrapper; first | (rw [if_pos (by decide +kernel)]; kernel_rfl) | (rw [if_neg (by decide +kernel)]; exact ⟨rfl, rfl⟩))
    (fun os started H enc _ => lifted os started H enc)
theorem proved : Rows.CachePlaysSaid := over
#print axioms proved
end Go.Proofs.Ytkclceghhebfaaa.cachePlays
