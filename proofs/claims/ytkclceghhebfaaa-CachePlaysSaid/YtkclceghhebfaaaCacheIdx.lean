/- What a call of Index, List, Clear leaves. -/
import Derived.Test.YtkclceghhebfaaaCacheGet
namespace Go.Proofs.Ytkclceghhebfaaa
open Go.RowKit
set_option linter.unusedVariables false
set_option linter.unusedSimpArgs false
theorem l_cloneQ_info : (Try.prog.info? 34).map (fun i => (i.zero, i.size, i.bytes)) = some (some (.agg #[.int .i64 0, .int .i64 0, .string ByteArray.empty, .string ByteArray.empty, .string ByteArray.empty, .bool false]), (qryK).sz, 72) := by kernel_rfl
theorem l_cloneQ {w : World} {ok : Nat → Prop} {A : Option Addr} {n c : Nat} {l : List Qry} (h : (qryK).C w ok A l) (hn : l.length = n) (hl : n * 72 ≤ 140737488355328) :
    Calls Try.prog 27 #[.slice A n c] w (ClonedK qryK 34 ok w l) := by
  have hsm := h.small
  rw [hn] at hsm
  have HC := Lib.hid h
  have HN := Lib.hid hn
  have heq := fun (wx : World) => Lib.run_eql_slice_nil (P := Try.prog) wx 58 34 A n c 0 0 Try.underlying58
  go_enter Try.func27, Try.ntmps27
  cases A with
  | none =>
    obtain ⟨rfl, rfl⟩ := nil_nil h hn
    clear h hsm hn
    go_wp2
    go_ret
    exact cloned_nil _ _ _ _
  | some ad =>
    have HE := Lib.hid (empty_ownR w w.heap.size 34 qryK (Nat.le_refl _))
    have HC1 := Lib.hid (Kd.C_new (Kd.C_bound HC.out) ((Chg.refl nob w).alloc (.cells #[] 34)))
    clear h hsm hn
    go_wp2_with (at_builtin; refine wp_append (d := qryK) rfl _ _ 58 rfl 34 (.agg #[.int .i64 0, .int .i64 0, .string ByteArray.empty, .string ByteArray.empty, .string ByteArray.empty, .bool false]) 72 Try.underlying58 l_cloneQ_info rfl w.heap.size _ _ (.slice (some ⟨w.heap.size, 0, none⟩) 0 0) [] l (some ad) n c rfl rfl HN.out HE.out HC1.out ?_ ?_ ?_ (by simp) n ?_ ?_)
    · rintro k hk e
      cases e
      exact absurd hk.2 (Nat.lt_irrefl _)
    · have := HC.out.small; simpa [maxLen] using this
    · simpa [HN.out] using hl
    · simp
    intro A1 c1 w1 hR hC _
    have HCL := Lib.hid (cloned_end HN.out hR hC)
    clear hR hC HE
    go_wp2
    go_ret
    exact HCL.out
set_option maxHeartbeats 1000000 in
theorem ca_index {w : World} {own av : Nat → Prop} {c : Nat} {l : Known} (h : CSt w own av c l) (q : Qry) :
    Calls Try.prog 13 #[.pointer (some ⟨c, 0, none⟩), .agg (qryV q)] w fun e w' => e = .returned (.int .u64 ((seekA l q).getD zeroA).2.1) ∧ Chg nob w w' := by
  have hc0 : Chg nob w (w.alloc (.cells (qryV q) 34)) := (Chg.refl nob w).alloc _
  have HST := Lib.hid (h.new hc0)
  have HC0 := Lib.hid hc0
  clear h hc0
  go_enter Try.func13, Try.ntmps13
  unfold qryV
  go_wp2_with fail
  refine (ca_get HST.out q).mono ?_
  rintro e w1 ⟨cs, rfl, hcp, hc1⟩
  obtain ⟨x, hx⟩ : ∃ x, (seekA l q).getD zeroA = x := ⟨_, rfl⟩
  rw [hx] at hcp
  have HX := Lib.hid hx
  obtain ⟨S1, sd1, K1, kd1, N1, nd1, I1, id1, E1, ed1, T1, td1, rfl, -⟩ := hcp.wr
  have HC1 := Lib.hid ((HC0.out.thenNew hc1).alloc (.cells #[.int .i64 x.1, .int .u64 x.2.1, .bool x.2.2.1.1, .int .i64 x.2.2.1.2.1, .string x.2.2.1.2.2.1, .slice S1 x.2.2.1.2.2.2.1.length sd1, .slice K1 x.2.2.1.2.2.2.2.length kd1, .slice N1 x.2.2.2.1.length nd1, .slice I1 x.2.2.2.2.1.length id1, .slice E1 x.2.2.2.2.2.1.length ed1, .slice T1 x.2.2.2.2.2.2.length td1] 32))
  clear hcp hc1 hx
  go_wp2
  go_ret
  rw [HX.out]
  exact ⟨rfl, HC1.out⟩
set_option maxHeartbeats 1000000 in
theorem ca_list {w : World} {own av : Nat → Prop} {c : Nat} {l : Known} (h : CSt w own av c l) (hl : l.length ≤ 1000) :
    Calls Try.prog 16 #[.pointer (some ⟨c, 0, none⟩)] w (ClonedK qryK 34 (fun _ => True) w (l.map Prod.fst)) := by
  have HI := Lib.hid h
  clear h
  go_enter Try.func16, Try.ntmps16
  go_wp2_with fail
  refine (ca_none HI.out).mono ?_
  rintro e w' ⟨rfl, hww⟩
  subst hww
  obtain ⟨r, O, oc, m, h1, -, -, -, -, -, hR, -⟩ := HI.out.ex
  obtain ⟨c0, c1, _⟩ := row2 h1
  have HC := Lib.hid (Kd.C_mono (ok' := fun _ => True) (Kd.R_read hR).1 (fun _ _ => trivial))
  have HLN : Hid ((l.map Prod.fst).length = l.length) := List.length_map _
  clear h1 hR
  go_wp2_with fail
  refine (l_cloneQ HC.out HLN.out (by omega)).mono ?_
  rintro e w2 hcl
  have HCL := Lib.hid hcl
  obtain ⟨A2, c2, rfl, _⟩ := hcl
  go_wp2
  go_ret
  have h := HCL.out
  rw [HLN.out] at h
  exact h
end Go.Proofs.Ytkclceghhebfaaa
