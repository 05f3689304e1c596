import Derived.Test.YthleagjnhpjhiaaFold18
import Derived.Test.YthleagjnhpjhiaaFold11
import Derived.Test.YthleagjnhpjhiaaFold05
/- Orders: what the law's own call leaves; the law OrderRights. -/
namespace Go.Proofs.Ythleagjnhpjhiaa
open Go.RowKit
set_option linter.unusedVariables false
set_option linter.unusedSimpArgs false
set_option maxRecDepth 100000
def workC : Cmd := ⟨10, 0, 0, 0, ByteArray.empty, ByteArray.empty, ByteArray.empty, ByteArray.empty, ⟨#[97]⟩, ⟨#[49]⟩, ByteArray.empty, ByteArray.empty, [], false, 0, 0, []⟩
def workO : Ord := (1, 5, workC)
theorem work_put : putE workO = ([1, 1, 1, 5, 1, 10, 1, 1, 97, 1, 1, 49], 0) := by decide +kernel
theorem work_ok : CmOk workC := ⟨⟨by decide, by decide⟩, by decide, by decide, ⟨by decide, by decide⟩, ⟨by decide, by decide⟩, by decide⟩
theorem work_K (w : World) : ordK.K w nob workO (#[.int .i64 1, .int .u32 5, .int .i64 10, .int .i64 0, .int .i64 0, .int .i64 0, .string ⟨#[]⟩, .string ⟨#[]⟩, .string ⟨#[]⟩, .string ⟨#[]⟩, .string ⟨#[97]⟩, .string ⟨#[49]⟩, .string ⟨#[]⟩, .string ⟨#[]⟩, .slice none 0 0, .bool false, .int .u64 0, .int .u64 0, .slice none 0 0] : Array Value).toList :=
  ⟨[_], _, rfl, ⟨rfl, rfl⟩, [_], _, rfl, ⟨rfl, rfl⟩, cmd_mk (x := workC) (d := subsK) (T := none) (tc := 0) (s := .slice none 0 0) (Nat.le_refl _) (Kd.C_nil _ _ _ _) ⟨⟨none, 0, rfl, Nat.le_refl _, Kd.C_nil _ _ _ _⟩, by decide⟩ work_ok⟩
/-- A load of a command, as an operation. -/
theorem load_run {w : World} {b o : Nat} {cs : List Value} (h : w.rangeAt b o cs) (hl : cs.length = 17) : (do let x ← Instr.loadAt 26 (.pointer (some ⟨b, o, none⟩)); pure (Next.value x)).run Try.prog w = .ok (.value (.agg cs.toArray)) w := by
  rw [Sem.run_bind, run_loadAt_mid w b o 26 cs _ h Try.underlying26 rfl (by rw [hl]; kernel_rfl)]
  rfl
set_option maxHeartbeats 4000000 in
theorem ord_works (w : World) : Calls Try.prog 10 #[] w (ToldN w true) := by
  go_enter Try.func10, Try.ntmps10
  go_wp2_with fail
  refine (o_put (w := w) (o := workO) (work_K w)).mono ?_
  rw [work_put]
  rintro e w1 ⟨A, c, rfl, hC, hl, hc⟩
  have hcv := conv_any hC rfl c
  have HC := Lib.hid hc
  clear hc
  have hlen : ([1, 1, 1, 5, 1, 10, 1, 1, 97, 1, 1, 49] : List UInt8).length = 12 := rfl
  rw [hlen] at hcv ⊢
  go_wp2
  rw [strOf_list]
  go_ret
  exact ⟨rfl, HC.out⟩
set_option maxHeartbeats 4000000 in
theorem orderRights_walk {w : World} {ok : Nat → Prop} {x : Cmd} {cs : Array Value} (hx : comK.K w ok x cs.toList) : Calls Try.prog 3 #[.agg cs] w (ToldN w true) := by
  obtain ⟨T, tc, A, n, c, rfl, -⟩ := cm_row subs_sub hx
  obtain ⟨w1, hw1⟩ : ∃ w1, w.alloc (.cells (cmL x T tc (.slice A n c)).toArray 26) = w1 := ⟨_, rfl⟩
  have hb1 := heap_alloc_new w (.cells (cmL x T tc (.slice A n c)).toArray 26)
  have h1 : Chg nob w w1 := by rw [← hw1]; exact (Chg.refl nob w).alloc _
  obtain ⟨cb, hcb⟩ : ∃ cb, w.heap.size = cb := ⟨_, rfl⟩
  rw [hw1, hcb] at hb1
  have HB1 := Lib.hid hb1
  have HC1 := Lib.hid h1
  have HW1 := Lib.hid hw1
  have HX := Lib.hid (Kd.chg hx h1 (fun b _ => not_nob b))
  obtain ⟨V, hV⟩ : ∃ V, (cmL x T tc (.slice A n c)).toArray = V := ⟨_, rfl⟩
  have HV := Lib.hid hV
  rw [hV] at HW1 ⊢
  have HRN : Hid (∀ wx, Chg nob w1 wx → wx.rangeAt cb 0 (cmL x T tc (.slice A n c))) := fun wx hc => rng_row (hc.heap HB1.out (not_nob _))
  clear hb1 h1 hw1 hx hV
  go_enter Try.func3, Try.ntmps3
  go_upto_region 1 with fail
  rw [HW1.out]
  refine wp_region_held_drew (S := fun wx => Chg nob w1 wx) (by kernel_rfl) (((Chg.refl nob w1).drew)) (fun hHeld => ?_)
  refine wpAnyH_take (i := 0) (v := ?_) pick0 (by kernel_rfl) (by kernel_rfl) (by kernel_rfl) (fun _ _ _ h => h) (Or.inl ⟨by rfl, ?_⟩) (by assumption) ?_
  rotate_left 1
  · (intro wx hSw; exact load_run (HRN.out wx hSw) rfl)
  try simp only [Act.put, List.setIfInBounds_toArray, List.set_cons_zero, List.set_cons_succ]
  refine wpAnyH_take (i := 2) (v := ?_) (pickS (pickS pick0)) (by kernel_rfl) (by kernel_rfl) (by kernel_rfl) (fun _ _ _ h => h) (Or.inl ⟨by rfl, ?_⟩) (by assumption) ?_
  rotate_left 1
  · (intro wx hSw; exact load_run (HRN.out wx hSw) rfl)
  try simp only [Act.put, List.setIfInBounds_toArray, List.set_cons_zero, List.set_cons_succ]
  refine wpAnyH_ready (rs := [1]) (by kernel_rfl) (by simp) ?_
  refine AllReadyH.cons (pickS pick0) (fun K hK => ?_) AllReadyH.nil
  go_simp
  refine (o_right (x := x) (Kd.chg HX.out hHeld (fun b _ => not_nob b))).mono ?_
  rintro e w2 ⟨rfl, hc2⟩
  have HC2 : Hid (Chg nob w1 w2) := hHeld.thenNew hc2
  clear hc2
  go_wp2_with fail
  refine hK.out _ _ (HC2.out) (fun hHeld => ?_)
  clear hK K
  try simp only [Act.put, List.setIfInBounds_toArray, List.set_cons_zero, List.set_cons_succ]
  refine wpAnyH_ready (rs := [3]) (by kernel_rfl) (by simp) ?_
  refine AllReadyH.cons (pickS (pickS (pickS pick0))) (fun K hK => ?_) AllReadyH.nil
  go_simp
  refine (r_right20 (x := x) (Kd.chg HX.out HC2.out (fun b _ => not_nob b))).mono ?_
  rintro e w3 ⟨rfl, hc3⟩
  have HC3 : Hid (Chg nob w1 w3) := HC2.out.thenNew hc3
  clear hc3
  go_wp2_with fail
  refine hK.out _ _ (HC3.out) (fun hHeld => ?_)
  clear hK K
  try simp only [Act.put, List.setIfInBounds_toArray, List.set_cons_zero, List.set_cons_succ]
  refine wpAnyH_take (i := 4) (v := ?_) (pickS (pickS (pickS (pickS pick0)))) (by kernel_rfl) (by kernel_rfl) (by kernel_rfl) (fun _ _ _ h => h) (Or.inl ⟨by rfl, ?_⟩) (by assumption) ?_
  rotate_left 1
  · (intro wx hSw; go_simp; try with_reducible rfl)
  try simp only [Act.put, List.setIfInBounds_toArray, List.set_cons_zero, List.set_cons_succ]
  refine wpAnyH_take (i := 5) (v := ?_) (pickS (pickS (pickS (pickS (pickS pick0))))) (by kernel_rfl) (by kernel_rfl) (by kernel_rfl) (fun _ _ _ h => h) (Or.inl ⟨by rfl, ?_⟩) (by assumption) ?_
  rotate_left 1
  · (intro wx hSw; go_simp; try with_reducible rfl)
  try simp only [Act.put, List.setIfInBounds_toArray, List.set_cons_zero, List.set_cons_succ]
  refine wpAnyH_ready (rs := [6]) (by kernel_rfl) (by simp) ?_
  refine AllReadyH.cons (pickS (pickS (pickS (pickS (pickS (pickS pick0)))))) (fun K hK => ?_) AllReadyH.nil
  go_simp
  refine (ord_works _).mono ?_
  rintro e w4 ⟨rfl, hc4⟩
  have HC4 : Hid (Chg nob w1 w4) := HC3.out.thenNew hc4
  clear hc4
  go_wp2_with fail
  refine hK.out _ _ (HC4.out) (fun hHeld => ?_)
  clear hK K
  try simp only [Act.put, List.setIfInBounds_toArray, List.set_cons_zero, List.set_cons_succ]
  refine wpAnyH_take (i := 7) (v := ?_) (pickS (pickS (pickS (pickS (pickS (pickS (pickS pick0))))))) (by kernel_rfl) (by kernel_rfl) (by kernel_rfl) (fun _ _ _ h => h) (Or.inl ⟨by rfl, ?_⟩) (by assumption) ?_
  rotate_left 1
  · (intro wx hSw; go_simp; try with_reducible rfl)
  try simp only [Act.put, List.setIfInBounds_toArray, List.set_cons_zero, List.set_cons_succ]
  refine wpAnyH_take (i := 8) (v := ?_) (pickS (pickS (pickS (pickS (pickS (pickS (pickS (pickS pick0)))))))) (by kernel_rfl) (by kernel_rfl) (by kernel_rfl) (fun _ _ _ h => h) (Or.inl ⟨by rfl, ?_⟩) (by assumption) ?_
  rotate_left 1
  · (intro wx hSw; go_simp; try with_reducible rfl)
  try simp only [Act.put, List.setIfInBounds_toArray, List.set_cons_zero, List.set_cons_succ]
  refine wpAnyH_done (by kernel_rfl) ?_ _
  have HCE := Lib.hid (HC1.out.thenNew HC4.out)
  go_wp2
  go_ret
  exact ⟨rfl, HCE.out⟩
#print axioms orderRights_walk
end Go.Proofs.Ythleagjnhpjhiaa

/- Commands and orders as arguments, as they are read. -/
namespace Go.Proofs.Ythleagjnhpjhiaa
open Go.RowKit Go.ChangeShapes Go.WideShapes Go.ChangeAt
set_option linter.unusedVariables false
theorem opensS_iso {α β : Type} {P : Program} {t : TypeId} {d : Kd α} {f : β → α} (g : α → β) (hg : ∀ a, f (g a) = a) (h : OpensS P d t) : OpensS P (Kd.iso d f) t :=
  ⟨h.1, fun enc w n cs x hx hw => by obtain ⟨a, h1⟩ := h.2 enc w n cs x hx hw; exact ⟨g a, by show d.K _ _ _ _; rw [hg]; exact h1⟩⟩
theorem opensS_len {P : Program} {t e : TypeId} (ht : P.underlying t = some (.slice e)) (hc : P.cellsOf t = 1) : OpensS P lenK t := by
  refine ⟨hc, fun {H} enc w n cs x hx hw => ?_⟩
  rcases DataW.trod_slice ht hx with ⟨rfl, rfl⟩ | ⟨a, len, cap, elems, rest, n, _, rfl, rfl, hb, hl, hm, hlen, hel, _, _⟩
  · exact ⟨0, by decide, none, 0, rfl, Nat.le_refl _⟩
  · exact ⟨len, by simp [maxLen] at *; omega, some a, cap, rfl, hl⟩
theorem opens_i : OpensS Try.prog (intW .i64) 3 := opensS_of (opens_int Try.underlying3 (by kernel_rfl))
theorem opens_u : OpensS Try.prog (intW .u64) 23 := opensS_of (opens_int Try.underlying23 (by kernel_rfl))
theorem opens_s : OpensS Try.prog strW 9 := opensS_string Try.underlying9 (by kernel_rfl)
theorem opens_t : OpensS Try.prog tagsW 22 := opensS_slice (by_ := 16) Try.underlying22 (by kernel_rfl) (by kernel_rfl) opens_s
theorem opens_b : OpensS Try.prog Kd.bool 4 := opensS_of (opens_bool Try.underlying4 (by kernel_rfl))
theorem opensS_cm {α : Type} {d : Kd α} (h : OpensS Try.prog d 24) (hz : d.sz = 1) : OpensS Try.prog (cmdK d) 26 := by
  refine opensS_iso Cm.ofTup (fun a => rfl) (opensS_struct Try.underlying26 ?_ ?_)
  · show _ = 1 + (1 + (1 + (1 + (1 + (1 + (1 + (1 + (1 + (1 + (1 + (1 + (1 + (1 + (1 + (1 + d.sz)))))))))))))))
    rw [hz]
    kernel_rfl
  · exact opensSF_cons opens_i rfl (opensSF_cons opens_i rfl (opensSF_cons opens_i rfl (opensSF_cons opens_i rfl (opensSF_cons opens_s rfl (opensSF_cons opens_s rfl (opensSF_cons opens_s rfl (opensSF_cons opens_s rfl (opensSF_cons opens_s rfl (opensSF_cons opens_s rfl (opensSF_cons opens_s rfl (opensSF_cons opens_s rfl (opensSF_cons opens_t rfl (opensSF_cons opens_b rfl (opensSF_cons opens_u rfl (opensSF_cons opens_u rfl (opensSF_last h rfl))))))))))))))))
theorem opens_cm0 : OpensS Try.prog cm0K 26 := opensS_cm (opensS_len Try.underlying24 (by kernel_rfl)) rfl
theorem opens_com : OpensS Try.prog comK 26 := opensS_cm (opensS_slice (by_ := 232) Try.underlying24 (by kernel_rfl) (by kernel_rfl) opens_cm0) rfl
theorem opens_ord : OpensS Try.prog ordK 31 := opensS_struct Try.underlying31 (by kernel_rfl) (opensSF_cons opens_i rfl (opensSF_cons (opensS_of (opens_int Try.underlying29 (by kernel_rfl))) rfl (opensSF_last opens_com rfl)))
theorem orderRights_row {w : World} {x : Cmd} {cs : Array Value} (h : comK.K w (fun b => b < w.heap.size) x cs.toList) :
    Calls Try.prog 3 #[.agg cs] w fun e w' => e = .returned (.bool true) ∧ Chg nob w w' := orderRights_walk h
end Go.Proofs.Ythleagjnhpjhiaa
