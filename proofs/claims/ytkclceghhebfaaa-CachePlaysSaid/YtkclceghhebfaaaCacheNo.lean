/- What calls on a cache that is not there leave. -/
import Derived.Test.YtkclceghhebfaaaCacheClr
namespace Go.Proofs.Ytkclceghhebfaaa
open Go.RowKit
set_option linter.unusedVariables false
set_option linter.unusedSimpArgs false
theorem nc_clear {w : World} {p : Option Addr} (h : NoCache w p) :
    Calls Try.prog 12 #[.pointer p] w fun e w' => e = .returned (.tuple #[]) ∧ w' = w := by
  have HI := Lib.hid h
  clear h
  go_enter Try.func12, Try.ntmps12
  go_wp2_with fail
  refine (nc_none HI.out).mono ?_
  rintro e w' ⟨rfl, hww⟩
  subst hww
  go_wp2
  go_end0
  exact ⟨rfl, rfl⟩
theorem nc_list {w : World} {p : Option Addr} (h : NoCache w p) :
    Calls Try.prog 16 #[.pointer p] w fun e w' => e = .returned (.slice none 0 0) ∧ w' = w := by
  have HI := Lib.hid h
  clear h
  go_enter Try.func16, Try.ntmps16
  go_wp2_with fail
  refine (nc_none HI.out).mono ?_
  rintro e w' ⟨rfl, hww⟩
  subst hww
  go_wp2
  go_ret
  exact ⟨rfl, rfl⟩
set_option maxHeartbeats 1000000 in
theorem nc_put {w : World} {p : Option Addr} {q : Qry} {x : Ans} {cs : Array Value} {ok : Nat → Prop} (h : NoCache w p) (hk : ansK.K w ok x cs.toList) :
    Calls Try.prog 9 #[.pointer p, .agg (qryV q), .agg cs] w fun e w' => e = .returned (.bool false) ∧ Chg nob w w' := by
  have hc0 : Chg nob w ((w.alloc (.cells (qryV q) 34)).alloc (.cells cs 32)) := ((Chg.refl nob w).alloc _).alloc _
  have HI := Lib.hid (h.new hc0)
  have HC := Lib.hid hc0
  obtain ⟨S0, sd0, K0, kd0, N0, nd0, I0, id0, E0, ed0, T0, td0, hcs, -⟩ := (ans_cells hk).ex
  have hcs' : cs = _ := Array.toList_inj.1 (by rw [hcs])
  clear h hc0 hk hcs
  go_enter Try.func9, Try.ntmps9
  go_wp2_with fail
  refine (nc_none HI.out).mono ?_
  rintro e w' ⟨rfl, hww⟩
  subst hww
  go_wp2
  go_ret
  exact ⟨rfl, HC.out⟩
set_option maxHeartbeats 1000000 in
theorem nc_get {w : World} {p : Option Addr} (h : NoCache w p) (q : Qry) :
    Calls Try.prog 10 #[.pointer p, .agg (qryV q)] w fun e w' => e = .returned (.tuple #[.agg ansZ, .bool false]) ∧ Chg nob w w' := by
  have hc0 : Chg nob w ((w.alloc (.cells (qryV q) 34)).alloc (.cells #[.int .i64 0, .int .u64 0, .bool false, .int .i64 0, .string ⟨#[]⟩, .slice none 0 0, .slice none 0 0, .slice none 0 0, .slice none 0 0, .slice none 0 0, .slice none 0 0] 32)) := ((Chg.refl nob w).alloc _).alloc _
  have hb := heap_alloc_new (w.alloc (.cells (qryV q) 34)) (.cells #[.int .i64 0, .int .u64 0, .bool false, .int .i64 0, .string ⟨#[]⟩, .slice none 0 0, .slice none 0 0, .slice none 0 0, .slice none 0 0, .slice none 0 0, .slice none 0 0] 32)
  rw [World.size_alloc] at hb
  have HI := Lib.hid (h.new hc0)
  have HC := Lib.hid hc0
  have HB := Lib.hid hb
  clear h hc0 hb
  go_enter Try.func10, Try.ntmps10
  go_wp2_with fail
  refine (nc_none HI.out).mono ?_
  rintro e w' ⟨rfl, hww⟩
  subst hww
  go_wp2
  try simp only [Exit.inBlock, Exit.then]
  refine bodyPost_ret (results_cell_tmp_row rfl _ _ (w.heap.size + 1) _ _ (0, 0) _ rfl HB.out Try.underlying32 rfl (by kernel_rfl)) rfl ?_
  exact ⟨rfl, HC.out⟩
set_option maxHeartbeats 1000000 in
theorem nc_index {w : World} {p : Option Addr} (h : NoCache w p) (q : Qry) :
    Calls Try.prog 13 #[.pointer p, .agg (qryV q)] w fun e w' => e = .returned (.int .u64 0) ∧ Chg nob w w' := by
  have hc0 : Chg nob w (w.alloc (.cells (qryV q) 34)) := (Chg.refl nob w).alloc _
  have HI := Lib.hid (h.new hc0)
  have HC0 := Lib.hid hc0
  clear h hc0
  go_enter Try.func13, Try.ntmps13
  unfold qryV
  go_wp2_with fail
  refine (nc_get HI.out q).mono ?_
  rintro e w1 ⟨rfl, hc1⟩
  have HC1 := Lib.hid ((HC0.out.thenNew hc1).alloc (.cells ansZ 32))
  unfold ansZ at *
  clear hc1
  go_wp2
  go_ret
  exact ⟨rfl, HC1.out⟩
end Go.Proofs.Ytkclceghhebfaaa
