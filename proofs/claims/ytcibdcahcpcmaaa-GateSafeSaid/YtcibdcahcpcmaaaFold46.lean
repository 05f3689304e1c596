import Derived.Test.YtcibdcahcpcmaaaFold39
import Derived.Test.YtcibdcahcpcmaaaFold45
import Derived.Test.YtcibdcahcpcmaaaFold43
/- What calls on a cache that is not there leave. -/
namespace Go.Proofs.Ytcibdcahcpcmaaa
open Go.RowKit
set_option linter.unusedVariables false
set_option linter.unusedSimpArgs false
set_option maxHeartbeats 1000000 in
theorem nc_put {w : World} {p : Option Addr} {q : Qry} {x : Ans} {cs : Array Value} {ok : Nat → Prop} (h : NoCache w p) (hk : ansK.K w ok x cs.toList) :
    Calls Try.prog 15 #[.pointer p, .agg (qryV q), .agg cs] w fun e w' => e = .returned (.bool false) ∧ Chg nob w w' := by
  have hc0 : Chg nob w ((w.alloc (.cells (qryV q) 61)).alloc (.cells cs 57)) := ((Chg.refl nob w).alloc _).alloc _
  have HI := Lib.hid (h.new hc0)
  have HC := Lib.hid hc0
  obtain ⟨S0, sd0, K0, kd0, N0, nd0, I0, id0, E0, ed0, T0, td0, hcs, -⟩ := (ans_cells hk).ex
  have hcs' : cs = _ := Array.toList_inj.1 (by rw [hcs])
  clear h hc0 hk hcs
  go_enter Try.func15, Try.ntmps15
  go_wp2_with fail
  refine (nc_none HI.out).mono ?_
  rintro e w' ⟨rfl, hww⟩
  subst hww
  go_wp2
  go_ret
  exact ⟨rfl, HC.out⟩
set_option maxHeartbeats 1000000 in
theorem nc_get {w : World} {p : Option Addr} (h : NoCache w p) (q : Qry) :
    Calls Try.prog 20 #[.pointer p, .agg (qryV q)] w fun e w' => e = .returned (.tuple #[.agg ansZ, .bool false]) ∧ Chg nob w w' := by
  have hc0 : Chg nob w ((w.alloc (.cells (qryV q) 61)).alloc (.cells #[.int .i64 0, .int .u64 0, .bool false, .int .i64 0, .string ⟨#[]⟩, .slice none 0 0, .slice none 0 0, .slice none 0 0, .slice none 0 0, .slice none 0 0, .slice none 0 0] 57)) := ((Chg.refl nob w).alloc _).alloc _
  have hb := heap_alloc_new (w.alloc (.cells (qryV q) 61)) (.cells #[.int .i64 0, .int .u64 0, .bool false, .int .i64 0, .string ⟨#[]⟩, .slice none 0 0, .slice none 0 0, .slice none 0 0, .slice none 0 0, .slice none 0 0, .slice none 0 0] 57)
  rw [World.size_alloc] at hb
  have HI := Lib.hid (h.new hc0)
  have HC := Lib.hid hc0
  have HB := Lib.hid hb
  clear h hc0 hb
  go_enter Try.func20, Try.ntmps20
  go_wp2_with fail
  refine (nc_none HI.out).mono ?_
  rintro e w' ⟨rfl, hww⟩
  subst hww
  go_wp2
  try simp only [Exit.inBlock, Exit.then]
  refine bodyPost_ret (results_cell_tmp_row rfl _ _ (w.heap.size + 1) _ _ (0, 0) _ rfl HB.out Try.underlying57 rfl (by kernel_rfl)) rfl ?_
  exact ⟨rfl, HC.out⟩
end Go.Proofs.Ytcibdcahcpcmaaa

/- The gate: what the law's own call leaves. -/
namespace Go.Proofs.Ytcibdcahcpcmaaa
open Go.RowKit
set_option linter.unusedVariables false
set_option linter.unusedSimpArgs false
set_option maxRecDepth 100000
theorem ok_none : (seekA [] (5, 0, ByteArray.empty, ByteArray.empty, ByteArray.empty, false)) = none := rfl
def qInt (dst : ByteArray) : Qry := (5, 0, dst, ByteArray.empty, ByteArray.empty, false)
/-- Get of a cache that calls made. -/
theorem getC_cst {w : World} {own av : Nat → Prop} {c : Nat} {l : Known} (h : CSt w own av c l) (dst : ByteArray) : GetC w (.pointer (some ⟨c, 0, none⟩)) dst (seekA l (qInt dst)) := by
  intro wx hc
  have h1 : CSt wx own (fun b => av b ∨ w.heap.size ≤ b) c l := (h.reav (av' := fun b => av b ∨ w.heap.size ≤ b) (fun b hb => hb)).new hc
  refine (ca_get h1 (qInt dst)).mono ?_
  rintro e w' ⟨cs, rfl, hcp, hc'⟩
  refine ⟨cs, rfl, ansK.mono (fun b hb => ?_) hcp.K, hc'⟩
  rcases hb with ⟨hb, _⟩ | hb
  · rcases Nat.lt_or_ge b w.heap.size with h2 | h2
    · exact .inl h2
    · exact absurd (.inr (.inr h2)) hb
  · exact .inr hb
/-- Get of a cache that is not there. -/
theorem getC_none (w : World) (dst : ByteArray) {p : Option Addr} (h : NoCache w p) : GetC w (.pointer p) dst none := by
  intro wx hc
  refine (nc_get (h.new hc) (qInt dst)).mono ?_
  rintro e w' ⟨rfl, hc'⟩
  exact ⟨ansZ, rfl, zero_K _ _, hc'⟩
def dbS : ByteArray := ⟨#[100, 98]⟩
def webT : ByteArray := ⟨#[119, 101, 98]⟩
def wItn : Itn := (webT, dbS, true, 0, 0)
def wAns : Ans := (5, 7, (false, 0, ByteArray.empty, [], []), [], [], [], [wItn])
theorem w_right : putOk [] (qInt dbS) wAns = true := by decide +kernel
theorem w_put : putL [] (qInt dbS) wAns = [(qInt dbS, wAns)] := by unfold putL; rw [w_right]; rfl
theorem w_seek : seekA [(qInt dbS, wAns)] (qInt dbS) = some wAns := by simp only [seekA, qEq_self, if_true]
theorem w_sz : QSz (qInt dbS) := ⟨by decide +kernel, by decide +kernel, by decide +kernel⟩
theorem web_tok : tokOk webT 0 = true := by decide +kernel
theorem w_speaks : speaksB webT dbS wItn = true := by decide +kernel
theorem w_db : nameB (strL dbS) = true := by decide +kernel
/-- The verdict of the law's own call. -/
theorem w_verd {R : Tok × Nat} (hR : R = ((webT, 0, 0, 0), 0)) {v : Verd} (h : GVerd R (some wAns) dbS false v) : v = (true, 0, webT, 7, 0) := by
  subst hR
  cases h with
  | name h => rw [w_db] at h; cases h
  | empty _ h => cases h
  | token _ a hk hR => exact absurd rfl hR
  | said _ a hk hR al at_ hc =>
    cases hk
    rcases hc with ⟨k, i, hb, rfl, rfl⟩ | ⟨hn, rfl, rfl⟩
    · have := hb.at_
      cases k with
      | zero => cases this; rfl
      | succ k => cases this
    · have := hn 0 wItn rfl
      rw [w_speaks] at this
      cases this
theorem web_tlen : (tokB webT 0 0 0).length = 8 := by decide +kernel
theorem w_eql (w : World) : (binOp .eql 35 (.agg #[.bool true, .int .i64 0, .string ⟨#[119, 101, 98]⟩, .int .u64 7, .int .i64 0]) (.agg #[.bool true, .int .i64 0, .string ⟨#[119, 101, 98]⟩, .int .u64 7, .int .i64 0])).run Try.prog w = .ok (.bool true) w := by kernel_rfl
set_option maxHeartbeats 4000000 in
theorem gate_works (w : World) : Calls Try.prog 9 #[] w fun e w' => e = .returned (.bool true) ∧ Chg nob w w' := by
  have HCK : Hid (chkR 1 2 (sealed 1 2 (tokB webT 0 0 0)) = ((webT, 0, 0, 0), 0)) := chkR_sealed web_tok (by decide) (by decide)
  have heq := w_eql
  go_enter Try.func9, Try.ntmps9
  go_wp2_with fail
  refine (ca_new w nob).mono ?_
  rintro e w1 ⟨c, rfl, hcw, hst, hc1⟩
  have hca : Chg nob w1 (w1.alloc (.cells #[.string webT, .string dbS, .bool true, .int .u64 0, .int .u64 0] 77)) := (Chg.refl nob w1).alloc _
  have hbx : itnK.C (w1.alloc (.cells #[.string webT, .string dbS, .bool true, .int .u64 0, .int .u64 0] 77)) (fun k => False ∨ k = w1.heap.size) (some ⟨w1.heap.size, 0, none⟩) [wItn] := boxed (d := itnK) (w := w1) (ok := fun _ => False) 77 (y := wItn) (cs := #[.string webT, .string dbS, .bool true, .int .u64 0, .int .u64 0]) ⟨[_], _, rfl, rfl, [_], _, rfl, rfl, [_], _, rfl, rfl, [_], [_], rfl, rfl, rfl⟩
  obtain ⟨w2, hw2⟩ : ∃ w2, w1.alloc (.cells #[.string webT, .string dbS, .bool true, .int .u64 0, .int .u64 0] 77) = w2 := ⟨_, rfl⟩
  have hz2 : w2.heap.size = w1.heap.size + 1 := by rw [← hw2]; simp
  rw [hw2] at hca hbx
  obtain ⟨g, hg⟩ : ∃ g, w1.heap.size = g := ⟨_, rfl⟩
  have HST := Lib.hid (hst.new hca)
  have HC2 := Lib.hid (hc1.thenNew hca)
  have HG := Lib.hid hg
  have HZ2 := Lib.hid hz2
  rw [hg] at hbx
  have HKA : Hid (ansK.K w2 (fun k => False ∨ k = g) wAns (#[.int .i64 5, .int .u64 7, .bool false, .int .i64 0, .string ⟨#[]⟩, .slice none 0 0, .slice none 0 0, .slice none 0 0, .slice none 0 0, .slice none 0 0, .slice (some ⟨g, 0, none⟩) 1 1] : Array Value).toList) :=
    ans_mk (x := wAns) (S := none) (K := none) (N := none) (I := none) (E := none) (T := some ⟨g, 0, none⟩) (sd := 0) (kd := 0) (nd := 0) (id := 0) (ed := 0) (td := 1)
      ⟨Kd.C_nil _ _ _ _, Nat.le_refl _, by simp [wAns]⟩ ⟨Kd.C_nil _ _ _ _, Nat.le_refl _, by simp [wAns]⟩ ⟨Kd.C_nil _ _ _ _, Nat.le_refl _, by simp [wAns]⟩ ⟨Kd.C_nil _ _ _ _, Nat.le_refl _, by simp [wAns]⟩ ⟨Kd.C_nil _ _ _ _, Nat.le_refl _, by simp [wAns]⟩ ⟨hbx, by simp [wAns], by simp [wAns]⟩
  have HW2 := Lib.hid hw2
  have HCW := Lib.hid hcw
  clear hcw hst hc1 hca hbx hw2 hz2
  unfold webT dbS at HW2
  go_wp2_with fail
  rw [HW2.out]
  refine (ca_put HST.out (fun b hb => by have h1 := HZ2.out; omega) (fun b hb => hb.elim) (by simp) HKA.out (fun b hb => ⟨fun h => by have h1 := HG.out; rcases h with h | h; have h2 := h.2; rcases hb with hb | hb; exact hb; omega; exact h, by have h1 := HZ2.out; have h2 := HG.out; rcases hb with hb | hb; exact hb.elim; omega⟩) (qInt dbS) w_sz).mono ?_
  rintro e w3 ⟨rfl, hp⟩
  rw [w_put] at hp
  obtain ⟨own3, hst3, hc3, hl3, hs3, hu3⟩ := hp.ex
  have HST3 := Lib.hid hst3
  have HC3 : Hid (Chg nob w w3) := HC2.out.trans hc3 (fun i hi => .inr hi.1)
  clear hp hst3 hc3 hl3 hs3 hu3 hg
  go_wp2_with fail
  refine (t_issue (k0 := 1) (k1 := 2) (by decide) (by decide) webT 0 0 0 web_tok (by decide) (by decide) web_tlen).mono ?_
  rintro e w4 ⟨A, cc, rfl, ⟨hl, hmc, hC⟩, hc4⟩
  have HC4 := Lib.hid (HC3.out.thenNew hc4)
  have HST4 := Lib.hid (HST3.out.new hc4)
  have HB := Lib.hid (Kd.C_mono (Kd.C_bound hC) (fun b hb => hb.2))
  clear hC hc4
  go_wp2_with fail
  refine (g_decide (k0 := 1) (k1 := 2) (getC_cst HST4.out dbS) (by decide) (by decide) (by decide) HB.out hl.out hmc (by decide) false).mono ?_
  rintro e w5 ⟨v, rfl, hv, hc5⟩
  rw [w_seek] at hv
  have hve := w_verd HCK.out hv
  subst hve
  have HC5 := Lib.hid ((HC4.out.thenNew hc5).alloc (.cells #[.bool true, .int .i64 0, .string ⟨#[119, 101, 98]⟩, .int .u64 7, .int .i64 0] 35))
  clear hv hc5
  unfold verdV webT
  go_wp2
  go_ret
  exact ⟨rfl, HC5.out⟩
#print axioms gate_works
end Go.Proofs.Ytcibdcahcpcmaaa
