/- Steps as arguments, as they are read; the laws CacheNone, CacheKept, CacheRises of what is read. -/
import Derived.Test.YtkclceghhebfaaaApiRow
import Derived.Test.YtkclceghhebfaaaCacheRises
import Derived.Test.YtkclceghhebfaaaCacheKept
namespace Go.Proofs.Ytkclceghhebfaaa
open Go.RowKit
set_option linter.unusedVariables false
set_option linter.unusedSimpArgs false
abbrev stpW : Kd Stp := Kd.pair (intW .i64) (Kd.pair qryW ansW)
theorem stp_le : stpW.Le stpK := .pair int_le (.pair qry_le ans_le)
theorem u64_nonneg {x : Int} (h : (Lit.int .u64 x).wf = true) : 0 ≤ x := by
  have h1 : IntKind.u64.min ≤ x := by simp only [Lit.wf, Bool.and_eq_true, decide_eq_true_eq] at h; exact h.1
  exact h1
theorem qry_sz {w : World} {ok : Nat → Prop} {q : Qry} {cs : List Value} (h : qryW.K w ok q cs) : QSz q := by
  obtain ⟨c0, _, e, h0, c1, _, rfl, h1, c2, _, rfl, ⟨_, h2⟩, c3, _, rfl, ⟨_, h3⟩, c4, c5, rfl, ⟨_, h4⟩, h5⟩ := h
  exact ⟨by omega, by omega, by omega⟩
theorem ans_idx {w : World} {ok : Nat → Prop} {x : Ans} {cs : List Value} (h : ansW.K w ok x cs) : 0 ≤ x.2.1 := by
  obtain ⟨c0, _, e, h0, c1, _, rfl, ⟨_, h1⟩, _⟩ := h
  exact u64_nonneg h1
theorem C_each {α : Type} {d : Kd α} {w : World} {ok : Nat → Prop} {A : Option Addr} {xs : List α} (h : d.C w ok A xs) : ∀ x ∈ xs, ∃ c, d.K w ok x c := by
  obtain ⟨_, inner, hr, _⟩ := h
  intro x hx
  obtain ⟨j, hj⟩ := List.mem_iff_getElem?.1 hx
  exact ⟨_, hr.2 j x hj⟩
theorem stp_all {w : World} {ok : Nat → Prop} {A : Option Addr} {ls : List Stp} (h : stpW.C w ok A ls) : ∀ s ∈ ls, QSz s.2.1 ∧ 0 ≤ s.2.2.2.1 := by
  intro s hs
  obtain ⟨c, c0, c1, e, h0, d0, d1, e1, hq, hk⟩ := C_each h s hs
  exact ⟨qry_sz hq, ans_idx hk⟩
theorem ans_lit {w : World} {ok : Nat → Prop} {x : Ans} {cs : Array Value} (h : ansK.K w ok x cs.toList) : ∃ S nS sd K nK kd N nN nd I nI id E nE ed T nT td, cs = #[.int .i64 x.1, .int .u64 x.2.1, .bool x.2.2.1.1, .int .i64 x.2.2.1.2.1, .string x.2.2.1.2.2.1, .slice S nS sd, .slice K nK kd, .slice N nN nd, .slice I nI id, .slice E nE ed, .slice T nT td] := by
  obtain ⟨S, sd, K, kd, N, nd, I, id, E, ed, T, td, hcs, -⟩ := (ans_cells h).ex
  exact ⟨S, _, sd, K, _, kd, N, _, nd, I, _, id, E, _, ed, T, _, td, Array.toList_inj.1 (by rw [hcs])⟩
theorem cacheNone_row {w : World} {s : Stp} {cs : Array Value} (h : stpW.K w (fun b => b < w.heap.size) s cs.toList) :
    Calls Try.prog 6 #[.agg cs] w fun e w' => e = .returned (.bool true) ∧ Chg nob w w' := by
  obtain ⟨c0, c1, e, h0, d0, d1, rfl, hq, hk⟩ := (stp_le).2 h
  have h0' : c0 = [.int .i64 s.1] := h0
  have hq' := qry_cells hq
  obtain ⟨S, nS, sd, K, nK, kd, N, nN, nd, I, nI, id, E, nE, ed, T, nT, td, hl⟩ := ans_lit (cs := d1.toArray) hk
  have hl' : d1 = _ := congrArg Array.toList hl
  subst h0' hq' hl'
  obtain rfl : cs = #[.int .i64 s.1, .int .i64 s.2.1.1, .int .i64 s.2.1.2.1, .string s.2.1.2.2.1, .string s.2.1.2.2.2.1, .string s.2.1.2.2.2.2.1, .bool s.2.1.2.2.2.2.2, .int .i64 s.2.2.1, .int .u64 s.2.2.2.1, .bool s.2.2.2.2.1.1, .int .i64 s.2.2.2.2.1.2.1, .string s.2.2.2.2.1.2.2.1, .slice S nS sd, .slice K nK kd, .slice N nN nd, .slice I nI id, .slice E nE ed, .slice T nT td] := Array.toList_inj.1 (by rw [e]; rfl)
  exact cacheNone_walk (q := s.2.1) (x := s.2.2) hk
theorem cacheKept_row {w : World} {x : Ans} {cs : Array Value} (h : ansW.K w (fun b => b < w.heap.size) x cs.toList) :
    Calls Try.prog 3 #[.agg cs] w fun e w' => e = .returned (.bool true) ∧ Chg nob w w' := by
  have hk := ans_le.2 h
  obtain ⟨S, nS, sd, K, nK, kd, N, nN, nd, I, nI, id, E, nE, ed, T, nT, td, rfl⟩ := ans_lit hk
  exact cacheKept_walk hk (fun b hb => hb)
theorem cacheRises_row {w : World} {A : Option Addr} {cp : Nat} {ls : List Stp} (hL : stpW.C w (fun b => b < w.heap.size) A ls) {q : Qry} {cs : Array Value} (hq : qryW.K w (fun b => b < w.heap.size) q cs.toList) :
    Calls Try.prog 4 #[.slice A ls.length cp, .agg cs] w fun e w' => e = .returned (.bool true) ∧ Chg nob w w' := by
  obtain rfl : cs = qryV q := Array.toList_inj.1 (qry_cells (qry_le.2 hq))
  exact cacheRises_walk (q := q) (stp_le.C hL) rfl (fun b hb => hb) (stp_all hL)
end Go.Proofs.Ytkclceghhebfaaa
