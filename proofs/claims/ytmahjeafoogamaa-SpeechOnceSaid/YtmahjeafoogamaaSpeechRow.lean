/- Messages as arguments, as they are read. -/
import Derived.Test.YtmahjeafoogamaaSpeechPuts
import Derived.Test.YtmahjeafoogamaaOpen
namespace Go.Proofs.Ytmahjeafoogamaa
open Go.RowKit
set_option linter.unusedVariables false
abbrev wfI (k : IntKind) : Kd Int := Kd.such (Kd.int k) (fun x => (Lit.int k x).wf = true)
abbrev updW : Kd Upd := Kd.pair (wfI .i64) (Kd.pair (wfI .u32) (wfI .i64))
abbrev msW : Kd Ms := Kd.pair (wfI .i64) (Kd.pair (wfI .u32) (Kd.pair (wfI .i64) (Kd.pair (wfI .i64) (Kd.pair Kd.bool (Kd.slice updW)))))
theorem updW_K {w : World} {ok : Nat → Prop} {x : Upd} {cs : List Value} (h : updW.K w ok x cs) : updK.K w ok x cs ∧ 0 ≤ x.2.1 ∧ x.2.1 < 4294967296 := by
  obtain ⟨c0, c1, rfl, h0, c2, c3, rfl, h2, h3⟩ := h
  exact ⟨⟨c0, _, rfl, h0.1, c2, c3, rfl, h2.1, h3.1⟩, wf_u32 h2.2⟩
theorem updW_C {w : World} {ok : Nat → Prop} {A : Option Addr} {xs : List Upd} (h : updW.C w ok A xs) : updK.C w ok A xs ∧ ∀ u ∈ xs, 0 ≤ u.2.1 ∧ u.2.1 < 4294967296 := by
  refine ⟨?_, fun u hu => ?_⟩
  · obtain ⟨h1, inner, hr, hc⟩ := h
    exact ⟨h1, inner, hr.imp (fun x c hx => (updW_K hx).1), hc⟩
  · obtain ⟨j, hj⟩ := List.getElem?_of_mem hu
    obtain ⟨b, o, c, _, _, hk, _⟩ := Kd.C_at' h hj
    exact (updW_K hk).2
theorem ms_arg {w : World} {ok : Nat → Prop} {x : Ms} {cs : Array Value} (h : msW.K w ok x cs.toList) : ∃ B d, cs = msV x B x.2.2.2.2.2.length d ∧ updK.C w ok B x.2.2.2.2.2 ∧ x.2.2.2.2.2.length ≤ d ∧ wfM x := by
  obtain ⟨c0, _, e, h0, c1, _, rfl, h1, c2, _, rfl, h2, c3, _, rfl, h3, c4, c5, rfl, h4, ⟨B, d, rfl, hl, h5⟩⟩ := h
  have h0' : c0 = [.int .i64 x.1] := h0.1
  have h1' : c1 = [.int .u32 x.2.1] := h1.1
  have h2' : c2 = [.int .i64 x.2.2.1] := h2.1
  have h3' : c3 = [.int .i64 x.2.2.2.1] := h3.1
  have h4' : c4 = [.bool x.2.2.2.2.1] := h4
  subst h0' h1' h2' h3' h4'
  refine ⟨B, d, ?_, (updW_C h5).1, hl, wf_u32 h1.2, (updW_C h5).2⟩
  cases cs
  simpa using e
theorem speechPuts_row {w : World} {x : Ms} {cs : Array Value} (h : msW.K w (fun b => b < w.heap.size) x cs.toList) :
    Calls Try.prog 3 #[.agg cs] w fun e w' => e = .returned (.bool true) ∧ Chg nob w w' := by
  obtain ⟨B, d, rfl, hb, _, hw⟩ := ms_arg h
  exact speechPuts_walk hb rfl hw
end Go.Proofs.Ytmahjeafoogamaa
