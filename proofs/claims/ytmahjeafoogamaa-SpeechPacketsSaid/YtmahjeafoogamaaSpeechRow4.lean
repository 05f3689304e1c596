/- Lists of messages as arguments within the form's reach, as they are read. -/
import Derived.Test.YtmahjeafoogamaaSpeechBack
import Derived.Test.YtmahjeafoogamaaSpeechRow
import Derived.Test.YtmahjeafoogamaaOpenS
namespace Go.Proofs.Ytmahjeafoogamaa
open Go.RowKit
set_option linter.unusedVariables false
abbrev msS : Kd Ms := Kd.pair (wfI .i64) (Kd.pair (wfI .u32) (Kd.pair (wfI .i64) (Kd.pair (wfI .i64) (Kd.pair Kd.bool (Kd.such (Kd.slice updW) (fun l => l.length * 24 ≤ 140737488351232))))))
theorem msS_K {w : World} {ok : Nat → Prop} {x : Ms} {cs : List Value} (h : msS.K w ok x cs) : msK.K w ok x cs ∧ wfM x := by
  obtain ⟨c0, _, rfl, h0, c1, _, rfl, h1, c2, _, rfl, h2, c3, _, rfl, h3, c4, c5, rfl, h4, ⟨⟨B, d, rfl, hl, h5⟩, _⟩⟩ := h
  exact ⟨⟨c0, _, rfl, h0.1, c1, _, rfl, h1.1, c2, _, rfl, h2.1, c3, _, rfl, h3.1, c4, _, rfl, h4, B, d, rfl, hl, (updW_C h5).1⟩, wf_u32 h1.2, (updW_C h5).2⟩
theorem msS_C {w : World} {ok : Nat → Prop} {A : Option Addr} {xs : List Ms} (h : msS.C w ok A xs) : msK.C w ok A xs ∧ ∀ m ∈ xs, wfM m := by
  refine ⟨?_, fun u hu => ?_⟩
  · obtain ⟨h1, inner, hr, hc⟩ := h
    exact ⟨h1, inner, hr.imp (fun x c hx => (msS_K hx).1), hc⟩
  · obtain ⟨j, hj⟩ := List.getElem?_of_mem hu
    obtain ⟨b, o, c, _, _, hk, _⟩ := Kd.C_at' h hj
    exact (msS_K hk).2
theorem speechBack_row {w : World} {A : Option Addr} {c : Nat} {l : List Ms} (h : msS.C w (fun b => b < w.heap.size) A l) (hz : l.length * 64 ≤ 140737488351232) :
    Calls Try.prog 7 #[.slice A l.length c] w fun e w' => e = .returned (.bool true) ∧ Chg nob w w' := speechBack_walk (msS_C h).1 rfl (msS_C h).2 (by omega)
theorem speechPackets_row {w : World} {A B : Option Addr} {c d : Nat} {l : List Ms} {bs : List UInt8} (h : msS.C w (fun b => b < w.heap.size) A l) (hz : l.length * 64 ≤ 140737488351232) (hb : Kd.byte.C w (fun b => b < w.heap.size) B bs) (hd : bs.length ≤ d) :
    Calls Try.prog 6 #[.slice A l.length c, .slice B bs.length d] w fun e w' => e = .returned (.bool true) ∧ Chg nob w w' := speechPackets_walk (msS_C h).1 rfl (msS_C h).2 (by omega) hb rfl hd
end Go.Proofs.Ytmahjeafoogamaa
