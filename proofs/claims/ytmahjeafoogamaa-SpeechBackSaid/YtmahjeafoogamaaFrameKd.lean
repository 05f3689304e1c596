/- Frames in memory: what an element's cells say. -/
import Derived.Test.YtmahjeafoogamaaFramePut
namespace Go.Proofs.Ytmahjeafoogamaa
open Go.RowKit
set_option linter.unusedVariables false
abbrev frK : Kd (UInt8 × List UInt8) := Kd.pair Kd.byte (Kd.slice Kd.byte)
theorem fr_cells {w : World} {ok : Nat → Prop} {x : UInt8 × List UInt8} {cs : List Value} (h : frK.K w ok x cs) :
    ∃ B d, cs = [.int .u8 x.1.toNat, .slice B x.2.length d] ∧ Kd.byte.C w ok B x.2 ∧ x.2.length ≤ d := by
  obtain ⟨c0, c1, rfl, h0, ⟨B, d, rfl, hl, h2⟩⟩ := h
  have h0' : c0 = [.int .u8 x.1.toNat] := h0
  subst h0'
  exact ⟨B, d, rfl, h2, hl⟩
theorem frK_mk {w : World} {ok : Nat → Prop} {B : Option Addr} {d : Nat} {f : UInt8 × List UInt8} {m : Nat} (hb : Kd.byte.C w ok B f.2) (hm : f.2.length = m) (hd : m ≤ d) : frK.K w ok f (#[.int .u8 f.1.toNat, .slice B m d] : Array Value).toList := by
  subst hm
  exact ⟨[.int .u8 f.1.toNat], _, rfl, rfl, B, d, rfl, hd, hb⟩
theorem fr_at {w : World} {ok : Nat → Prop} {A : Option Addr} {xs : List (UInt8 × List UInt8)} (h : frK.C w ok A xs) {j : Nat} {x : UInt8 × List UInt8} (hx : xs[j]? = some x) :
    ∃ b o B d, A = some ⟨b, o, none⟩ ∧ ok b ∧ w.cell? ⟨b, o + j * 2, none⟩ = some (.int .u8 x.1.toNat) ∧ w.cell? ⟨b, o + j * 2 + 1, none⟩ = some (.slice B x.2.length d) ∧ x.2.length ≤ d ∧ Kd.byte.C w ok B x.2 := by
  obtain ⟨b, o, c, e, hb, hk, hc⟩ := Kd.C_at' h hx
  obtain ⟨c0, c1, rfl, h0, ⟨B, d, rfl, hl, h2⟩⟩ := hk
  have h0' : c0 = [.int .u8 x.1.toNat] := h0
  subst h0'
  exact ⟨b, o, B, d, e, hb, hc 0 _ rfl, hc 1 _ rfl, hl, h2⟩
end Go.Proofs.Ytmahjeafoogamaa
