/- Arrays of two and of four whole numbers, read as data. -/
import Derived.Test.YtoiikjojknnobaaOpen
namespace Go.Proofs.Ytoiikjojknnobaa
open Go.RowKit Go.ChangeShapes Go.WideShapes Go.ChangeAt
set_option linter.unusedVariables false
theorem okWide_array {P : Program} {w : World} {r : Reach} {base : Nat} {t e : TypeId} {n : Nat} {v : Value} (ht : P.underlying t = some (.array n e)) (h : Value.okWide P w r base t v) : ∃ cs, v = .agg cs ∧ cs.size = P.cellsOf t := by
  simp only [Value.okWide, ht] at h
  obtain ⟨cs, h1, h2, _⟩ := h
  exact ⟨cs, h1, h2⟩
abbrev intA (k : IntKind) : Kd Int := Kd.such (Kd.int k) (fun x => (Lit.int k x).wf = true)
theorem opens_ints2 {P : Program} {t e : TypeId} {k : IntKind} (ht : P.underlying t = some (.array 2 e)) (hc : P.cellsOf t = 2) (he : P.underlying e = some (.int k)) (hce : P.cellsOf e = 1) : Opens P (Kd.pair (intA k) (intA k)) t (fun _ => 0) := by
  refine ⟨hc, fun enc w n cs x hx => ?_⟩
  obtain ⟨xs, m, _, rfl, hl, h2, h3⟩ := DataW.trod_array ht hx
  rw [hc] at hl
  rw [hce] at h3
  match cs, hl with
  | [c0, c1], _ =>
    have o := (opens_int (k := k) he hce).2 enc w m
    have a0 := h3 0 (by decide)
    have a1 := h3 1 (by decide)
    simp at a0 a1
    rw [List.getElem?_eq_getElem (by omega)] at a0 a1
    obtain ⟨y0, k0, _⟩ := o _ _ a0
    obtain ⟨y1, k1, _⟩ := o _ _ a1
    exact ⟨(y0, y1), ⟨_, _, rfl, k0, k1⟩, Nat.zero_le _⟩
theorem opens_ints4 {P : Program} {t e : TypeId} {k : IntKind} (ht : P.underlying t = some (.array 4 e)) (hc : P.cellsOf t = 4) (he : P.underlying e = some (.int k)) (hce : P.cellsOf e = 1) : Opens P (Kd.pair (intA k) (Kd.pair (intA k) (Kd.pair (intA k) (intA k)))) t (fun _ => 0) := by
  refine ⟨hc, fun enc w n cs x hx => ?_⟩
  obtain ⟨xs, m, _, rfl, hl, h2, h3⟩ := DataW.trod_array ht hx
  rw [hc] at hl
  rw [hce] at h3
  match cs, hl with
  | [c0, c1, c2, c3], _ =>
    have o := (opens_int (k := k) he hce).2 enc w m
    have a0 := h3 0 (by decide)
    have a1 := h3 1 (by decide)
    have a2 := h3 2 (by decide)
    have a3 := h3 3 (by decide)
    simp at a0 a1 a2 a3
    rw [List.getElem?_eq_getElem (by omega)] at a0 a1 a2 a3
    obtain ⟨y0, k0, _⟩ := o _ _ a0
    obtain ⟨y1, k1, _⟩ := o _ _ a1
    obtain ⟨y2, k2, _⟩ := o _ _ a2
    obtain ⟨y3, k3, _⟩ := o _ _ a3
    exact ⟨(y0, y1, y2, y3), ⟨_, _, rfl, k0, _, _, rfl, k1, _, _, rfl, k2, k3⟩, Nat.zero_le _⟩
theorem ints2_cells {w : World} {ok : Nat → Prop} {x : Int × Int} {cs : Array Value} (h : (Kd.pair (intA .u64) (intA .u64)).K w ok x cs.toList) :
    ∃ a b : Nat, cs = #[.int .u64 a, .int .u64 b] ∧ a < 18446744073709551616 ∧ b < 18446744073709551616 := by
  obtain ⟨c0, c1, hcs, ⟨h0, r0⟩, h1, r1⟩ := h
  have h0' : c0 = [.int .u64 x.1] := h0
  have h1' : c1 = [.int .u64 x.2] := h1
  subst h0' h1'
  have q0 := wf_u64 r0
  have q1 := wf_u64 r1
  obtain ⟨a, ha⟩ := Int.eq_ofNat_of_zero_le q0.1
  obtain ⟨b, hb⟩ := Int.eq_ofNat_of_zero_le q1.1
  rw [ha, hb] at hcs
  exact ⟨a, b, by cases cs; simpa using hcs, by omega, by omega⟩
theorem ints4_cells {w : World} {ok : Nat → Prop} {x : Int × Int × Int × Int} {cs : Array Value} (h : (Kd.pair (intA .u64) (Kd.pair (intA .u64) (Kd.pair (intA .u64) (intA .u64)))).K w ok x cs.toList) :
    ∃ a b c d : Nat, cs = #[.int .u64 a, .int .u64 b, .int .u64 c, .int .u64 d] ∧ a < 18446744073709551616 ∧ b < 18446744073709551616 ∧ c < 18446744073709551616 ∧ d < 18446744073709551616 := by
  obtain ⟨c0, _, hcs, ⟨h0, r0⟩, c1, _, rfl, ⟨h1, r1⟩, c2, c3, rfl, ⟨h2, r2⟩, h3, r3⟩ := h
  have h0' : c0 = [.int .u64 x.1] := h0
  have h1' : c1 = [.int .u64 x.2.1] := h1
  have h2' : c2 = [.int .u64 x.2.2.1] := h2
  have h3' : c3 = [.int .u64 x.2.2.2] := h3
  subst h0' h1' h2' h3'
  have q0 := wf_u64 r0
  have q1 := wf_u64 r1
  have q2 := wf_u64 r2
  have q3 := wf_u64 r3
  obtain ⟨a, ha⟩ := Int.eq_ofNat_of_zero_le q0.1
  obtain ⟨b, hb⟩ := Int.eq_ofNat_of_zero_le q1.1
  obtain ⟨c, hc⟩ := Int.eq_ofNat_of_zero_le q2.1
  obtain ⟨d, hd⟩ := Int.eq_ofNat_of_zero_le q3.1
  rw [ha, hb, hc, hd] at hcs
  exact ⟨a, b, c, d, by cases cs; simpa using hcs, by omega, by omega, by omega, by omega⟩
end Go.Proofs.Ytoiikjojknnobaa
