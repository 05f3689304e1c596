/- Questions: two are compared. -/
import Derived.Test.YtkclceghhebfaaaApi
import Derived.Laws.StructEq
namespace Go.Proofs.Ytkclceghhebfaaa
open Go.RowKit
set_option linter.unusedVariables false
set_option linter.unusedSimpArgs false
/-- The cells of a question. -/
def qryV (q : Qry) : Array Value := #[.int .i64 q.1, .int .i64 q.2.1, .string q.2.2.1, .string q.2.2.2.1, .string q.2.2.2.2.1, .bool q.2.2.2.2.2]
theorem qry_mk {w : World} {ok : Nat → Prop} (q : Qry) : qryK.K w ok q (qryV q).toList := ⟨[_], _, rfl, rfl, [_], _, rfl, rfl, [_], _, rfl, rfl, [_], _, rfl, rfl, [_], [_], rfl, rfl, rfl⟩
theorem qry_cells {w : World} {ok : Nat → Prop} {q : Qry} {cs : List Value} (h : qryK.K w ok q cs) : cs = (qryV q).toList := by
  obtain ⟨c0, _, e, h0, c1, _, rfl, h1, c2, _, rfl, h2, c3, _, rfl, h3, c4, c5, rfl, h4, h5⟩ := h
  have h0' : c0 = [.int .i64 q.1] := h0
  have h1' : c1 = [.int .i64 q.2.1] := h1
  have h2' : c2 = [.string q.2.2.1] := h2
  have h3' : c3 = [.string q.2.2.2.1] := h3
  have h4' : c4 = [.string q.2.2.2.2.1] := h4
  have h5' : c5 = [.bool q.2.2.2.2.2] := h5
  subst h0' h1' h2' h3' h4' h5'
  exact e
theorem Kd.Flat.pair {α β : Type} {a : Kd α} {b : Kd β} (h : a.Flat) (k : b.Flat) : (Kd.pair a b).Flat := fun ⟨c0, c1, e, h0, h1⟩ => ⟨c0, c1, e, h h0, k h1⟩
theorem qry_flat : qryK.Flat := Kd.Flat.pair Kd.scalar_flat (Kd.Flat.pair Kd.scalar_flat (Kd.Flat.pair Kd.scalar_flat (Kd.Flat.pair Kd.scalar_flat (Kd.Flat.pair Kd.scalar_flat Kd.scalar_flat))))
theorem qry_info : (Try.prog.info? 34).map (fun i => (i.zero, i.size, i.bytes)) = some (some (.agg #[.int .i64 0, .int .i64 0, .string ByteArray.empty, .string ByteArray.empty, .string ByteArray.empty, .bool false]), qryK.sz, 72) := by kernel_rfl
/-- Whether two are the same. -/
def qEq (Q R : Qry) : Bool := decide (Q.1 = R.1 ∧ Q.2.1 = R.2.1 ∧ Q.2.2.1 = R.2.2.1 ∧ Q.2.2.2.1 = R.2.2.2.1 ∧ Q.2.2.2.2.1 = R.2.2.2.2.1 ∧ Q.2.2.2.2.2 = R.2.2.2.2.2)
theorem qEq_iff {Q R : Qry} : qEq Q R = true ↔ Q = R := by
  unfold qEq
  rw [decide_eq_true_iff]
  constructor
  · rintro ⟨h1, h2, h3, h4, h5, h6⟩
    obtain ⟨a1, a2, a3, a4, a5, a6⟩ := Q
    obtain ⟨b1, b2, b3, b4, b5, b6⟩ := R
    simp only at h1 h2 h3 h4 h5 h6
    subst h1 h2 h3 h4 h5 h6
    rfl
  · rintro rfl
    exact ⟨rfl, rfl, rfl, rfl, rfl, rfl⟩
theorem qEq_self (Q : Qry) : qEq Q Q = true := qEq_iff.2 rfl
theorem ba_eqL {a b : ByteArray} : (a.toList = b.toList) = (a = b) := by
  refine propext ⟨fun h => ?_, fun h => by rw [h]⟩
  have := str_eq a b
  rw [h] at this
  simpa using this.symm
theorem eqQry (Q R : Qry) (w : World) : (Op.equalIn 10000 34 (.agg (qryV Q)) (.agg (qryV R))).run Try.prog w = .ok (qEq Q R) w := by
  have u1 := Try.underlying9
  have u2 := Try.underlying3
  have u3 := Try.underlying4
  obtain ⟨a1, a2, a3, a4, a5, a6⟩ := Q
  obtain ⟨b1, b2, b3, b4, b5, b6⟩ := R
  unfold qryV
  rw [show (10000 : Nat) = 9999 + 1 from rfl]
  rw [run_equalIn_agg w 9999 _ _ _ (by kernel_rfl) (by kernel_rfl)]
  simp only [Program.fieldsOf, Try.underlying34]
  go_simp
  simp only [ba_eqL, qEq]
  by_cases h1 : a1 = b1
  · by_cases h2 : a2 = b2
    · by_cases h3 : a3 = b3
      · by_cases h4 : a4 = b4
        · by_cases h5 : a5 = b5
          · by_cases h6 : a6 = b6 <;> simp [h1, h2, h3, h4, h5, h6]
          · simp [h1, h2, h3, h4, h5]
        · simp [h1, h2, h3, h4]
      · simp [h1, h2, h3]
    · simp [h1, h2]
  · simp [h1]
theorem neqQry (Q R : Qry) (w : World) : (binOp .neq 34 (.agg (qryV Q)) (.agg (qryV R))).run Try.prog w = .ok (.bool (!qEq Q R)) w := by
  rw [run_neq_struct, eqQry]
  rfl
theorem eqlQry (Q R : Qry) (w : World) : (binOp .eql 34 (.agg (qryV Q)) (.agg (qryV R))).run Try.prog w = .ok (.bool (qEq Q R)) w := by
  rw [run_eql_struct, eqQry]
  rfl
end Go.Proofs.Ytkclceghhebfaaa
