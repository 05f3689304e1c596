import Derived.Test.YtcibdcahcpcmaaaFold07
import Derived.Test.YtcibdcahcpcmaaaFold12
import Derived.Lib.Bytealg
/- What strings.Cut answers at a slash, and the cutter's next. -/
namespace Go.Proofs.Ytcibdcahcpcmaaa
open Go.RowKit
set_option maxRecDepth 100000
set_option linter.unusedVariables false
set_option linter.unusedSimpArgs false
theorem byte47 (b : UInt8) : (b == (47 : UInt8)) = decide (b.toNat = 47) := by
  rw [Bool.eq_iff_iff, decide_eq_true_iff, beq_iff_eq, ← UInt8.toNat_inj]
  rfl
/-- Where the first slash is. -/
theorem slash_at : ∀ l : List UInt8, (Lib.indexByte l 47 = -1 ∧ ∀ c ∈ l, c.toNat ≠ 47) ∨ ∃ i : Nat, Lib.indexByte l 47 = i ∧ i < l.length ∧ l = l.take i ++ (47 : UInt8) :: l.drop (i + 1) ∧ ∀ c ∈ l.take i, c.toNat ≠ 47
  | [] => .inl ⟨rfl, fun c hc => by simp at hc⟩
  | b :: l => by
    unfold Lib.indexByte
    rw [byte47]
    by_cases hb : b.toNat = 47
    · refine .inr ⟨0, by rw [decide_eq_true hb]; rfl, by simp, ?_, fun c hc => by simp at hc⟩
      have : b = 47 := UInt8.toNat_inj.1 hb
      subst this
      rfl
    · rw [decide_eq_false hb]
      rcases slash_at l with ⟨h1, h2⟩ | ⟨i, h1, h2, h3, h4⟩
      · refine .inl ⟨by rw [h1]; rfl, fun c hc => ?_⟩
        rcases List.mem_cons.1 hc with rfl | hc
        · exact hb
        · exact h2 c hc
      · refine .inr ⟨i + 1, ?_, by simp; omega, ?_, fun c hc => ?_⟩
        · rw [h1]
          have : ((i : Int) == -1) = false := by rw [beq_eq_false_iff_ne]; omega
          rw [this]
          simp
        · rw [List.take_succ_cons, List.drop_succ_cons, List.cons_append, ← h3]
        · rw [List.take_succ_cons] at hc
          rcases List.mem_cons.1 hc with rfl | hc
          · exact hb
          · exact h4 c hc
/-- A text cut at its first slash. -/
def CutAt (l p r : List UInt8) (more : Bool) : Prop := (∀ c ∈ p, c.toNat ≠ 47) ∧ ((more = true ∧ l = p ++ (47 : UInt8) :: r) ∨ (more = false ∧ l = p ∧ r = []))
theorem k_idxb {w : World} (s : ByteArray) : Calls Try.prog 95 #[.string s, .int .u8 47] w fun e w' => e = .returned (.int .i64 (Lib.indexByte s.data.toList 47)) ∧ w' = w := by
  go_enter Try.func95, Try.ntmps95
  go_wp2
  rw [run_callFunc_extern Try.func99 (by kernel_rfl) (by kernel_rfl) (by kernel_rfl) (e := Extern.BytealgIndexByte.indexByte) (by kernel_rfl), Lib.run_indexByteString]
  simp only [Result.andThen]
  rw [Oper.upon_value]
  go_wp2
  go_ret
  exact ⟨rfl, rfl⟩
theorem k_index {w : World} (s : ByteArray) : Calls Try.prog 94 #[.string s, .string ⟨#[47]⟩] w fun e w' => e = .returned (.int .i64 (Lib.indexByte s.data.toList 47)) ∧ w' = w := by
  go_enter Try.func94, Try.ntmps94
  go_wp2_with (refine (k_idxb _).mono ?_; rintro e w2 ⟨rfl, rfl⟩)
  all_goals try (go_ret; first | exact ⟨rfl, rfl⟩ | skip)
  · have h : ([47] == s.toList) = true := by assumption
    refine ⟨?_, rfl⟩
    have e : s.data.toList = [47] := by rw [← Lib.toList_data]; exact (beq_iff_eq.1 h).symm
    rw [e]
    simp [Lib.indexByte]
theorem k_cut0 {w : World} (s : ByteArray) (hs : s.size ≤ 9223372036854775807) : Calls Try.prog 93 #[.string s, .string ⟨#[47]⟩] w fun e w' => ∃ p r more, e = .returned (.tuple #[.string p, .string r, .bool more]) ∧ CutAt (strL s) (strL p) (strL r) more ∧ Chg nob w w' := by
  rcases slash_at s.data.toList with ⟨h1, h2⟩ | ⟨i, h1, h2, h3, h4⟩
  · have H2 := Lib.hid h2
    clear h2
    go_enter Try.func93, Try.ntmps93
    go_wp2_with (refine (k_index _).mono ?_; rintro e w2 ⟨rfl, rfl⟩; rw [h1])
    go_ret3
    exact ⟨_, _, _, rfl, ⟨H2.out, .inr ⟨rfl, rfl, rfl⟩⟩, Chg.refl _ _⟩
  · have hl : s.data.toList.length = s.size := by simp
    have c1 : (0 : Int) ≤ ↑i := by omega
    have c2 : (↑i : Int) ≤ ↑s.size := by omega
    have c3 : (0 : Int) ≤ ↑i + 1 := by omega
    have c4 : (↑i + 1 : Int) ≤ ↑s.size := by omega
    have HE : Hid (CutAt (strL s) (strL (s.extract 0 i)) (strL (s.extract (i + 1) s.size)) true) := by
      have e1 : strL (s.extract 0 i) = (strL s).take i := by unfold strL; rw [ByteArray.data_extract, Array.toList_extract]; simp
      have e2 : strL (s.extract (i + 1) s.size) = (strL s).drop (i + 1) := by
        unfold strL
        rw [ByteArray.data_extract, Array.toList_extract]
        simp only [List.extract_eq_take_drop]
        exact List.take_of_length_le (by rw [List.length_drop, hl]; exact Nat.le_refl _)
      show CutAt _ _ _ _
      rw [e1, e2]
      exact ⟨h4, .inl ⟨rfl, h3⟩⟩
    clear h2 h3 h4 hl
    go_enter Try.func93, Try.ntmps93
    go_wp2_with (refine (k_index _).mono ?_; rintro e w2 ⟨rfl, rfl⟩; rw [h1])
    go_quiet (fail)
    go_wp2
    go_ret3
    exact ⟨_, _, _, rfl, HE.out, (Chg.refl _ _).drewN _⟩
theorem k_cut {w : World} (s : ByteArray) (hs : s.size ≤ 9223372036854775807) : Calls Try.prog 90 #[.string s, .string ⟨#[47]⟩] w fun e w' => ∃ p r more, e = .returned (.tuple #[.string p, .string r, .bool more]) ∧ CutAt (strL s) (strL p) (strL r) more ∧ Chg nob w w' := by
  go_enter Try.func90, Try.ntmps90
  go_wp2_with fail
  refine (k_cut0 s hs).mono ?_
  rintro e w2 ⟨p, r, more, rfl, hc, hw⟩
  have HC := Lib.hid hc
  have HW := Lib.hid hw
  clear hc hw
  go_wp2
  go_ret3
  exact ⟨p, r, more, rfl, HC.out, HW.out⟩
/-- Block g is a cutter, with this rest. -/
def CutBox (w : World) (g : Nat) (s : ByteArray) : Prop := w.heap[g]? = some (.cells #[.string s] 153 (0, 0))
theorem k_next {w : World} {g : Nat} {s : ByteArray} (h : CutBox w g s) (hs : s.size ≤ 9223372036854775807) : Calls Try.prog 85 #[.pointer (some ⟨g, 0, none⟩)] w fun e w' => ∃ p r more, e = .returned (.tuple #[.string p, .bool more]) ∧ CutAt (strL s) (strL p) (strL r) more ∧ CutBox w' g r ∧ Chg (fun b => b = g) w w' := by
  have HB := Lib.hid h
  have q0 : w.cell? ⟨g, 0, none⟩ = some (.string s) := by rw [cell_of_row _ _ _ _ _ _ h]; rfl
  clear h
  go_enter Try.func85, Try.ntmps85
  go_wp2_with fail
  refine (k_cut s hs).mono ?_
  rintro e w2 ⟨p, r, more, rfl, hc, hw⟩
  have HC := Lib.hid hc
  have HW := Lib.hid hw
  have hb := hw.heap HB.out (not_nob _)
  have q1 : w2.cell? ⟨g, 0, none⟩ = some (.string s) := by rw [cell_of_row _ _ _ _ _ _ hb]; rfl
  have f1 : w2.frozen? ⟨g, 0, none⟩ = false := by simp [World.frozen?, hb]
  have HB1 := Lib.hid hb
  clear hc hw hb q0
  go_wp2
  go_ret2
  refine ⟨p, r, more, rfl, HC.out, ?_, (HW.out.ofNew).set1 _ _⟩
  have := HB1.out
  simp [CutBox, World.setCell, Array.getElem?_modify, this]
#print axioms k_next
end Go.Proofs.Ytcibdcahcpcmaaa
