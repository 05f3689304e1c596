import Derived.Test.YtcibdcahcpcmaaaFold32
/- Tokens, plainly: what is laid is read as it was; what is read is what lays these bytes. -/
namespace Go.Proofs.Ytcibdcahcpcmaaa
open Go.RowKit
set_option maxRecDepth 100000
set_option linter.unusedVariables false
theorem readTok_fwd {s : ByteArray} {nd inc idx : Nat} (hok : tokOk s nd = true) (h2 : inc < 4294967296) (h3 : idx < 18446744073709551616) : readTok (tokB s nd inc idx) = some (s, nd, inc, idx) := by
  have hok' := hok
  unfold tokOk nameB at hok'
  rw [Bool.and_eq_true, Bool.and_eq_true, decide_eq_true_iff, decide_eq_true_iff, strL_len] at hok'
  have hs : s.size ≤ 24 := hok'.1.1.2.1
  have hnd : nd ≤ 7 := by have := hok'.2; omega
  have e0 := rText_fwd (s := s) (most := 80) (by omega) (by omega) (numB nd ++ (numB inc ++ numB idx))
  have e1 := rNum_fwd (n := nd) (most := 255) (by omega) (by omega) (numB inc ++ numB idx)
  have e2 := rNum_fwd (n := inc) (most := 4294967295) (by omega) (by omega) (numB idx)
  have e3 := rNum_fwd (n := idx) (most := 18446744073709551615) h3 (by omega) []
  rw [List.append_nil] at e3
  rw [readTok, tokB, List.append_assoc, List.append_assoc, k0, e0, if_pos rfl, k1, e1, if_pos rfl, k2, e2, if_pos rfl, k3, e3, if_pos rfl, k4]
  show (if rDone [] 0 = 0 then k5 (s, nd, inc, idx) [] else none) = _
  rw [if_pos (by rfl), k5]
  exact if_pos hok
theorem num_some {bs : List UInt8} {most : Nat} (h : (rNum true bs 0 most).2.2 = 0) : bs = numB (rNum true bs 0 most).1 ++ (rNum true bs 0 most).2.1 ∧ (rNum true bs 0 most).1 < 18446744073709551616 := by
  obtain ⟨n, bs', e', hr⟩ : ∃ n bs' e', rNum true bs 0 most = (n, bs', e') := ⟨_, _, _, rfl⟩
  rw [hr] at h ⊢
  simp only at h
  subst h
  exact rNum_bwd hr
theorem text_some {bs : List UInt8} {most : Int} (h : (rText true bs 0 most).2.2 = 0) : bs = txtB (rText true bs 0 most).1 ++ (rText true bs 0 most).2.1 := by
  obtain ⟨n, bs', e', hr⟩ : ∃ n bs' e', rText true bs 0 most = (n, bs', e') := ⟨_, _, _, rfl⟩
  rw [hr] at h ⊢
  simp only at h
  subst h
  exact (rText_bwd hr).1
theorem readTok_bwd {bs : List UInt8} {T : Tok} (h : readTok bs = some T) : bs = tokB T.1 T.2.1 T.2.2.1 T.2.2.2 ∧ tokOk T.1 T.2.1 = true ∧ T.2.2.1 ≤ 4294967295 ∧ T.2.2.2 < 18446744073709551616 := by
  unfold readTok k0 at h
  split at h
  · rename_i h0
    unfold k1 at h
    split at h
    · rename_i h1
      unfold k2 at h
      split at h
      · rename_i h2
        unfold k3 at h
        split at h
        · rename_i h3
          unfold k4 at h
          split at h
          · rename_i h4
            unfold k5 at h
            split at h
            · rename_i h5
              unfold k6 at h
              simp only [Option.some.injEq] at h
              subst h
              have e0 := text_some h0
              have e1 := num_some h1
              have e2 := num_some h2
              have e3 := num_some h3
              have l2 := rNum_le true (rNum true (rText true bs 0 80).2.1 0 255).2.1 0 4294967295
              refine ⟨?_, h5, l2, e3.2⟩
              have e4 : (rNum true (rNum true (rNum true (rText true bs 0 80).2.1 0 255).2.1 0 4294967295).2.1 0 18446744073709551615).2.1 = [] := by
                unfold rDone at h4
                simp only [ne_eq, not_true_eq_false, if_false] at h4
                split at h4
                · cases h4
                · rename_i h6
                  exact List.eq_nil_of_length_eq_zero (by omega)
              rw [e4] at e3
              have f2 := e2.1.trans (congrArg _ e3.1)
              have f1 := e1.1.trans (congrArg _ f2)
              have f0 := e0.trans (congrArg _ f1)
              rw [List.append_nil] at f0
              show bs = tokB _ _ _ _
              unfold tokB
              rw [List.append_assoc, List.append_assoc]
              exact f0
            · cases h
          · cases h
        · cases h
      · cases h
    · cases h
  · cases h
/-- The reference's reading: no step is left out, an error stays. -/
def refTok (bs : List UInt8) : Option Tok :=
  let a := rText true bs 0 80
  let b := rNum true a.2.1 a.2.2 255
  let c := rNum true b.2.1 b.2.2 4294967295
  let d := rNum true c.2.1 c.2.2 18446744073709551615
  if rDone d.2.1 d.2.2 = 0 ∧ tokOk a.1 b.1 = true then some (a.1, b.1, c.1, d.1) else none
theorem stuck {bs : List UInt8} {e most : Nat} (h : e ≠ 0) : (rNum true bs e most).2.2 ≠ 0 := by
  rw [rNum, if_neg (fun hh => h hh.2)]
  exact h
theorem done_stuck {bs : List UInt8} {e : Nat} (h : e ≠ 0) : rDone bs e ≠ 0 := by
  rw [rDone, if_pos h]
  exact h
theorem refTok_eq (bs : List UInt8) : refTok bs = readTok bs := by
  unfold refTok readTok k0
  by_cases h0 : (rText true bs 0 80).2.2 = 0
  · rw [if_pos h0]
    unfold k1
    simp only [h0]
    by_cases h1 : (rNum true (rText true bs 0 80).2.1 0 255).2.2 = 0
    · rw [if_pos h1]
      unfold k2
      simp only [h1]
      by_cases h2 : (rNum true (rNum true (rText true bs 0 80).2.1 0 255).2.1 0 4294967295).2.2 = 0
      · rw [if_pos h2]
        unfold k3
        simp only [h2]
        by_cases h3 : (rNum true (rNum true (rNum true (rText true bs 0 80).2.1 0 255).2.1 0 4294967295).2.1 0 18446744073709551615).2.2 = 0
        · rw [if_pos h3]
          unfold k4 k5 k6
          simp only [h3]
          by_cases h4 : rDone (rNum true (rNum true (rNum true (rText true bs 0 80).2.1 0 255).2.1 0 4294967295).2.1 0 18446744073709551615).2.1 0 = 0
          · rw [if_pos h4]
            simp only [h4, true_and]
          · rw [if_neg h4, if_neg (fun h => h4 h.1)]
        · rw [if_neg h3, if_neg (fun h => done_stuck h3 h.1)]
      · rw [if_neg h2, if_neg (fun h => done_stuck (stuck h2) h.1)]
    · rw [if_neg h1, if_neg (fun h => done_stuck (stuck (stuck h1)) h.1)]
  · rw [if_neg h0, if_neg (fun h => done_stuck (stuck (stuck (stuck h0))) h.1)]
end Go.Proofs.Ytcibdcahcpcmaaa
