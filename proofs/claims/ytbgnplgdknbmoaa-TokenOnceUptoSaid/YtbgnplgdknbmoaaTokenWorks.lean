/- Tokens: Check and Read as plain functions; a token is issued, and checked. -/
import Derived.Test.YtbgnplgdknbmoaaTokenRefCheck
import Derived.Test.YtbgnplgdknbmoaaTokenPlain
import Derived.Laws.StructEq
namespace Go.Proofs.Ytbgnplgdknbmoaa
open Go.RowKit
set_option linter.unusedVariables false
set_option linter.unusedSimpArgs false
def redR (bs : List UInt8) : Tok × Nat := if bs.length < 8 then (zeroT, 40) else match readTok (bs.take (bs.length - 8)) with | none => (zeroT, 40) | some T => (T, 0)
def chkR (k0 k1 : Nat) (bs : List UInt8) : Tok × Nat := if bs.length < 8 then (zeroT, 40) else match readTok (bs.take (bs.length - 8)) with | none => (zeroT, 40) | some T => if bs.drop (bs.length - 8) = beB (sumN k0 k1 (bs.take (bs.length - 8))) then (T, 0) else (zeroT, 60)
def Tell (w : World) (R : Tok × Nat) (e : Ending) (w' : World) : Prop := e = .returned (.tuple #[.agg (tokV R.1), .int .i64 R.2]) ∧ Chg nob w w'
theorem redR_few {bs : List UInt8} (h : bs.length < 8) : redR bs = (zeroT, 40) := if_pos h
theorem chkR_few {k0 k1 : Nat} {bs : List UInt8} (h : bs.length < 8) : chkR k0 k1 bs = (zeroT, 40) := if_pos h
theorem redR_none {bs : List UInt8} {p : Nat} (h : bs.length = p + 8) (hr : readTok (bs.take p) = none) : redR bs = (zeroT, 40) := by
  unfold redR; rw [if_neg (by omega), show bs.length - 8 = p from by omega, hr]
theorem redR_some {bs : List UInt8} {p : Nat} {T : Tok} (h : bs.length = p + 8) (hr : readTok (bs.take p) = some T) : redR bs = (T, 0) := by
  unfold redR; rw [if_neg (by omega), show bs.length - 8 = p from by omega, hr]
theorem chkR_none {k0 k1 : Nat} {bs : List UInt8} {p : Nat} (h : bs.length = p + 8) (hr : readTok (bs.take p) = none) : chkR k0 k1 bs = (zeroT, 40) := by
  unfold chkR; rw [if_neg (by omega), show bs.length - 8 = p from by omega, hr]
theorem chkR_some {k0 k1 : Nat} {bs : List UInt8} {p : Nat} {T : Tok} (h : bs.length = p + 8) (hr : readTok (bs.take p) = some T) (hd : bs.drop p = beB (sumN k0 k1 (bs.take p))) : chkR k0 k1 bs = (T, 0) := by
  unfold chkR; rw [if_neg (by omega), show bs.length - 8 = p from by omega, hr]; exact if_pos hd
theorem chkR_bad {k0 k1 : Nat} {bs : List UInt8} {p : Nat} {T : Tok} (h : bs.length = p + 8) (hr : readTok (bs.take p) = some T) (hd : ¬ bs.drop p = beB (sumN k0 k1 (bs.take p))) : chkR k0 k1 bs = (zeroT, 60) := by
  unfold chkR; rw [if_neg (by omega), show bs.length - 8 = p from by omega, hr]; exact if_neg hd
theorem c_read {w : World} {A : Option Addr} {m c : Nat} {bs : List UInt8} (hb : Kd.byte.C w (fun b => b < w.heap.size) A bs) (hm : bs.length = m) (hmc : m ≤ c) (hl : m ≤ 1000000000) :
    Calls Try.prog 14 #[.slice A m c] w (Tell w (redR bs)) := by
  by_cases h : m < 8
  · refine (t_read_few h).mono ?_
    rintro e w' ⟨hc, rfl⟩
    exact ⟨by rw [redR_few (by omega)]; rfl, hc⟩
  · obtain ⟨p, rfl⟩ : ∃ p, m = p + 8 := ⟨m - 8, by omega⟩
    refine (t_read hb hm hmc hl).mono ?_
    rintro e w' ⟨hc, ⟨T, hT, rfl⟩ | ⟨hT, rfl⟩⟩
    · exact ⟨by rw [redR_some hm hT]; rfl, hc⟩
    · exact ⟨by rw [redR_none hm hT]; rfl, hc⟩
theorem c_rread {w : World} {A : Option Addr} {m c : Nat} {bs : List UInt8} (hb : Kd.byte.C w (fun b => b < w.heap.size) A bs) (hm : bs.length = m) (hmc : m ≤ c) (hl : m ≤ 1000000000) :
    Calls Try.prog 15 #[.slice A m c] w (Tell w (redR bs)) := by
  by_cases h : m < 8
  · refine (tr_read_few h).mono ?_
    rintro e w' ⟨hc, rfl⟩
    exact ⟨by rw [redR_few (by omega)]; rfl, hc⟩
  · obtain ⟨p, rfl⟩ : ∃ p, m = p + 8 := ⟨m - 8, by omega⟩
    refine (tr_read hb hm hmc hl).mono ?_
    rintro e w' ⟨hc, ⟨T, hT, rfl⟩ | ⟨hT, rfl⟩⟩
    · exact ⟨by rw [redR_some hm hT]; rfl, hc⟩
    · exact ⟨by rw [redR_none hm hT]; rfl, hc⟩
theorem c_check {w : World} {k0 k1 : Nat} (h0 : k0 < 18446744073709551616) (h1 : k1 < 18446744073709551616) {A : Option Addr} {m c : Nat} {bs : List UInt8} (hb : Kd.byte.C w (fun b => b < w.heap.size) A bs) (hm : bs.length = m) (hmc : m ≤ c) (hl : m ≤ 1000000000) :
    Calls Try.prog 12 #[.agg #[.int .u64 k0, .int .u64 k1], .slice A m c] w (Tell w (chkR k0 k1 bs)) := by
  by_cases h : m < 8
  · refine (t_check_few h).mono ?_
    rintro e w' ⟨hc, rfl⟩
    exact ⟨by rw [chkR_few (by omega)]; rfl, hc⟩
  · obtain ⟨p, rfl⟩ : ∃ p, m = p + 8 := ⟨m - 8, by omega⟩
    refine (t_check h0 h1 hb hm hmc hl).mono ?_
    rintro e w' ⟨hc, ⟨T, hT, hd, rfl⟩ | ⟨T, hT, hd, rfl⟩ | ⟨hT, rfl⟩⟩
    · exact ⟨by rw [chkR_some hm hT hd]; rfl, hc⟩
    · exact ⟨by rw [chkR_bad hm hT hd]; rfl, hc⟩
    · exact ⟨by rw [chkR_none hm hT]; rfl, hc⟩
theorem c_rcheck {w : World} {k0 k1 : Nat} (h0 : k0 < 18446744073709551616) (h1 : k1 < 18446744073709551616) {A : Option Addr} {m c : Nat} {bs : List UInt8} (hb : Kd.byte.C w (fun b => b < w.heap.size) A bs) (hm : bs.length = m) (hmc : m ≤ c) (hl : m ≤ 1000000000) :
    Calls Try.prog 13 #[.agg #[.int .u64 k0, .int .u64 k1], .slice A m c] w (Tell w (chkR k0 k1 bs)) := by
  by_cases h : m < 8
  · refine (tr_check_few h).mono ?_
    rintro e w' ⟨hc, rfl⟩
    exact ⟨by rw [chkR_few (by omega)]; rfl, hc⟩
  · obtain ⟨p, rfl⟩ : ∃ p, m = p + 8 := ⟨m - 8, by omega⟩
    refine (tr_check h0 h1 hb hm hmc hl).mono ?_
    rintro e w' ⟨hc, ⟨T, hT, hd, rfl⟩ | ⟨T, hT, hd, rfl⟩ | ⟨hT, rfl⟩⟩
    · exact ⟨by rw [chkR_some hm hT hd]; rfl, hc⟩
    · exact ⟨by rw [chkR_bad hm hT hd]; rfl, hc⟩
    · exact ⟨by rw [chkR_none hm hT]; rfl, hc⟩
/-- What was issued is checked as it was. -/
theorem chkR_sealed {k0 k1 : Nat} {s : ByteArray} {nd inc idx : Nat} (hok : tokOk s nd = true) (h2 : inc < 4294967296) (h3 : idx < 18446744073709551616) : chkR k0 k1 (sealed k0 k1 (tokB s nd inc idx)) = ((s, nd, inc, idx), 0) := by
  have e1 : (sealed k0 k1 (tokB s nd inc idx)).take (tokB s nd inc idx).length = tokB s nd inc idx := by rw [sealed, List.take_append_of_le_length (Nat.le_refl _), List.take_length]
  have e2 : (sealed k0 k1 (tokB s nd inc idx)).drop (tokB s nd inc idx).length = beB (sumN k0 k1 (tokB s nd inc idx)) := by rw [sealed, List.drop_append_of_le_length (Nat.le_refl _), List.drop_length, List.nil_append]
  refine chkR_some (p := (tokB s nd inc idx).length) (by rw [sealed, List.length_append, beB_len]) ?_ ?_
  · rw [e1]; exact readTok_fwd hok h2 h3
  · rw [e1, e2]
/-- What is checked is issued with these bytes. -/
theorem chkR_back {k0 k1 : Nat} {bs : List UInt8} (h : (chkR k0 k1 bs).2 = 0) : ∃ T : Tok, chkR k0 k1 bs = (T, 0) ∧ bs = sealed k0 k1 (tokB T.1 T.2.1 T.2.2.1 T.2.2.2) ∧ tokOk T.1 T.2.1 = true ∧ T.2.2.1 < 4294967296 ∧ T.2.2.2 < 18446744073709551616 := by
  by_cases hl : bs.length < 8
  · rw [chkR_few hl] at h; cases h
  · obtain ⟨p, hp⟩ : ∃ p, bs.length = p + 8 := ⟨bs.length - 8, by omega⟩
    cases hr : readTok (bs.take p) with
    | none => rw [chkR_none hp hr] at h; cases h
    | some T =>
      by_cases hd : bs.drop p = beB (sumN k0 k1 (bs.take p))
      · obtain ⟨a1, a2, a3, a4⟩ := readTok_bwd hr
        refine ⟨T, chkR_some hp hr hd, ?_, a2, by omega, a4⟩
        rw [← a1]
        exact ((sealed_iff hp).2 hd).symm
      · rw [chkR_bad hp hr hd] at h; cases h
theorem chkR_zero {k0 k1 : Nat} {bs : List UInt8} (h : (chkR k0 k1 bs).2 ≠ 0) : (chkR k0 k1 bs).1 = zeroT := by
  by_cases hl : bs.length < 8
  · rw [chkR_few hl]
  · obtain ⟨p, hp⟩ : ∃ p, bs.length = p + 8 := ⟨bs.length - 8, by omega⟩
    cases hr : readTok (bs.take p) with
    | none => rw [chkR_none hp hr]
    | some T =>
      by_cases hd : bs.drop p = beB (sumN k0 k1 (bs.take p))
      · rw [chkR_some hp hr hd] at h
        exact absurd rfl h
      · rw [chkR_bad hp hr hd]
def webS : ByteArray := ⟨#[119, 101, 98]⟩
theorem web_ok : tokOk webS 2 = true := by decide
theorem web_len : (tokB webS 2 3 4).length = 11 := by decide +kernel
set_option maxHeartbeats 2000000 in
theorem tok_works (w : World) : Calls Try.prog 10 #[] w fun e w' => e = .returned (.bool true) ∧ Chg nob w w' := by
  have HC : Hid (chkR 1 2 (sealed 1 2 (tokB webS 2 3 4)) = ((webS, 2, 3, 4), 0)) := chkR_sealed web_ok (by decide) (by decide)
  have hc1 : Chg nob w (w.alloc (.cells (tokV (webS, 2, 3, 4)) 26)) := (Chg.refl _ _).alloc _
  have h5 : (w.alloc (.cells (tokV (webS, 2, 3, 4)) 26)).heap[w.heap.size]? = some (.cells (tokV (webS, 2, 3, 4)) 26 (0, 0)) := heap_alloc_new w _
  have HC1 := Lib.hid hc1
  obtain ⟨r0, r1, r2, r3⟩ := t_cells h5
  have H5 := Lib.hid h5
  clear hc1 h5
  go_enter Try.func10, Try.ntmps10
  go_wp2_with fail
  refine (t_issue (k0 := 1) (k1 := 2) (by decide) (by decide) webS 2 3 4 web_ok (by decide) (by decide) web_len).mono ?_
  rintro e w2 ⟨A, c, rfl, ⟨hl, hmc, hC⟩, hc2⟩
  have h6 := hc2.heap H5.out (not_nob _)
  have HC2 := Lib.hid (HC1.out.thenNew hc2)
  clear r0 r1 r2 r3
  obtain ⟨r0, r1, r2, r3⟩ := t_cells h6
  have HB := Lib.hid (Kd.C_mono (Kd.C_bound hC) (fun b hb => hb.2))
  have H6 := Lib.hid h6
  clear hC hc2 H5 HC1 h6
  go_wp2_with fail
  refine (c_check (k0 := 1) (k1 := 2) (by decide) (by decide) HB.out hl.out hmc (by decide)).mono ?_
  rintro e w3 ⟨rfl, hc3⟩
  rw [HC.out]
  have HC3 := Lib.hid ((HC2.out.thenNew hc3).alloc (.cells (tokV (webS, 2, 3, 4)) 26))
  have h7 := hc3.heap H6.out (not_nob _)
  have hs := hc3.size
  clear r0 r1 r2 r3 hc3
  obtain ⟨r0, r1, r2, r3⟩ := t_cells h7
  have hlt := heap_lt h7
  unfold tokV at HC3 ⊢
  go_wp2
  go_ret
  exact ⟨rfl, HC3.out⟩
end Go.Proofs.Ytbgnplgdknbmoaa
