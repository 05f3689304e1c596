import Derived.Test.YtcibdcahcpcmaaaFold26
import Derived.Test.YtcibdcahcpcmaaaFold29
import Derived.Test.YtcibdcahcpcmaaaFold30
/- Tokens: the steps by which bytes are read, one closure each. -/
namespace Go.Proofs.Ytcibdcahcpcmaaa
open Go.RowKit
set_option maxRecDepth 100000
set_option linter.unusedVariables false
set_option linter.unusedSimpArgs false
abbrev Tok := ByteArray × Nat × Nat × Nat
def tokV (T : Tok) : Array Value := #[.string T.1, .int .i64 T.2.1, .int .u32 T.2.2.1, .int .u64 T.2.2.2]
/-- The reader's place is in block gb, the token in tb, the result's place is rb, the reader itself r. -/
structure RtSt (w0 : World) (gb tb rb r : Nat) (T : Tok) (bs : List UInt8) (e : Nat) (w : World) : Prop where
  box : w.cell? ⟨gb, 0, none⟩ = some (.pointer (some ⟨r, 0, none⟩))
  tok : w.heap[tb]? = some (.cells (tokV T) 45 (0, 0))
  res : w.heap[rb]? = some (.cells (tokV (ByteArray.empty, 0, 0, 0)) 45 (0, 0))
  rd : IsRdAt w (fun b => w0.heap.size ≤ b ∧ b ≠ gb ∧ b ≠ tb ∧ b ≠ rb) r true bs e
  ne : gb ≠ tb ∧ gb ≠ rb ∧ tb ≠ rb ∧ w0.heap.size ≤ gb ∧ w0.heap.size ≤ tb ∧ w0.heap.size ≤ rb
  chg : Chg nob w0 w
section
variable {w0 w w' : World} {gb tb rb r : Nat} {T T' : Tok} {bs bs' : List UInt8} {e e' : Nat}
theorem RtSt.cells (h : RtSt w0 gb tb rb r T bs e w) : w.cell? ⟨tb, 0, none⟩ = some (.string T.1) ∧ w.cell? ⟨tb, 1, none⟩ = some (.int .i64 T.2.1) ∧ w.cell? ⟨tb, 2, none⟩ = some (.int .u32 T.2.2.1) ∧ w.cell? ⟨tb, 3, none⟩ = some (.int .u64 T.2.2.2) := t_cells h.tok
theorem RtSt.loose (h : RtSt w0 gb tb rb r T bs e w) (j : Nat) : w.frozen? ⟨tb, j, none⟩ = false := by simp [World.frozen?, h.tok]
theorem RtSt.read (h : RtSt w0 gb tb rb r T bs e w) (hd : IsRd w' (fun b => w0.heap.size ≤ b ∧ b ≠ gb ∧ b ≠ tb ∧ b ≠ rb) (some ⟨r, 0, none⟩) true bs' e') (hc : Chg (At (some ⟨r, 0, none⟩)) w w') : RtSt w0 gb tb rb r T bs' e' w' := by
  obtain ⟨n1, n2, n3, n4, n5, n6⟩ := h.ne
  obtain ⟨q1, q2, q3, q4⟩ := h.rd.1
  have hag : ∀ k, At (some ⟨r, 0, none⟩) k → k = r := fun k hk => by cases hk; rfl
  rcases hd with ⟨g', e, hd⟩ | ⟨e, _⟩
  · cases e
    exact ⟨hc.cell h.box (fun e => q2 (hag _ e).symm), hc.heap h.tok (fun e => q3 (hag _ e).symm), hc.heap h.res (fun e => q4 (hag _ e).symm), hd, h.ne, h.chg.trans hc (fun i hi => .inr (by rw [hag i hi]; exact q1))⟩
  · cases e
theorem RtSt.put (h : RtSt w0 gb tb rb r T bs e w) (j : Nat) (v : Value) (hv : (tokV T).setIfInBounds j v = tokV T') : RtSt w0 gb tb rb r T' bs e (w.setCell ⟨tb, j, none⟩ v) := by
  obtain ⟨n1, n2, n3, n4, n5, n6⟩ := h.ne
  have hc : Chg (fun b => b = tb) w (w.setCell ⟨tb, j, none⟩ v) := Chg.set1 (Chg.refl _ w) _ _
  refine ⟨hc.cell h.box n1, ?_, hc.heap h.res (fun e => n3 e.symm), h.rd.chg hc (fun b hb => hb.2.2.1), h.ne, h.chg.setCell (.inr n5) _⟩
  rw [← hv]
  simp [World.setCell, Array.getElem?_modify, h.tok]
theorem RtSt.isrd (h : RtSt w0 gb tb rb r T bs e w) : IsRd w (fun b => w0.heap.size ≤ b ∧ b ≠ gb ∧ b ≠ tb ∧ b ≠ rb) (some ⟨r, 0, none⟩) true bs e := .inl ⟨r, rfl, h.rd⟩
theorem RtSt.new (h : RtSt w0 gb tb rb r T bs e w) (hc : Chg nob w w') : RtSt w0 gb tb rb r T bs e w' :=
  ⟨hc.cell h.box (not_nob _), hc.heap h.tok (not_nob _), hc.heap h.res (not_nob _), h.rd.chg hc (fun b _ => not_nob b), h.ne, h.chg.thenNew hc⟩
end
theorem rNum_le (st : Bool) (bs : List UInt8) (e most : Nat) : (rNum st bs e most).1 ≤ most := by
  unfold rNum
  split
  · split
    · rename_i h
      unfold rNumE at h
      split at h
      · cases h
      · rename_i h2
        have := fun hh => h2 ⟨h, hh⟩
        simp only
        omega
    · exact Nat.zero_le _
  · exact Nat.zero_le _
theorem step1 {w0 w : World} {gb tb rb r : Nat} {T : Tok} {bs : List UInt8} (h : RtSt w0 gb tb rb r T bs 0 w) :
    Calls Try.prog 51 #[.pointer (some ⟨gb, 0, none⟩), .pointer (some ⟨tb, 0, none⟩)] w fun e w' => e = .returned (.bool ((rText true bs 0 80).2.2 == 0)) ∧ RtSt w0 gb tb rb r ((rText true bs 0 80).1, T.2) (rText true bs 0 80).2.1 (rText true bs 0 80).2.2 w' := by
  have HI := Lib.hid h
  have d := h.box
  clear h
  go_enter Try.func51, Try.ntmps51
  go_wp2_with fail
  refine (rd_text HI.out.isrd 80 (by decide) (by decide)).mono ?_
  rintro e w2 ⟨rfl, hd, hc⟩
  obtain ⟨s', bs', e', hr⟩ : ∃ s' bs' e', rText true bs 0 80 = (s', bs', e') := ⟨_, _, _, rfl⟩
  have HR := Lib.hid hr
  rw [hr] at hd ⊢
  have h2 := HI.out.read hd hc
  simp only at h2 ⊢
  clear d hd hc
  obtain ⟨c0, c1, c2, c3⟩ := h2.cells
  have f0 := h2.loose 0
  have d := h2.box
  have h3 := h2.put (T' := (s', T.2)) 0 (.string s') rfl
  have H3 := Lib.hid h3
  have nb := h2.ne.1
  clear h2 h3 hr
  go_wp2_with fail
  refine (rd_wrong H3.out.isrd).mono ?_
  rintro e w3 ⟨rfl, rfl⟩
  go_wp2
  go_ret
  rw [HR.out]
  exact ⟨congrArg Ending.returned (show Value.bool _ = _ from congrArg Value.bool (by rw [Bool.eq_iff_iff]; simp; try omega)), H3.out⟩
theorem step2 {w0 w : World} {gb tb rb r : Nat} {T : Tok} {bs : List UInt8} (h : RtSt w0 gb tb rb r T bs 0 w) :
    Calls Try.prog 54 #[.pointer (some ⟨gb, 0, none⟩), .pointer (some ⟨tb, 0, none⟩)] w fun e w' => e = .returned (.bool ((rNum true bs 0 255).2.2 == 0)) ∧ RtSt w0 gb tb rb r (T.1, (rNum true bs 0 255).1, T.2.2) (rNum true bs 0 255).2.1 (rNum true bs 0 255).2.2 w' := by
  have HI := Lib.hid h
  have d := h.box
  clear h
  go_enter Try.func54, Try.ntmps54
  go_wp2_with fail
  refine (rd_num HI.out.isrd 255 (by decide)).mono ?_
  rintro e w2 ⟨rfl, hd, hc⟩
  have hle := rNum_le true bs 0 255
  obtain ⟨s', bs', e', hr⟩ : ∃ s' bs' e', rNum true bs 0 255 = (s', bs', e') := ⟨_, _, _, rfl⟩
  have HR := Lib.hid hr
  rw [hr] at hle
  simp only at hle
  have wn : IntKind.i64.wrap (s' : Int) = (s' : Int) := IntWalk.i64_in _ (by omega)
  rw [hr] at hd ⊢
  have h2 := HI.out.read hd hc
  simp only at h2 ⊢
  clear d hd hc
  obtain ⟨c0, c1, c2, c3⟩ := h2.cells
  have f0 := h2.loose 1
  have d := h2.box
  have h3 := h2.put (T' := (T.1, s', T.2.2)) 1 (.int .i64 s') rfl
  have H3 := Lib.hid h3
  have nb := h2.ne.1
  clear h2 h3 hr
  go_wp2_with fail
  refine (rd_wrong H3.out.isrd).mono ?_
  rintro e w3 ⟨rfl, rfl⟩
  go_wp2
  go_ret
  rw [HR.out]
  exact ⟨congrArg Ending.returned (show Value.bool _ = _ from congrArg Value.bool (by rw [Bool.eq_iff_iff]; simp; try omega)), H3.out⟩
theorem step3 {w0 w : World} {gb tb rb r : Nat} {T : Tok} {bs : List UInt8} (h : RtSt w0 gb tb rb r T bs 0 w) :
    Calls Try.prog 56 #[.pointer (some ⟨gb, 0, none⟩), .pointer (some ⟨tb, 0, none⟩)] w fun e w' => e = .returned (.bool ((rNum true bs 0 4294967295).2.2 == 0)) ∧ RtSt w0 gb tb rb r (T.1, T.2.1, (rNum true bs 0 4294967295).1, T.2.2.2) (rNum true bs 0 4294967295).2.1 (rNum true bs 0 4294967295).2.2 w' := by
  have HI := Lib.hid h
  have d := h.box
  clear h
  go_enter Try.func56, Try.ntmps56
  go_wp2_with fail
  refine (rd_num HI.out.isrd 4294967295 (by decide)).mono ?_
  rintro e w2 ⟨rfl, hd, hc⟩
  have hle := rNum_le true bs 0 4294967295
  obtain ⟨s', bs', e', hr⟩ : ∃ s' bs' e', rNum true bs 0 4294967295 = (s', bs', e') := ⟨_, _, _, rfl⟩
  have HR := Lib.hid hr
  rw [hr] at hle
  simp only at hle
  have wn : IntKind.u32.wrap (s' : Int) = (s' : Int) := IntWalk.u32_in _ (by omega)
  rw [hr] at hd ⊢
  have h2 := HI.out.read hd hc
  simp only at h2 ⊢
  clear d hd hc
  obtain ⟨c0, c1, c2, c3⟩ := h2.cells
  have f0 := h2.loose 2
  have d := h2.box
  have h3 := h2.put (T' := (T.1, T.2.1, s', T.2.2.2)) 2 (.int .u32 s') rfl
  have H3 := Lib.hid h3
  have nb := h2.ne.1
  clear h2 h3 hr
  go_wp2_with fail
  refine (rd_wrong H3.out.isrd).mono ?_
  rintro e w3 ⟨rfl, rfl⟩
  go_wp2
  go_ret
  rw [HR.out]
  exact ⟨congrArg Ending.returned (show Value.bool _ = _ from congrArg Value.bool (by rw [Bool.eq_iff_iff]; simp; try omega)), H3.out⟩
theorem step4 {w0 w : World} {gb tb rb r : Nat} {T : Tok} {bs : List UInt8} (h : RtSt w0 gb tb rb r T bs 0 w) :
    Calls Try.prog 57 #[.pointer (some ⟨gb, 0, none⟩), .pointer (some ⟨tb, 0, none⟩)] w fun e w' => e = .returned (.bool ((rNum true bs 0 18446744073709551615).2.2 == 0)) ∧ RtSt w0 gb tb rb r (T.1, T.2.1, T.2.2.1, (rNum true bs 0 18446744073709551615).1) (rNum true bs 0 18446744073709551615).2.1 (rNum true bs 0 18446744073709551615).2.2 w' := by
  have HI := Lib.hid h
  have d := h.box
  clear h
  go_enter Try.func57, Try.ntmps57
  go_wp2_with fail
  refine (rd_num HI.out.isrd 18446744073709551615 (by decide)).mono ?_
  rintro e w2 ⟨rfl, hd, hc⟩
  obtain ⟨s', bs', e', hr⟩ : ∃ s' bs' e', rNum true bs 0 18446744073709551615 = (s', bs', e') := ⟨_, _, _, rfl⟩
  have HR := Lib.hid hr
  rw [hr] at hd ⊢
  have h2 := HI.out.read hd hc
  simp only at h2 ⊢
  clear d hd hc
  obtain ⟨c0, c1, c2, c3⟩ := h2.cells
  have f0 := h2.loose 3
  have d := h2.box
  have h3 := h2.put (T' := (T.1, T.2.1, T.2.2.1, s')) 3 (.int .u64 s') rfl
  have H3 := Lib.hid h3
  have nb := h2.ne.1
  clear h2 h3 hr
  go_wp2_with fail
  refine (rd_wrong H3.out.isrd).mono ?_
  rintro e w3 ⟨rfl, rfl⟩
  go_wp2
  go_ret
  rw [HR.out]
  exact ⟨congrArg Ending.returned (show Value.bool _ = _ from congrArg Value.bool (by rw [Bool.eq_iff_iff]; simp; try omega)), H3.out⟩
theorem step5 {w0 w : World} {gb tb rb r : Nat} {T : Tok} {bs : List UInt8} (h : RtSt w0 gb tb rb r T bs 0 w) :
    Calls Try.prog 58 #[.pointer (some ⟨gb, 0, none⟩)] w fun e w' => e = .returned (.bool (rDone bs 0 == 0)) ∧ w' = w := by
  have HI := Lib.hid h
  have d := h.box
  clear h
  go_enter Try.func58, Try.ntmps58
  go_wp2_with fail
  refine (rd_done HI.out.isrd).mono ?_
  rintro e w3 ⟨rfl, rfl⟩
  go_wp2
  go_ret
  exact ⟨congrArg Ending.returned (show Value.bool _ = _ from congrArg Value.bool (by rw [Bool.eq_iff_iff]; simp; try omega)), rfl⟩
theorem step6 {w0 w : World} {gb tb rb r : Nat} {T : Tok} {bs : List UInt8} {e0 : Nat} (h : RtSt w0 gb tb rb r T bs e0 w) (hs : T.1.size ≤ 9223372036854775807) :
    Calls Try.prog 60 #[.pointer (some ⟨tb, 0, none⟩)] w fun e w' => e = .returned (.bool (tokOk T.1 T.2.1)) ∧ RtSt w0 gb tb rb r T bs e0 w' := by
  have HI := Lib.hid h
  obtain ⟨c0, c1, c2, c3⟩ := h.cells
  clear h
  go_enter Try.func60, Try.ntmps60
  go_wp2_with fail
  refine (t_right T.1 hs T.2.1 T.2.2.1 T.2.2.2).mono ?_
  rintro e w3 ⟨rfl, hc⟩
  have h3 := Lib.hid (HI.out.new hc)
  clear hc c0 c1 c2 c3
  go_wp2
  go_ret
  exact ⟨rfl, h3.out⟩
end Go.Proofs.Ytcibdcahcpcmaaa

/- Tokens: the closures' row is indexed. -/
namespace Go.Proofs.Ytcibdcahcpcmaaa
open Go.RowKit
set_option maxRecDepth 100000
theorem idx6_0 (f0 f1 f2 f3 f4 f5 : Fn) (a0 a1 a2 a3 a4 a5 b0 b1 b2 b3 b4 b5 : Array Value) (wx : World) :
    (Instr.index 112 (.agg #[.func f0 a0 b0, .func f1 a1 b1, .func f2 a2 b2, .func f3 a3 b3, .func f4 a4 b4, .func f5 a5 b5]) (.int .i64 0)).run Try.prog wx = .ok (.func f0 a0 b0) wx := by
  have u := Try.underlying112
  have z := Try.sizeOf40
  have g := Try.isAgg40
  simp [Instr.index, run_underlying u, asIntOf, go_sem, part, z, g]
theorem idx6_1 (f0 f1 f2 f3 f4 f5 : Fn) (a0 a1 a2 a3 a4 a5 b0 b1 b2 b3 b4 b5 : Array Value) (wx : World) :
    (Instr.index 112 (.agg #[.func f0 a0 b0, .func f1 a1 b1, .func f2 a2 b2, .func f3 a3 b3, .func f4 a4 b4, .func f5 a5 b5]) (.int .i64 1)).run Try.prog wx = .ok (.func f1 a1 b1) wx := by
  have u := Try.underlying112
  have z := Try.sizeOf40
  have g := Try.isAgg40
  simp [Instr.index, run_underlying u, asIntOf, go_sem, part, z, g]
theorem idx6_2 (f0 f1 f2 f3 f4 f5 : Fn) (a0 a1 a2 a3 a4 a5 b0 b1 b2 b3 b4 b5 : Array Value) (wx : World) :
    (Instr.index 112 (.agg #[.func f0 a0 b0, .func f1 a1 b1, .func f2 a2 b2, .func f3 a3 b3, .func f4 a4 b4, .func f5 a5 b5]) (.int .i64 2)).run Try.prog wx = .ok (.func f2 a2 b2) wx := by
  have u := Try.underlying112
  have z := Try.sizeOf40
  have g := Try.isAgg40
  simp [Instr.index, run_underlying u, asIntOf, go_sem, part, z, g]
theorem idx6_3 (f0 f1 f2 f3 f4 f5 : Fn) (a0 a1 a2 a3 a4 a5 b0 b1 b2 b3 b4 b5 : Array Value) (wx : World) :
    (Instr.index 112 (.agg #[.func f0 a0 b0, .func f1 a1 b1, .func f2 a2 b2, .func f3 a3 b3, .func f4 a4 b4, .func f5 a5 b5]) (.int .i64 3)).run Try.prog wx = .ok (.func f3 a3 b3) wx := by
  have u := Try.underlying112
  have z := Try.sizeOf40
  have g := Try.isAgg40
  simp [Instr.index, run_underlying u, asIntOf, go_sem, part, z, g]
theorem idx6_4 (f0 f1 f2 f3 f4 f5 : Fn) (a0 a1 a2 a3 a4 a5 b0 b1 b2 b3 b4 b5 : Array Value) (wx : World) :
    (Instr.index 112 (.agg #[.func f0 a0 b0, .func f1 a1 b1, .func f2 a2 b2, .func f3 a3 b3, .func f4 a4 b4, .func f5 a5 b5]) (.int .i64 4)).run Try.prog wx = .ok (.func f4 a4 b4) wx := by
  have u := Try.underlying112
  have z := Try.sizeOf40
  have g := Try.isAgg40
  simp [Instr.index, run_underlying u, asIntOf, go_sem, part, z, g]
theorem idx6_5 (f0 f1 f2 f3 f4 f5 : Fn) (a0 a1 a2 a3 a4 a5 b0 b1 b2 b3 b4 b5 : Array Value) (wx : World) :
    (Instr.index 112 (.agg #[.func f0 a0 b0, .func f1 a1 b1, .func f2 a2 b2, .func f3 a3 b3, .func f4 a4 b4, .func f5 a5 b5]) (.int .i64 5)).run Try.prog wx = .ok (.func f5 a5 b5) wx := by
  have u := Try.underlying112
  have z := Try.sizeOf40
  have g := Try.isAgg40
  simp [Instr.index, run_underlying u, asIntOf, go_sem, part, z, g]
end Go.Proofs.Ytcibdcahcpcmaaa
