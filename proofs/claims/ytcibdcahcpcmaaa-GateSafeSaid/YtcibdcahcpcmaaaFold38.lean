import Derived.Test.YtcibdcahcpcmaaaFold35
import Derived.Test.YtcibdcahcpcmaaaFold37
import Derived.Test.YtcibdcahcpcmaaaFold23
import Derived.Test.YtcibdcahcpcmaaaFold26
import Derived.Deep.RegionHeld3
import Derived.Deep.DrawnRows
/- Tokens: what a call of the reference's Check does. -/
namespace Go.Proofs.Ytcibdcahcpcmaaa
open Go.RowKit
set_option maxRecDepth 100000
set_option linter.unusedVariables false
set_option linter.unusedSimpArgs false
/-- Check's blocks and the bytes. -/
structure CkB (w0 : World) (n tb k0 k1 : Nat) (T : Tok) (A : Option Addr) (bs : List UInt8) (w : World) : Prop where
  s : CkSt w0 n tb k0 k1 T w
  b : Kd.byte.C w (fun b => b < w0.heap.size) A bs
theorem CkB.new {w0 w w' : World} {n tb k0 k1 : Nat} {T : Tok} {A : Option Addr} {bs : List UInt8} (h : CkB w0 n tb k0 k1 T A bs w) (hc : Chg nob w w') : CkB w0 n tb k0 k1 T A bs w' := ⟨h.s.new hc, Kd.C_new h.b hc⟩
theorem ckr_start {w w2 : World} {k0 k1 : Nat} {T : Tok} (hc : Chg nob ((w.alloc (.cells #[.int .u64 k0, .int .u64 k1] 25)).alloc (.cells (tokV zeroT) 45)) w2) :
    CkSt w w.heap.size w2.heap.size k0 k1 T (w2.alloc (.cells (tokV T) 45)) := by
  have h5 := heap_alloc_new w (.cells #[.int .u64 k0, .int .u64 k1] 25)
  have h6 := ((Chg.refl nob (w.alloc (.cells #[.int .u64 k0, .int .u64 k1] 25))).alloc (.cells (tokV zeroT) 45)).heap h5 (not_nob _)
  have h7 := alloc2_row0 w (.cells #[.int .u64 k0, .int .u64 k1] 25) (.cells (tokV zeroT) 45)
  have hA := alloc2_chg0 w (.cells #[.int .u64 k0, .int .u64 k1] 25) (.cells (tokV zeroT) 45)
  have hc3 := (hc.alloc (.cells (tokV T) 45))
  have hlt : w.heap.size + 1 < w2.heap.size := by have := hc.size; simp at this; omega
  have k := row2_cells (hc3.heap h6 (not_nob _))
  exact ⟨k, hc3.heap h7 (not_nob _), heap_alloc_new w2 _, by omega, hA.thenNew hc3⟩
theorem sealed_iff {k0 k1 p : Nat} {bs : List UInt8} (hm : bs.length = p + 8) : sealed k0 k1 (bs.take p) = bs ↔ bs.drop p = beB (sumN k0 k1 (bs.take p)) := by
  constructor
  · intro h
    have h2 := congrArg (List.drop p) h
    have hl : (bs.take p).length = p := by rw [List.length_take]; omega
    rw [sealed, List.drop_append_of_le_length (by omega), List.drop_of_length_le (by omega), List.nil_append] at h2
    exact h2.symm
  · intro h
    rw [sealed, ← h, List.take_append_drop]
set_option maxRecDepth 100000 in
set_option maxHeartbeats 4000000 in
theorem tr_check {w : World} {k0 k1 : Nat} (h0 : k0 < 18446744073709551616) (h1 : k1 < 18446744073709551616) {A : Option Addr} {p c : Nat} {bs : List UInt8} (hb : Kd.byte.C w (fun b => b < w.heap.size) A bs) (hm : bs.length = p + 8) (hmc : p + 8 ≤ c) (hl : p + 8 ≤ 140737488351232) :
    Calls Try.prog 11 #[.agg #[.int .u64 k0, .int .u64 k1], .slice A (p + 8) c] w fun e w' => Chg nob w w' ∧
      ((∃ T, readTok (bs.take p) = some T ∧ bs.drop p = beB (sumN k0 k1 (bs.take p)) ∧ e = .returned (.tuple #[.agg (tokV T), .int .i64 0])) ∨
       (∃ T, readTok (bs.take p) = some T ∧ ¬ bs.drop p = beB (sumN k0 k1 (bs.take p)) ∧ e = .returned (.tuple #[.agg (tokV zeroT), .int .i64 60])) ∨
       (readTok (bs.take p) = none ∧ e = .returned (.tuple #[.agg (tokV zeroT), .int .i64 40]))) := by
  have hcA := alloc2_chg0 w (.cells #[.int .u64 k0, .int .u64 k1] 25) (.cells (tokV zeroT) 45)
  have HB := Lib.hid hb
  have HM := Lib.hid hm
  have HB2 : Hid (Kd.byte.C ((w.alloc (.cells #[.int .u64 k0, .int .u64 k1] 25)).alloc (.cells (tokV zeroT) 45)) (fun b => b < ((w.alloc (.cells #[.int .u64 k0, .int .u64 k1] 25)).alloc (.cells (tokV zeroT) 45)).heap.size) A bs) := Kd.C_mono (Kd.C_new hb hcA) (fun b hb => Nat.lt_of_lt_of_le hb hcA.size)
  have g1 : (0 : Int) ≤ (p : Int) := by omega
  have g2 : (p : Int) ≤ (c : Int) := by omega
  have gp : p ≤ 140737488351232 := by omega
  have HTL : Hid ((bs.take p).length = p) := by show _ = _; rw [List.length_take]; omega
  have HW : Hid (IntKind.i64.wrap (p : Int) = (p : Int)) := IntWalk.i64_in _ (by omega)
  have HPB : Hid (p ≤ bs.length) := by show _ ≤ _; omega
  clear hb hm hcA
  go_enter Try.func11, Try.ntmps11
  go_wp2_with fail
  refine (tr_read HB2.out HM.out hmc hl).mono ?_
  rintro e w2 ⟨hc2, ⟨T, hT, rfl⟩ | ⟨hT, rfl⟩⟩
  · have hst := ckr_start (T := T) hc2
    have hB3 : CkB w w.heap.size w2.heap.size k0 k1 T A bs (w2.alloc (.cells (tokV T) 45)) := ⟨hst, Kd.C_new HB.out hst.chg⟩
    have HT := Lib.hid hT
    have HST := Lib.hid hB3
    clear hc2 hT HB2 hst hB3
    unfold tokV at HST ⊢
    generalize hT2 : w2.heap.size = tb at HST ⊢
    go_wp2
    refine wp_region_held_drew (S := fun wx => CkB w w.heap.size tb k0 k1 T A bs wx) (by kernel_rfl) (HST.out.new ((Chg.refl _ _).drew)) (fun hHeld => ?_)
    refine wpAnyH_take (i := 0) (v := ?_) pick0 (by kernel_rfl) (by kernel_rfl) (by kernel_rfl) (fun _ _ _ h => h) (Or.inl ⟨by rfl, ?_⟩) (by assumption) ?_
    rotate_left 1
    · (intro wx hSw; go_simp; try with_reducible rfl)
    try simp only [Act.put, List.setIfInBounds_toArray, List.set_cons_zero, List.set_cons_succ]
    refine wpAnyH_take (i := 1) (v := ?_) (pickS pick0) (by kernel_rfl) (by kernel_rfl) (by kernel_rfl) (fun _ _ _ h => h) (Or.inl ⟨by rfl, ?_⟩) (by assumption) ?_
    rotate_left 1
    · (intro wx hSw; obtain ⟨q0, q1⟩ := hSw.s.key; go_simp; try with_reducible rfl)
    try simp only [Act.put, List.setIfInBounds_toArray, List.set_cons_zero, List.set_cons_succ]
    refine wpAnyH_take (i := 2) (v := ?_) (pickS (pickS pick0)) (by kernel_rfl) (by kernel_rfl) (by kernel_rfl) (fun _ _ _ h => h) (Or.inl ⟨by rfl, ?_⟩) (by assumption) ?_
    rotate_left 1
    · (intro wx hSw; go_simp; try with_reducible rfl)
    try simp only [Act.put, List.setIfInBounds_toArray, List.set_cons_zero, List.set_cons_succ]
    refine wpAnyH_take (i := 3) (v := ?_) (pickS (pickS (pickS pick0))) (by kernel_rfl) (by kernel_rfl) (by kernel_rfl) (fun _ _ _ h => h) (Or.inl ⟨by rfl, ?_⟩) (by assumption) ?_
    rotate_left 1
    · (intro wx hSw; obtain ⟨q0, q1⟩ := hSw.s.key; go_simp; try with_reducible rfl)
    try simp only [Act.put, List.setIfInBounds_toArray, List.set_cons_zero, List.set_cons_succ]
    refine wpAnyH_take (i := 4) (v := ?_) (pickS (pickS (pickS (pickS pick0)))) (by kernel_rfl) (by kernel_rfl) (by kernel_rfl) (fun _ _ _ h => h) (Or.inl ⟨by rfl, ?_⟩) (by assumption) ?_
    rotate_left 1
    · (intro wx hSw; go_simp; try with_reducible rfl)
    try simp only [Act.put, List.setIfInBounds_toArray, List.set_cons_zero, List.set_cons_succ]
    refine wpAnyH_take (i := 5) (v := ?_) (pickS (pickS (pickS (pickS (pickS pick0))))) (by kernel_rfl) (by kernel_rfl) (by kernel_rfl) (fun _ _ _ h => h) (Or.inl ⟨by rfl, ?_⟩) (by assumption) ?_
    rotate_left 1
    · (intro wx hSw; go_simp; try with_reducible rfl)
    try simp only [Act.put, List.setIfInBounds_toArray, List.set_cons_zero, List.set_cons_succ]
    refine wpAnyH_take (i := 6) (v := ?_) (pickS (pickS (pickS (pickS (pickS (pickS pick0)))))) (by kernel_rfl) (by kernel_rfl) (by kernel_rfl) (fun _ _ _ h => h) (Or.inl ⟨by rfl, ?_⟩) (by assumption) ?_
    rotate_left 1
    · (intro wx hSw; go_simp; try with_reducible rfl)
    try simp only [Act.put, List.setIfInBounds_toArray, List.set_cons_zero, List.set_cons_succ]
    refine wpAnyH_take (i := 7) (v := ?_) (pickS (pickS (pickS (pickS (pickS (pickS (pickS pick0))))))) (by kernel_rfl) (by kernel_rfl) (by kernel_rfl) (fun _ _ _ h => h) (Or.inl ⟨by rfl, ?_⟩) (by assumption) ?_
    rotate_left 1
    · (intro wx hSw; go_simp; try with_reducible rfl)
    try simp only [Act.put, List.setIfInBounds_toArray, List.set_cons_zero, List.set_cons_succ]
    refine wpAnyH_take (i := 8) (v := ?_) (pickS (pickS (pickS (pickS (pickS (pickS (pickS (pickS pick0)))))))) (by kernel_rfl) (by kernel_rfl) (by kernel_rfl) (fun _ _ _ h => h) (Or.inl ⟨by rfl, ?_⟩) (by assumption) ?_
    rotate_left 1
    · (intro wx hSw; have wp := HW.out; go_simp; try with_reducible rfl)
    try simp only [Act.put, List.setIfInBounds_toArray, List.set_cons_zero, List.set_cons_succ]
    refine wpAnyH_take (i := 11) (v := ?_) (pickS (pickS (pickS (pickS (pickS (pickS (pickS (pickS (pickS (pickS (pickS pick0))))))))))) (by kernel_rfl) (by kernel_rfl) (by kernel_rfl) (fun _ _ _ h => h) (Or.inl ⟨by rfl, ?_⟩) (by assumption) ?_
    rotate_left 1
    · (intro wx hSw; go_simp; try with_reducible rfl)
    try simp only [Act.put, List.setIfInBounds_toArray, List.set_cons_zero, List.set_cons_succ]
    refine wpAnyH_take (i := 12) (v := ?_) (pickS (pickS (pickS (pickS (pickS (pickS (pickS (pickS (pickS (pickS (pickS (pickS pick0)))))))))))) (by kernel_rfl) (by kernel_rfl) (by kernel_rfl) (fun _ _ _ h => h) (Or.inl ⟨by rfl, ?_⟩) (by assumption) ?_
    rotate_left 1
    · (intro wx hSw; have hcv := fun cx => run_conv (P := Try.prog) (src := 26) (dst := 9) (e := 5) (c := cx) hSw.b HM.out (by kernel_rfl) (by kernel_rfl) (by kernel_rfl); go_simp; try with_reducible rfl)
    try simp only [Act.put, List.setIfInBounds_toArray, List.set_cons_zero, List.set_cons_succ]
    refine wpAnyH_ready (rs := [9]) (by kernel_rfl) (by simp) ?_
    refine AllReadyH.cons (pickS (pickS (pickS (pickS (pickS (pickS (pickS (pickS (pickS pick0))))))))) (fun K hK => ?_) AllReadyH.nil
    go_simp
    with_reducible refine (r_put h0 h1 (Kd.C_take hHeld.b p HPB.out) (fun b hb => Nat.lt_of_lt_of_le hb hHeld.s.chg.size) HTL.out gp).mono ?_
    rintro e w4 ⟨A4, c4, rfl, hl4, hmc4, hC4, hc4⟩
    have HN4 : Hid (CkB w w.heap.size tb k0 k1 T A bs w4) := hHeld.new hc4
    have hcv := fun cx => run_conv (P := Try.prog) (src := 26) (dst := 9) (e := 5) (c := cx) hC4 hl4 (by kernel_rfl) (by kernel_rfl) (by kernel_rfl)
    clear hC4 hc4 hl4 hmc4 hHeld
    go_wp2_with fail
    refine hK.out _ _ (HN4.out) (fun hHeld => ?_)
    clear hK K
    try simp only [Act.put, List.setIfInBounds_toArray, List.set_cons_zero, List.set_cons_succ]
    refine wpAnyH_ready (rs := [10]) (by kernel_rfl) (by simp) ?_
    refine AllReadyH.cons (pickS (pickS (pickS (pickS (pickS (pickS (pickS (pickS (pickS (pickS pick0)))))))))) (fun K hK => ?_) AllReadyH.nil
    go_simp
    refine hK.out _ _ (HN4.out) (fun hHeld => ?_)
    clear hK K
    try simp only [Act.put, List.setIfInBounds_toArray, List.set_cons_zero, List.set_cons_succ]
    refine wpAnyH_take (i := 13) (v := ?_) (pickS (pickS (pickS (pickS (pickS (pickS (pickS (pickS (pickS (pickS (pickS (pickS (pickS pick0))))))))))))) (by kernel_rfl) (by kernel_rfl) (by kernel_rfl) (fun _ _ _ h => h) (Or.inl ⟨by rfl, ?_⟩) (by assumption) ?_
    rotate_left 1
    · (intro wx hSw; go_simp; try with_reducible rfl)
    try simp only [Act.put, List.setIfInBounds_toArray, List.set_cons_zero, List.set_cons_succ]
    refine wpAnyH_done (by kernel_rfl) ?_ _
    have hC := HN4.out
    clear hHeld hcv HST hT2
    by_cases heq : bs.drop p = beB (sumN k0 k1 (bs.take p))
    · have hbt : ((strOf (sealed k0 k1 (bs.take p))).toList == (strOf bs).toList) = true := by
        rw [strOf_list, strOf_list]
        simpa using (sealed_iff HM.out).2 heq
      rw [hbt]
      clear hbt
      have HEQ := Lib.hid heq
      clear heq
      obtain ⟨t0, t1, t2, t3⟩ := t_cells hC.s.tok
      have ne := hC.s.ne
      obtain ⟨⟨r0, r1, r2, r3⟩, rf⟩ := row4_cells hC.s.res
      have rf0 := rf 0
      have rf1 := rf 1
      have rf2 := rf 2
      have rf3 := rf 3
      clear rf
      have HROW := Lib.hid (set4_row hC.s.res (.string T.1) (.int .i64 T.2.1) (.int .u32 T.2.2.1) (.int .u64 T.2.2.2))
      have HCHG := Lib.hid (set4_chg hC.s.chg (r := w.heap.size + 1) (.inr (Nat.le_succ _)) (.string T.1) (.int .i64 T.2.1) (.int .u32 T.2.2.1) (.int .u64 T.2.2.2))
      clear hC
      go_wp2
      have hrow := HROW.out
      have hchg := HCHG.out
      unfold set4 at hrow hchg
      generalize (World.setCell _ (⟨w.heap.size + 1, 3, none⟩ : Addr) _) = w9 at hrow hchg ⊢
      obtain ⟨⟨q0, q1, q2, q3⟩, _⟩ := row4_cells hrow
      refine bodyPost_ret (by simp [results, Try.results11, go_sem, q0, q1, q2, q3]; rfl) rfl ?_
      exact ⟨hchg, .inl ⟨T, HT.out, HEQ.out, rfl⟩⟩
    · have hbt : ((strOf (sealed k0 k1 (bs.take p))).toList == (strOf bs).toList) = false := by
        rw [strOf_list, strOf_list]
        simpa using fun h => heq ((sealed_iff HM.out).1 h)
      rw [hbt]
      clear hbt
      have HEQ := Lib.hid heq
      clear heq
      obtain ⟨t0, t1, t2, t3⟩ := t_cells hC.s.tok
      have ne := hC.s.ne
      obtain ⟨⟨r0, r1, r2, r3⟩, rf⟩ := row4_cells hC.s.res
      have rf0 := rf 0
      have rf1 := rf 1
      have rf2 := rf 2
      have rf3 := rf 3
      clear rf
      have HROW := Lib.hid (set4_row hC.s.res (.string (ByteArray.mk #[])) (.int .i64 0) (.int .u32 0) (.int .u64 0))
      have HCHG := Lib.hid (set4_chg hC.s.chg (r := w.heap.size + 1) (.inr (Nat.le_succ _)) (.string (ByteArray.mk #[])) (.int .i64 0) (.int .u32 0) (.int .u64 0))
      clear hC
      go_wp2
      have hrow := HROW.out
      have hchg := HCHG.out
      unfold set4 at hrow hchg
      generalize (World.setCell _ (⟨w.heap.size + 1, 3, none⟩ : Addr) _) = w9 at hrow hchg ⊢
      obtain ⟨⟨q0, q1, q2, q3⟩, _⟩ := row4_cells hrow
      refine bodyPost_ret (by simp [results, Try.results11, go_sem, q0, q1, q2, q3]; rfl) rfl ?_
      exact ⟨hchg, .inr (.inl ⟨T, HT.out, HEQ.out, rfl⟩)⟩
  · rw [show Value.agg (tokV zeroT) = Value.agg #[.string (ByteArray.mk #[]), .int .i64 0, .int .u32 0, .int .u64 0] from rfl]
    have h4 := ckr_start (T := zeroT) hc2
    rw [show w2.alloc (.cells (tokV zeroT) 45) = w2.alloc (.cells #[.string (ByteArray.mk #[]), .int .i64 0, .int .u32 0, .int .u64 0] 45) from rfl] at h4
    have HT := Lib.hid hT
    clear hc2 hT HB2
    obtain ⟨⟨r0, r1, r2, r3⟩, rf⟩ := row4_cells h4.res
    have rf0 := rf 0
    have rf1 := rf 1
    have rf2 := rf 2
    have rf3 := rf 3
    have HROW := Lib.hid (set4_row h4.res (.string (ByteArray.mk #[])) (.int .i64 0) (.int .u32 0) (.int .u64 0))
    have HCHG := Lib.hid (set4_chg h4.chg (r := w.heap.size + 1) (.inr (Nat.le_succ _)) (.string (ByteArray.mk #[])) (.int .i64 0) (.int .u32 0) (.int .u64 0))
    clear rf h4
    go_wp2
    have hrow := HROW.out
    have hchg := HCHG.out
    unfold set4 at hrow hchg
    generalize (World.setCell _ (⟨w.heap.size + 1, 3, none⟩ : Addr) _) = w9 at hrow hchg ⊢
    obtain ⟨⟨q0, q1, q2, q3⟩, _⟩ := row4_cells hrow
    refine bodyPost_ret (by simp [results, Try.results11, go_sem, q0, q1, q2, q3]; rfl) rfl ?_
    exact ⟨hchg, .inr (.inr ⟨HT.out, rfl⟩)⟩
set_option maxHeartbeats 2000000 in
theorem tr_check_few {w : World} {k0 k1 : Nat} {A : Option Addr} {m c : Nat} (hm : m < 8) :
    Calls Try.prog 11 #[.agg #[.int .u64 k0, .int .u64 k1], .slice A m c] w fun e w' => Chg nob w w' ∧ e = .returned (.tuple #[.agg (tokV zeroT), .int .i64 40]) := by
  go_enter Try.func11, Try.ntmps11
  go_wp2_with fail
  refine (tr_read_few hm).mono ?_
  rintro e w2 ⟨hc2, rfl⟩
  rw [show Value.agg (tokV zeroT) = Value.agg #[.string (ByteArray.mk #[]), .int .i64 0, .int .u32 0, .int .u64 0] from rfl]
  have h4 := ckr_start (T := zeroT) hc2
  rw [show w2.alloc (.cells (tokV zeroT) 45) = w2.alloc (.cells #[.string (ByteArray.mk #[]), .int .i64 0, .int .u32 0, .int .u64 0] 45) from rfl] at h4
  clear hc2
  obtain ⟨⟨r0, r1, r2, r3⟩, rf⟩ := row4_cells h4.res
  have rf0 := rf 0
  have rf1 := rf 1
  have rf2 := rf 2
  have rf3 := rf 3
  have HROW := Lib.hid (set4_row h4.res (.string (ByteArray.mk #[])) (.int .i64 0) (.int .u32 0) (.int .u64 0))
  have HCHG := Lib.hid (set4_chg h4.chg (r := w.heap.size + 1) (.inr (Nat.le_succ _)) (.string (ByteArray.mk #[])) (.int .i64 0) (.int .u32 0) (.int .u64 0))
  clear rf h4
  go_wp2
  have hrow := HROW.out
  have hchg := HCHG.out
  unfold set4 at hrow hchg
  generalize (World.setCell _ (⟨w.heap.size + 1, 3, none⟩ : Addr) _) = w9 at hrow hchg ⊢
  obtain ⟨⟨q0, q1, q2, q3⟩, _⟩ := row4_cells hrow
  refine bodyPost_ret (by simp [results, Try.results11, go_sem, q0, q1, q2, q3]; rfl) rfl ?_
  exact ⟨hchg, rfl⟩
end Go.Proofs.Ytcibdcahcpcmaaa
