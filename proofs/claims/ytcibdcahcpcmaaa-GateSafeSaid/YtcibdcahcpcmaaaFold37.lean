import Derived.Test.YtcibdcahcpcmaaaFold32
import Derived.Test.YtcibdcahcpcmaaaFold36
/- Tokens: Read of few bytes; what a call of Check does. -/
namespace Go.Proofs.Ytcibdcahcpcmaaa
open Go.RowKit
set_option maxRecDepth 100000
set_option linter.unusedVariables false
set_option linter.unusedSimpArgs false
theorem t_read_few {w : World} {A : Option Addr} {m c : Nat} (hm : m < 8) :
    Calls Try.prog 29 #[.slice A m c] w fun e w' => Chg nob w w' ∧ e = .returned (.tuple #[.agg (tokV zeroT), .int .i64 40]) := by
  have b1 : (m : Int) < 8 := by omega
  have hrow := heap_alloc_new w (.cells (tokV zeroT) 45)
  have hchg : Chg nob w (w.alloc (.cells (tokV zeroT) 45)) := (Chg.refl _ _).alloc _
  obtain ⟨⟨q0, q1, q2, q3⟩, _⟩ := row4_cells hrow
  go_enter Try.func29, Try.ntmps29
  go_wp2
  go_step3
  go_wp2
  try simp only [Exit.inBlock, Exit.then]
  try rw [Exit.noGoto_ret]
  change bodyPost _ _ _ _ _ (w.alloc (.cells (tokV zeroT) 45))
  generalize w.alloc (.cells (tokV zeroT) 45) = w9 at q0 q1 q2 q3 hchg ⊢
  refine bodyPost_ret (by simp [results, Try.results29, go_sem, q0, q1, q2, q3]; rfl) rfl ?_
  exact ⟨hchg, rfl⟩
/-- Check's blocks: the key in n, the result's place behind it, the token in tb. -/
structure CkSt (w0 : World) (n tb k0 k1 : Nat) (T : Tok) (w : World) : Prop where
  key : w.cell? ⟨n, 0, none⟩ = some (.int .u64 k0) ∧ w.cell? ⟨n, 1, none⟩ = some (.int .u64 k1)
  res : w.heap[n + 1]? = some (.cells (tokV zeroT) 45 (0, 0))
  tok : w.heap[tb]? = some (.cells (tokV T) 45 (0, 0))
  ne : tb ≠ n + 1
  chg : Chg nob w0 w
theorem CkSt.new {w0 w w' : World} {n tb k0 k1 : Nat} {T : Tok} (h : CkSt w0 n tb k0 k1 T w) (hc : Chg nob w w') : CkSt w0 n tb k0 k1 T w' :=
  ⟨⟨hc.cell h.key.1 (not_nob _), hc.cell h.key.2 (not_nob _)⟩, hc.heap h.res (not_nob _), hc.heap h.tok (not_nob _), h.ne, h.chg.thenNew hc⟩
theorem ck_start {w w2 : World} {k0 k1 : Nat} {T : Tok} (hc : Chg nob ((w.alloc (.cells #[.int .u64 k0, .int .u64 k1] 70)).alloc (.cells (tokV zeroT) 45)) w2) :
    CkSt w w.heap.size w2.heap.size k0 k1 T (w2.alloc (.cells (tokV T) 45)) := by
  have h5 := heap_alloc_new w (.cells #[.int .u64 k0, .int .u64 k1] 70)
  have h6 := ((Chg.refl nob (w.alloc (.cells #[.int .u64 k0, .int .u64 k1] 70))).alloc (.cells (tokV zeroT) 45)).heap h5 (not_nob _)
  have h7 := alloc2_row0 w (.cells #[.int .u64 k0, .int .u64 k1] 70) (.cells (tokV zeroT) 45)
  have hA := alloc2_chg0 w (.cells #[.int .u64 k0, .int .u64 k1] 70) (.cells (tokV zeroT) 45)
  have hc3 := (hc.alloc (.cells (tokV T) 45))
  have hlt : w.heap.size + 1 < w2.heap.size := by have := hc.size; simp at this; omega
  have k := row2_cells (hc3.heap h6 (not_nob _))
  exact ⟨k, hc3.heap h7 (not_nob _), heap_alloc_new w2 _, by omega, hA.thenNew hc3⟩
set_option maxRecDepth 100000 in
set_option maxHeartbeats 4000000 in
theorem t_check {w : World} {k0 k1 : Nat} (h0 : k0 < 18446744073709551616) (h1 : k1 < 18446744073709551616) {A : Option Addr} {p c : Nat} {bs : List UInt8} (hb : Kd.byte.C w (fun b => b < w.heap.size) A bs) (hm : bs.length = p + 8) (hmc : p + 8 ≤ c) (hl : p + 8 ≤ 140737488351232) :
    Calls Try.prog 14 #[.agg #[.int .u64 k0, .int .u64 k1], .slice A (p + 8) c] w fun e w' => Chg nob w w' ∧
      ((∃ T, readTok (bs.take p) = some T ∧ bs.drop p = beB (sumN k0 k1 (bs.take p)) ∧ e = .returned (.tuple #[.agg (tokV T), .int .i64 0])) ∨
       (∃ T, readTok (bs.take p) = some T ∧ ¬ bs.drop p = beB (sumN k0 k1 (bs.take p)) ∧ e = .returned (.tuple #[.agg (tokV zeroT), .int .i64 60])) ∨
       (readTok (bs.take p) = none ∧ e = .returned (.tuple #[.agg (tokV zeroT), .int .i64 40]))) := by
  have hcA := alloc2_chg0 w (.cells #[.int .u64 k0, .int .u64 k1] 70) (.cells (tokV zeroT) 45)
  have HB := Lib.hid hb
  have HM := Lib.hid hm
  have HB2 : Hid (Kd.byte.C ((w.alloc (.cells #[.int .u64 k0, .int .u64 k1] 70)).alloc (.cells (tokV zeroT) 45)) (fun b => b < ((w.alloc (.cells #[.int .u64 k0, .int .u64 k1] 70)).alloc (.cells (tokV zeroT) 45)).heap.size) A bs) := Kd.C_mono (Kd.C_new hb hcA) (fun b hb => Nat.lt_of_lt_of_le hb hcA.size)
  clear hb hm hcA
  go_enter Try.func14, Try.ntmps14
  go_wp2_with fail
  refine (t_read HB2.out HM.out hmc hl).mono ?_
  rintro e w2 ⟨hc2, ⟨T, hT, rfl⟩ | ⟨hT, rfl⟩⟩
  · have hst := ck_start (T := T) hc2
    have HB3 : Hid (Kd.byte.C (w2.alloc (.cells (tokV T) 45)) (fun b => b < (w2.alloc (.cells (tokV T) 45)).heap.size) A bs) := Kd.C_mono (Kd.C_new HB.out hst.chg) (fun b hb => Nat.lt_of_lt_of_le hb hst.chg.size)
    obtain ⟨d0, d1⟩ := hst.key
    have HST := Lib.hid hst
    have HT := Lib.hid hT
    clear hc2 hT HB2 hst
    unfold tokV at HB3 HST d0 d1 ⊢
    go_wp2_with fail
    refine (s_takes h0 h1 HB3.out HM.out hmc hl).mono ?_
    rintro e w4 ⟨hc4, ⟨heq, A6, c6, rfl, _⟩ | ⟨hne, rfl⟩⟩
    · have h4 := HST.out.new hc4
      have HEQ := Lib.hid heq
      obtain ⟨t0, t1, t2, t3⟩ := t_cells h4.tok
      have ne := h4.ne
      obtain ⟨⟨r0, r1, r2, r3⟩, rf⟩ := row4_cells h4.res
      have rf0 := rf 0
      have rf1 := rf 1
      have rf2 := rf 2
      have rf3 := rf 3
      have HROW := Lib.hid (set4_row h4.res (.string T.1) (.int .i64 T.2.1) (.int .u32 T.2.2.1) (.int .u64 T.2.2.2))
      have HCHG := Lib.hid (set4_chg h4.chg (r := w.heap.size + 1) (.inr (Nat.le_succ _)) (.string T.1) (.int .i64 T.2.1) (.int .u32 T.2.2.1) (.int .u64 T.2.2.2))
      clear rf h4 hc4 heq d0 d1
      go_wp2
      have hrow := HROW.out
      have hchg := HCHG.out
      unfold set4 at hrow hchg
      generalize (World.setCell _ (⟨w.heap.size + 1, 3, none⟩ : Addr) _) = w9 at hrow hchg ⊢
      obtain ⟨⟨q0, q1, q2, q3⟩, _⟩ := row4_cells hrow
      refine bodyPost_ret (by simp [results, Try.results14, go_sem, q0, q1, q2, q3]; rfl) rfl ?_
      exact ⟨hchg, .inl ⟨T, HT.out, HEQ.out, rfl⟩⟩
    · have h4 := HST.out.new hc4
      have HNE := Lib.hid hne
      obtain ⟨⟨r0, r1, r2, r3⟩, rf⟩ := row4_cells h4.res
      have rf0 := rf 0
      have rf1 := rf 1
      have rf2 := rf 2
      have rf3 := rf 3
      have HROW := Lib.hid (set4_row h4.res (.string (ByteArray.mk #[])) (.int .i64 0) (.int .u32 0) (.int .u64 0))
      have HCHG := Lib.hid (set4_chg h4.chg (r := w.heap.size + 1) (.inr (Nat.le_succ _)) (.string (ByteArray.mk #[])) (.int .i64 0) (.int .u32 0) (.int .u64 0))
      clear rf h4 hc4 hne d0 d1
      go_wp2
      have hrow := HROW.out
      have hchg := HCHG.out
      unfold set4 at hrow hchg
      generalize (World.setCell _ (⟨w.heap.size + 1, 3, none⟩ : Addr) _) = w9 at hrow hchg ⊢
      obtain ⟨⟨q0, q1, q2, q3⟩, _⟩ := row4_cells hrow
      refine bodyPost_ret (by simp [results, Try.results14, go_sem, q0, q1, q2, q3]; rfl) rfl ?_
      exact ⟨hchg, .inr (.inl ⟨T, HT.out, HNE.out, rfl⟩)⟩
  · rw [show Value.agg (tokV zeroT) = Value.agg #[.string (ByteArray.mk #[]), .int .i64 0, .int .u32 0, .int .u64 0] from rfl]
    have h4 := ck_start (T := zeroT) hc2
    rw [show w2.alloc (.cells (tokV zeroT) 45) = w2.alloc (.cells #[.string (ByteArray.mk #[]), .int .i64 0, .int .u32 0, .int .u64 0] 45) from rfl] at h4
    have HT := Lib.hid hT
    clear hc2 hT HB2
    obtain ⟨⟨r0, r1, r2, r3⟩, rf⟩ := row4_cells h4.res
    have rf0 := rf 0
    have rf1 := rf 1
    have rf2 := rf 2
    have rf3 := rf 3
    have HROW := Lib.hid (set4_row h4.res (.string (ByteArray.mk #[])) (.int .i64 0) (.int .u32 0) (.int .u64 0))
    have HCHG := Lib.hid (set4_chg h4.chg (r := w.heap.size + 1) (.inr (Nat.le_succ _)) (.string (ByteArray.mk #[])) (.int .i64 0) (.int .u32 0) (.int .u64 0))
    clear rf h4
    go_wp2
    have hrow := HROW.out
    have hchg := HCHG.out
    unfold set4 at hrow hchg
    generalize (World.setCell _ (⟨w.heap.size + 1, 3, none⟩ : Addr) _) = w9 at hrow hchg ⊢
    obtain ⟨⟨q0, q1, q2, q3⟩, _⟩ := row4_cells hrow
    refine bodyPost_ret (by simp [results, Try.results14, go_sem, q0, q1, q2, q3]; rfl) rfl ?_
    exact ⟨hchg, .inr (.inr ⟨HT.out, rfl⟩)⟩
set_option maxHeartbeats 2000000 in
theorem t_check_few {w : World} {k0 k1 : Nat} {A : Option Addr} {m c : Nat} (hm : m < 8) :
    Calls Try.prog 14 #[.agg #[.int .u64 k0, .int .u64 k1], .slice A m c] w fun e w' => Chg nob w w' ∧ e = .returned (.tuple #[.agg (tokV zeroT), .int .i64 40]) := by
  go_enter Try.func14, Try.ntmps14
  go_wp2_with fail
  refine (t_read_few hm).mono ?_
  rintro e w2 ⟨hc2, rfl⟩
  rw [show Value.agg (tokV zeroT) = Value.agg #[.string (ByteArray.mk #[]), .int .i64 0, .int .u32 0, .int .u64 0] from rfl]
  have h4 := ck_start (T := zeroT) hc2
  rw [show w2.alloc (.cells (tokV zeroT) 45) = w2.alloc (.cells #[.string (ByteArray.mk #[]), .int .i64 0, .int .u32 0, .int .u64 0] 45) from rfl] at h4
  clear hc2
  obtain ⟨⟨r0, r1, r2, r3⟩, rf⟩ := row4_cells h4.res
  have rf0 := rf 0
  have rf1 := rf 1
  have rf2 := rf 2
  have rf3 := rf 3
  have HROW := Lib.hid (set4_row h4.res (.string (ByteArray.mk #[])) (.int .i64 0) (.int .u32 0) (.int .u64 0))
  have HCHG := Lib.hid (set4_chg h4.chg (r := w.heap.size + 1) (.inr (Nat.le_succ _)) (.string (ByteArray.mk #[])) (.int .i64 0) (.int .u32 0) (.int .u64 0))
  clear rf h4
  go_wp2
  have hrow := HROW.out
  have hchg := HCHG.out
  unfold set4 at hrow hchg
  generalize (World.setCell _ (⟨w.heap.size + 1, 3, none⟩ : Addr) _) = w9 at hrow hchg ⊢
  obtain ⟨⟨q0, q1, q2, q3⟩, _⟩ := row4_cells hrow
  refine bodyPost_ret (by simp [results, Try.results14, go_sem, q0, q1, q2, q3]; rfl) rfl ?_
  exact ⟨hchg, rfl⟩
end Go.Proofs.Ytcibdcahcpcmaaa
