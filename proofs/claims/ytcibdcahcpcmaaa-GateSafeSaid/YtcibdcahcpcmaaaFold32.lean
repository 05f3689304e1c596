import Derived.Test.YtcibdcahcpcmaaaFold31
import Derived.WalkMore
import Derived.Handy
/- Tokens: what a call of Read does. -/
namespace Go.Proofs.Ytcibdcahcpcmaaa
open Go.RowKit
set_option maxRecDepth 100000
set_option linter.unusedVariables false
set_option linter.unusedSimpArgs false
attribute [local go_sem] idx6_0 idx6_1 idx6_2 idx6_3 idx6_4 idx6_5
def k6 (T : Tok) (bs : List UInt8) : Option Tok := some T
def k5 (T : Tok) (bs : List UInt8) : Option Tok := if tokOk T.1 T.2.1 = true then k6 T bs else none
def k4 (T : Tok) (bs : List UInt8) : Option Tok := if rDone bs 0 = 0 then k5 T bs else none
def k3 (T : Tok) (bs : List UInt8) : Option Tok := if (rNum true bs 0 18446744073709551615).2.2 = 0 then k4 (T.1, T.2.1, T.2.2.1, (rNum true bs 0 18446744073709551615).1) (rNum true bs 0 18446744073709551615).2.1 else none
def k2 (T : Tok) (bs : List UInt8) : Option Tok := if (rNum true bs 0 4294967295).2.2 = 0 then k3 (T.1, T.2.1, (rNum true bs 0 4294967295).1, T.2.2.2) (rNum true bs 0 4294967295).2.1 else none
def k1 (T : Tok) (bs : List UInt8) : Option Tok := if (rNum true bs 0 255).2.2 = 0 then k2 (T.1, (rNum true bs 0 255).1, T.2.2) (rNum true bs 0 255).2.1 else none
def k0 (T : Tok) (bs : List UInt8) : Option Tok := if (rText true bs 0 80).2.2 = 0 then k1 ((rText true bs 0 80).1, T.2) (rText true bs 0 80).2.1 else none
def kAt : Nat → Tok → List UInt8 → Option Tok
  | 0 => k0
  | 1 => k1
  | 2 => k2
  | 3 => k3
  | 4 => k4
  | 5 => k5
  | _ => k6
def zeroT : Tok := (ByteArray.empty, 0, 0, 0)
/-- The token of bytes. -/
def readTok (bs : List UInt8) : Option Tok := k0 zeroT bs
theorem rText_size (st : Bool) (bs : List UInt8) (e : Nat) (most : Int) : (rText st bs e most).1.size ≤ (max most 0).toNat := by
  unfold rText
  split
  · split
    · rename_i h
      unfold rTextE at h
      split at h
      · rename_i h2; exact absurd h h2
      · split at h
        · cases h
        · rename_i h3
          rw [strOf_size, List.length_take]
          omega
    · exact Nat.zero_le _
  · exact Nat.zero_le _
theorem rd_bound {w : World} {ok : Nat → Prop} {g : Nat} {mk : Bool} {bs : List UInt8} {e : Nat} (h : IsRdAt w ok g mk bs e) : IsRdAt w (fun b => ok b ∧ b < w.heap.size) g mk bs e := by
  obtain ⟨h0, A, c, h1, h2, h3⟩ := h
  exact ⟨⟨h0, heap_lt h1⟩, A, c, h1, h2, Kd.C_mono (Kd.C_bound h3) (fun b hb => ⟨⟨hb.1.1, hb.2⟩, hb.1.2⟩)⟩
theorem rt_start {w0 w1 w2 : World} {r rb tb0 : Nat} {bs : List UInt8} (h1 : w1.heap[w0.heap.size]? = some (.cells (tokV zeroT) 45 (0, 0))) (hz : w1.heap.size = w0.heap.size + 1) (hc1 : Chg nob w0 w1) (hrd : IsRdAt w2 (fun b => w1.heap.size ≤ b) r true bs 0) (hc2 : Chg nob w1 w2) :
    RtSt w0 w2.heap.size (w2.heap.size + 1) w0.heap.size r zeroT bs 0 ((w2.alloc (.cells #[.pointer (some ⟨r, 0, none⟩)] 109)).alloc (.cells (tokV zeroT) 45)) := by
  have h5 := heap_alloc_new w2 (.cells #[.pointer (some ⟨r, 0, none⟩)] 109)
  have h6 := ((Chg.refl nob (w2.alloc (.cells #[.pointer (some ⟨r, 0, none⟩)] 109))).alloc (.cells (tokV zeroT) 45)).heap h5 (not_nob _)
  have hcA : Chg nob w2 ((w2.alloc (.cells #[.pointer (some ⟨r, 0, none⟩)] 109)).alloc (.cells (tokV zeroT) 45)) := ((Chg.refl _ _).alloc _).alloc _
  have hlt := hrd.lt
  have hs2 := hc2.size
  refine ⟨?_, ?_, ?_, ?_, by omega, (hc1.thenNew hc2).thenNew hcA⟩
  · rw [cell_of_row _ _ 0 _ _ _ h6]; rfl
  · have h7 := heap_alloc_new (w2.alloc (.cells #[.pointer (some ⟨r, 0, none⟩)] 109)) (.cells (tokV zeroT) 45)
    rw [show (w2.alloc (.cells #[.pointer (some ⟨r, 0, none⟩)] 109)).heap.size = w2.heap.size + 1 from by simp] at h7
    exact h7
  · exact (hc2.thenNew hcA).heap h1 (not_nob _)
  · exact ((rd_bound hrd).chg hcA (fun b _ => not_nob b)).mono (fun b hb => by have := hb.1; have := hb.2; omega)
set_option maxRecDepth 100000 in
set_option maxHeartbeats 4000000 in
theorem t_read {w : World} {A : Option Addr} {p c : Nat} {bs : List UInt8} (hb : Kd.byte.C w (fun b => b < w.heap.size) A bs) (hm : bs.length = p + 8) (hmc : p + 8 ≤ c) (hl : p + 8 ≤ 140737488351232) :
    Calls Try.prog 29 #[.slice A (p + 8) c] w fun e w' => Chg nob w w' ∧
      ((∃ T, readTok (bs.take p) = some T ∧ e = .returned (.tuple #[.agg (tokV T), .int .i64 0])) ∨ (readTok (bs.take p) = none ∧ e = .returned (.tuple #[.agg (tokV zeroT), .int .i64 40]))) := by
  have HB := Lib.hid hb
  have HTL : Hid ((bs.take p).length = p) := by show _ = _; rw [List.length_take, hm]; omega
  have HPB : Hid (p ≤ bs.length) := by show _ ≤ _; omega
  have g1 : (0 : Int) ≤ (p : Int) := by omega
  have g3 : ¬ (p : Int) + 8 < 8 := by omega
  have g2 : (p : Int) ≤ (c : Int) := by omega
  have c0 : Chg nob w (w.alloc (.cells (tokV zeroT) 45)) := (Chg.refl _ _).alloc _
  clear hb hm
  go_enter Try.func29, Try.ntmps29
  go_wp2
  go_step3
  go_wp2_with fail
  refine (rd_read (Kd.C_take (Kd.C_new HB.out c0) p HPB.out) HTL.out (by omega)).mono ?_
  rintro e w2 ⟨r, rfl, hrd, hc2⟩
  have hst := rt_start (bs := bs.take p) (tb0 := 0) (rb := 0) (heap_alloc_new w _) (by simp) c0 hrd hc2
  have HEQ : Hid (readTok (bs.take p) = kAt 0 zeroT (bs.take p)) := rfl
  clear hrd c0
  go_wp2
  go_step3
  generalize w2.heap.size + 1 = tb at hst ⊢
  generalize w2.heap.size = gb at hst ⊢
  clear hc2 HB HTL HPB
  go_wp2
  go_loopw [6, 26] (fun v i wr => ∃ (j : Nat) (T : Tok) (b : List UInt8), j ≤ 6 ∧ v = .bool true ∧ i = .int .i64 j ∧ Hid (RtSt w gb tb w.heap.size r T b 0 wr) ∧ Hid (readTok (bs.take p) = kAt j T b) ∧ Hid (T.1.size ≤ 9223372036854775807)) (fun _ i _ => 6 - (intOf i).toNat)
  case atStart => exact ⟨0, zeroT, _, by decide, rfl, rfl, hst, HEQ.out, by show _ ≤ _; simp [zeroT]⟩
  case round =>
    obtain ⟨j, T, b, hj, rfl, rfl, HST, HK, HSZ⟩ := hrel
    clear hst HEQ
    have hj6 : j = 6 ∨ j = 0 ∨ j = 1 ∨ j = 2 ∨ j = 3 ∨ j = 4 ∨ j = 5 := by omega
    rcases hj6 with rfl | rfl | rfl | rfl | rfl | rfl | rfl
    · rw [show (((6 : Nat)) : Int) = 6 from rfl]
      obtain ⟨c0, c1, c2, c3⟩ := HST.out.cells
      obtain ⟨⟨r0, r1, r2, r3⟩, rf⟩ := row4_cells HST.out.res
      have rf0 := rf 0
      have rf1 := rf 1
      have rf2 := rf 2
      have rf3 := rf 3
      have HROW := Lib.hid (set4_row HST.out.res (.string T.1) (.int .i64 T.2.1) (.int .u32 T.2.2.1) (.int .u64 T.2.2.2))
      have HCHG := Lib.hid (set4_chg HST.out.chg (r := w.heap.size) (.inr (Nat.le_refl _)) (.string T.1) (.int .i64 T.2.1) (.int .u32 T.2.2.1) (.int .u64 T.2.2.2))
      clear rf
      go_wp2
      have hrow := HROW.out
      have hchg := HCHG.out
      unfold set4 at hrow hchg
      generalize (World.setCell _ (⟨w.heap.size, 3, none⟩ : Addr) _) = w9 at hrow hchg ⊢
      obtain ⟨⟨q0, q1, q2, q3⟩, _⟩ := row4_cells hrow
      try simp only [Exit.inBlock, Exit.then]
      try rw [Exit.noGoto_ret]
      refine bodyPost_ret (by simp [results, Try.results29, go_sem, q0, q1, q2, q3]; rfl) rfl ?_
      exact ⟨hchg, .inl ⟨T, HK.out, rfl⟩⟩
    · rw [show (((0 : Nat)) : Int) = 0 from rfl]
      go_wp2_with fail
      refine (step1 HST.out).mono ?_
      rintro e w5 ⟨rfl, h5⟩
      by_cases he : (rText true b 0 80).2.2 = 0
      · have hk : kAt 0 T b = kAt 1 ((rText true b 0 80).1, T.2) (rText true b 0 80).2.1 := by show k0 T b = k1 _ _; rw [k0, if_pos he]
        rw [he] at h5 ⊢
        have H5 := Lib.hid h5
        have HK2 : Hid (readTok (bs.take p) = kAt 1 ((rText true b 0 80).1, T.2) (rText true b 0 80).2.1) := HK.out.trans hk
        have HSZ2 : Hid ((((rText true b 0 80).1, T.2) : Tok).1.size ≤ 9223372036854775807) := by show _ ≤ _; exact Nat.le_trans (rText_size true b 0 80) (by decide)
        clear h5 hk
        go_wp2
        exact ⟨⟨1, _, _, by decide, rfl, rfl, H5.out, HK2.out, HSZ2.out⟩, by decide⟩
      · have hb : ((rText true b 0 80).2.2 == 0) = false := by simp [he]
        have hk : kAt 0 T b = none := by show k0 T b = none; rw [k0, if_neg he]
        have HN : Hid (readTok (bs.take p) = none) := HK.out.trans hk
        rw [hb]
        clear hk
        obtain ⟨⟨r0, r1, r2, r3⟩, rf⟩ := row4_cells h5.res
        have rf0 := rf 0
        have rf1 := rf 1
        have rf2 := rf 2
        have rf3 := rf 3
        have HROW := Lib.hid (set4_row h5.res (.string (ByteArray.mk #[])) (.int .i64 0) (.int .u32 0) (.int .u64 0))
        have HCHG := Lib.hid (set4_chg h5.chg (r := w.heap.size) (.inr (Nat.le_refl _)) (.string (ByteArray.mk #[])) (.int .i64 0) (.int .u32 0) (.int .u64 0))
        clear rf
        clear h5
        go_wp2
        have hrow := HROW.out
        have hchg := HCHG.out
        unfold set4 at hrow hchg
        generalize (World.setCell _ (⟨w.heap.size, 3, none⟩ : Addr) _) = w9 at hrow hchg ⊢
        obtain ⟨⟨q0, q1, q2, q3⟩, _⟩ := row4_cells hrow
        try simp only [Exit.inBlock, Exit.then]
        try rw [Exit.noGoto_ret]
        refine bodyPost_ret (by simp [results, Try.results29, go_sem, q0, q1, q2, q3]; rfl) rfl ?_
        exact ⟨hchg, .inr ⟨HN.out, rfl⟩⟩
    · rw [show (((1 : Nat)) : Int) = 1 from rfl]
      go_wp2_with fail
      refine (step2 HST.out).mono ?_
      rintro e w5 ⟨rfl, h5⟩
      by_cases he : (rNum true b 0 255).2.2 = 0
      · have hk : kAt 1 T b = kAt 2 (T.1, (rNum true b 0 255).1, T.2.2) (rNum true b 0 255).2.1 := by show k1 T b = k2 _ _; rw [k1, if_pos he]
        rw [he] at h5 ⊢
        have H5 := Lib.hid h5
        have HK2 : Hid (readTok (bs.take p) = kAt 2 (T.1, (rNum true b 0 255).1, T.2.2) (rNum true b 0 255).2.1) := HK.out.trans hk
        have HSZ2 : Hid (((T.1, (rNum true b 0 255).1, T.2.2) : Tok).1.size ≤ 9223372036854775807) := HSZ.out
        clear h5 hk
        go_wp2
        exact ⟨⟨2, _, _, by decide, rfl, rfl, H5.out, HK2.out, HSZ2.out⟩, by decide⟩
      · have hb : ((rNum true b 0 255).2.2 == 0) = false := by simp [he]
        have hk : kAt 1 T b = none := by show k1 T b = none; rw [k1, if_neg he]
        have HN : Hid (readTok (bs.take p) = none) := HK.out.trans hk
        rw [hb]
        clear hk
        obtain ⟨⟨r0, r1, r2, r3⟩, rf⟩ := row4_cells h5.res
        have rf0 := rf 0
        have rf1 := rf 1
        have rf2 := rf 2
        have rf3 := rf 3
        have HROW := Lib.hid (set4_row h5.res (.string (ByteArray.mk #[])) (.int .i64 0) (.int .u32 0) (.int .u64 0))
        have HCHG := Lib.hid (set4_chg h5.chg (r := w.heap.size) (.inr (Nat.le_refl _)) (.string (ByteArray.mk #[])) (.int .i64 0) (.int .u32 0) (.int .u64 0))
        clear rf
        clear h5
        go_wp2
        have hrow := HROW.out
        have hchg := HCHG.out
        unfold set4 at hrow hchg
        generalize (World.setCell _ (⟨w.heap.size, 3, none⟩ : Addr) _) = w9 at hrow hchg ⊢
        obtain ⟨⟨q0, q1, q2, q3⟩, _⟩ := row4_cells hrow
        try simp only [Exit.inBlock, Exit.then]
        try rw [Exit.noGoto_ret]
        refine bodyPost_ret (by simp [results, Try.results29, go_sem, q0, q1, q2, q3]; rfl) rfl ?_
        exact ⟨hchg, .inr ⟨HN.out, rfl⟩⟩
    · rw [show (((2 : Nat)) : Int) = 2 from rfl]
      go_wp2_with fail
      refine (step3 HST.out).mono ?_
      rintro e w5 ⟨rfl, h5⟩
      by_cases he : (rNum true b 0 4294967295).2.2 = 0
      · have hk : kAt 2 T b = kAt 3 (T.1, T.2.1, (rNum true b 0 4294967295).1, T.2.2.2) (rNum true b 0 4294967295).2.1 := by show k2 T b = k3 _ _; rw [k2, if_pos he]
        rw [he] at h5 ⊢
        have H5 := Lib.hid h5
        have HK2 : Hid (readTok (bs.take p) = kAt 3 (T.1, T.2.1, (rNum true b 0 4294967295).1, T.2.2.2) (rNum true b 0 4294967295).2.1) := HK.out.trans hk
        have HSZ2 : Hid (((T.1, T.2.1, (rNum true b 0 4294967295).1, T.2.2.2) : Tok).1.size ≤ 9223372036854775807) := HSZ.out
        clear h5 hk
        go_wp2
        exact ⟨⟨3, _, _, by decide, rfl, rfl, H5.out, HK2.out, HSZ2.out⟩, by decide⟩
      · have hb : ((rNum true b 0 4294967295).2.2 == 0) = false := by simp [he]
        have hk : kAt 2 T b = none := by show k2 T b = none; rw [k2, if_neg he]
        have HN : Hid (readTok (bs.take p) = none) := HK.out.trans hk
        rw [hb]
        clear hk
        obtain ⟨⟨r0, r1, r2, r3⟩, rf⟩ := row4_cells h5.res
        have rf0 := rf 0
        have rf1 := rf 1
        have rf2 := rf 2
        have rf3 := rf 3
        have HROW := Lib.hid (set4_row h5.res (.string (ByteArray.mk #[])) (.int .i64 0) (.int .u32 0) (.int .u64 0))
        have HCHG := Lib.hid (set4_chg h5.chg (r := w.heap.size) (.inr (Nat.le_refl _)) (.string (ByteArray.mk #[])) (.int .i64 0) (.int .u32 0) (.int .u64 0))
        clear rf
        clear h5
        go_wp2
        have hrow := HROW.out
        have hchg := HCHG.out
        unfold set4 at hrow hchg
        generalize (World.setCell _ (⟨w.heap.size, 3, none⟩ : Addr) _) = w9 at hrow hchg ⊢
        obtain ⟨⟨q0, q1, q2, q3⟩, _⟩ := row4_cells hrow
        try simp only [Exit.inBlock, Exit.then]
        try rw [Exit.noGoto_ret]
        refine bodyPost_ret (by simp [results, Try.results29, go_sem, q0, q1, q2, q3]; rfl) rfl ?_
        exact ⟨hchg, .inr ⟨HN.out, rfl⟩⟩
    · rw [show (((3 : Nat)) : Int) = 3 from rfl]
      go_wp2_with fail
      refine (step4 HST.out).mono ?_
      rintro e w5 ⟨rfl, h5⟩
      by_cases he : (rNum true b 0 18446744073709551615).2.2 = 0
      · have hk : kAt 3 T b = kAt 4 (T.1, T.2.1, T.2.2.1, (rNum true b 0 18446744073709551615).1) (rNum true b 0 18446744073709551615).2.1 := by show k3 T b = k4 _ _; rw [k3, if_pos he]
        rw [he] at h5 ⊢
        have H5 := Lib.hid h5
        have HK2 : Hid (readTok (bs.take p) = kAt 4 (T.1, T.2.1, T.2.2.1, (rNum true b 0 18446744073709551615).1) (rNum true b 0 18446744073709551615).2.1) := HK.out.trans hk
        have HSZ2 : Hid (((T.1, T.2.1, T.2.2.1, (rNum true b 0 18446744073709551615).1) : Tok).1.size ≤ 9223372036854775807) := HSZ.out
        clear h5 hk
        go_wp2
        exact ⟨⟨4, _, _, by decide, rfl, rfl, H5.out, HK2.out, HSZ2.out⟩, by decide⟩
      · have hb : ((rNum true b 0 18446744073709551615).2.2 == 0) = false := by simp [he]
        have hk : kAt 3 T b = none := by show k3 T b = none; rw [k3, if_neg he]
        have HN : Hid (readTok (bs.take p) = none) := HK.out.trans hk
        rw [hb]
        clear hk
        obtain ⟨⟨r0, r1, r2, r3⟩, rf⟩ := row4_cells h5.res
        have rf0 := rf 0
        have rf1 := rf 1
        have rf2 := rf 2
        have rf3 := rf 3
        have HROW := Lib.hid (set4_row h5.res (.string (ByteArray.mk #[])) (.int .i64 0) (.int .u32 0) (.int .u64 0))
        have HCHG := Lib.hid (set4_chg h5.chg (r := w.heap.size) (.inr (Nat.le_refl _)) (.string (ByteArray.mk #[])) (.int .i64 0) (.int .u32 0) (.int .u64 0))
        clear rf
        clear h5
        go_wp2
        have hrow := HROW.out
        have hchg := HCHG.out
        unfold set4 at hrow hchg
        generalize (World.setCell _ (⟨w.heap.size, 3, none⟩ : Addr) _) = w9 at hrow hchg ⊢
        obtain ⟨⟨q0, q1, q2, q3⟩, _⟩ := row4_cells hrow
        try simp only [Exit.inBlock, Exit.then]
        try rw [Exit.noGoto_ret]
        refine bodyPost_ret (by simp [results, Try.results29, go_sem, q0, q1, q2, q3]; rfl) rfl ?_
        exact ⟨hchg, .inr ⟨HN.out, rfl⟩⟩
    · rw [show (((4 : Nat)) : Int) = 4 from rfl]
      go_wp2_with fail
      refine (step5 HST.out).mono ?_
      rintro e w5 ⟨rfl, rfl⟩
      by_cases he : rDone b 0 = 0
      · have hk : kAt 4 T b = kAt 5 T b := by show k4 T b = k5 _ _; rw [k4, if_pos he]
        rw [he]
        have HK2 : Hid (readTok (bs.take p) = kAt 5 T b) := HK.out.trans hk
        clear hk
        go_wp2
        exact ⟨⟨5, _, _, by decide, rfl, rfl, HST.out, HK2.out, HSZ.out⟩, by decide⟩
      · have hb : (rDone b 0 == 0) = false := by simp [he]
        have hk : kAt 4 T b = none := by show k4 T b = none; rw [k4, if_neg he]
        have HN : Hid (readTok (bs.take p) = none) := HK.out.trans hk
        rw [hb]
        clear hk
        obtain ⟨⟨r0, r1, r2, r3⟩, rf⟩ := row4_cells HST.out.res
        have rf0 := rf 0
        have rf1 := rf 1
        have rf2 := rf 2
        have rf3 := rf 3
        have HROW := Lib.hid (set4_row HST.out.res (.string (ByteArray.mk #[])) (.int .i64 0) (.int .u32 0) (.int .u64 0))
        have HCHG := Lib.hid (set4_chg HST.out.chg (r := w.heap.size) (.inr (Nat.le_refl _)) (.string (ByteArray.mk #[])) (.int .i64 0) (.int .u32 0) (.int .u64 0))
        clear rf
        go_wp2
        have hrow := HROW.out
        have hchg := HCHG.out
        unfold set4 at hrow hchg
        generalize (World.setCell _ (⟨w.heap.size, 3, none⟩ : Addr) _) = w9 at hrow hchg ⊢
        obtain ⟨⟨q0, q1, q2, q3⟩, _⟩ := row4_cells hrow
        try simp only [Exit.inBlock, Exit.then]
        try rw [Exit.noGoto_ret]
        refine bodyPost_ret (by simp [results, Try.results29, go_sem, q0, q1, q2, q3]; rfl) rfl ?_
        exact ⟨hchg, .inr ⟨HN.out, rfl⟩⟩
    · rw [show (((5 : Nat)) : Int) = 5 from rfl]
      go_wp2_with fail
      refine (step6 HST.out HSZ.out).mono ?_
      rintro e w5 ⟨rfl, h5⟩
      by_cases he : tokOk T.1 T.2.1 = true
      · have hk : kAt 5 T b = kAt 6 T b := by show k5 T b = k6 T b; rw [k5, if_pos he]
        rw [he]
        have H5 := Lib.hid h5
        have HK2 : Hid (readTok (bs.take p) = kAt 6 T b) := HK.out.trans hk
        clear h5 hk
        go_wp2
        exact ⟨⟨6, _, _, by decide, rfl, rfl, H5.out, HK2.out, HSZ.out⟩, by decide⟩
      · have hb : tokOk T.1 T.2.1 = false := by simpa using he
        have hk : kAt 5 T b = none := by show k5 T b = none; rw [k5, if_neg he]
        have HN : Hid (readTok (bs.take p) = none) := HK.out.trans hk
        rw [hb]
        clear hk
        obtain ⟨⟨r0, r1, r2, r3⟩, rf⟩ := row4_cells h5.res
        have rf0 := rf 0
        have rf1 := rf 1
        have rf2 := rf 2
        have rf3 := rf 3
        have HROW := Lib.hid (set4_row h5.res (.string (ByteArray.mk #[])) (.int .i64 0) (.int .u32 0) (.int .u64 0))
        have HCHG := Lib.hid (set4_chg h5.chg (r := w.heap.size) (.inr (Nat.le_refl _)) (.string (ByteArray.mk #[])) (.int .i64 0) (.int .u32 0) (.int .u64 0))
        clear rf
        clear h5
        go_wp2
        have hrow := HROW.out
        have hchg := HCHG.out
        unfold set4 at hrow hchg
        generalize (World.setCell _ (⟨w.heap.size, 3, none⟩ : Addr) _) = w9 at hrow hchg ⊢
        obtain ⟨⟨q0, q1, q2, q3⟩, _⟩ := row4_cells hrow
        try simp only [Exit.inBlock, Exit.then]
        try rw [Exit.noGoto_ret]
        refine bodyPost_ret (by simp [results, Try.results29, go_sem, q0, q1, q2, q3]; rfl) rfl ?_
        exact ⟨hchg, .inr ⟨HN.out, rfl⟩⟩
end Go.Proofs.Ytcibdcahcpcmaaa
