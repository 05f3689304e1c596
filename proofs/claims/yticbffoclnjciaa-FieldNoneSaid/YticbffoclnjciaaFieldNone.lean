/- The law FieldNone: the walk. -/
import Derived.Test.YticbffoclnjciaaReaderList
import Derived.Test.YticbffoclnjciaaOpen
namespace Go.Proofs.Yticbffoclnjciaa
open Go.RowKit
set_option linter.unusedVariables false
/-- The law's blocks: the step at n, a reader that no call made at n + 1, the two readers at n + 2. -/
structure NoneSt (w0 : World) (n : Nat) (s1 s2 s3 : Value) (p : Option Addr) (w : World) : Prop where
  at_ : p = none ∨ p = some ⟨n + 1, 0, none⟩
  rd : IsRd w (fun b => b = n + 1) (some ⟨n + 1, 0, none⟩) false [] 0
  c1 : w.cell? ⟨n, 1, none⟩ = some s1
  c2 : w.cell? ⟨n, 2, none⟩ = some s2
  c3 : w.cell? ⟨n, 3, none⟩ = some s3
  l0 : w.cell? ⟨n + 2, 0, none⟩ = some (.pointer none)
  l1 : w.cell? ⟨n + 2, 1, none⟩ = some (.pointer (some ⟨n + 1, 0, none⟩))
  low : w0.heap.size ≤ n
  chg : Chg nob w0 w
section
variable {w0 w w' : World} {n : Nat} {s1 s2 s3 : Value} {p : Option Addr}
theorem NoneSt.me (h : NoneSt w0 n s1 s2 s3 p w) : IsRd w (fun b => b = n + 1) p false [] 0 := by
  rcases h.at_ with rfl | rfl
  · exact .inr ⟨rfl, rfl, rfl, rfl⟩
  · exact h.rd
theorem NoneSt.step (h : NoneSt w0 n s1 s2 s3 p w) (hd : IsRd w' (fun b => b = n + 1) p false [] 0) (hc : Chg (At p) w w') : NoneSt w0 n s1 s2 s3 p w' := by
  have hp : ∀ k, At p k → k = n + 1 := by
    intro k hk
    rcases h.at_ with e | e <;> (rw [e] at hk; cases hk)
    rfl
  have hq : ∀ k, k ≠ n + 1 → ¬ At p k := fun k hk e => hk (hp k e)
  refine ⟨h.at_, ?_, hc.cell h.c1 (hq _ (by show n ≠ n + 1; omega)), hc.cell h.c2 (hq _ (by show n ≠ n + 1; omega)), hc.cell h.c3 (hq _ (by show n ≠ n + 1; omega)), hc.cell h.l0 (hq _ (by show n + 2 ≠ n + 1; omega)), hc.cell h.l1 (hq _ (by show n + 2 ≠ n + 1; omega)), h.low, h.chg.trans hc (fun k hk => .inr (by rw [hp k hk]; have := h.low; omega))⟩
  rcases h.at_ with e | e
  · exact h.rd.chg hc (fun k _ e' => by rw [e] at e'; cases e')
  · rw [e] at hd
    exact hd
end
set_option maxRecDepth 100000 in
set_option maxHeartbeats 4000000 in
theorem fieldNone_walk {w : World} (s0 s1 s2 : Int) (s3 : Nat) (h1 : -9223372036854775808 ≤ s1) (h1' : s1 ≤ 9223372036854775807) (h2 : -9223372036854775808 ≤ s2) (h2' : s2 ≤ 9223372036854775807) (h3 : s3 < 18446744073709551616) :
    Calls Try.prog 4 #[.agg #[.int .i64 s0, .int .i64 s1, .int .i64 s2, .int .u64 s3]] w fun e w' => e = .returned (.bool true) ∧ Chg nob w w' := by
  go_enter Try.func4, Try.ntmps4
  go_wp2
  obtain ⟨w1, hw1⟩ : ∃ w1, w1 = ((w.alloc (.cells #[.int .i64 s0, .int .i64 s1, .int .i64 s2, .int .u64 s3] 41)).alloc (.cells #[.bool false, .slice none 0 0, .int .i64 0] 45)).alloc (.cells #[.pointer none, .pointer (some ⟨w.heap.size + 1, 0, none⟩)] 42) := ⟨_, rfl⟩
  have hs0 : Hid (NoneSt w w.heap.size (.int .i64 s1) (.int .i64 s2) (.int .u64 s3) none w1) := by
    have c := fun (o : Obj) => (Chg.refl nob w).alloc o
    have k0 := heap_alloc_new w (.cells #[.int .i64 s0, .int .i64 s1, .int .i64 s2, .int .u64 s3] 41)
    obtain ⟨wa, ha⟩ : ∃ wa, wa = w.alloc (.cells #[.int .i64 s0, .int .i64 s1, .int .i64 s2, .int .u64 s3] 41) := ⟨_, rfl⟩
    have za : wa.heap.size = w.heap.size + 1 := by rw [ha]; simp
    have ca : Chg nob w wa := by rw [ha]; exact c _
    rw [← ha] at k0 hw1
    have k1 := heap_alloc_new wa (.cells #[.bool false, .slice none 0 0, .int .i64 0] 45)
    obtain ⟨wb, hb⟩ : ∃ wb, wb = wa.alloc (.cells #[.bool false, .slice none 0 0, .int .i64 0] 45) := ⟨_, rfl⟩
    have zb : wb.heap.size = w.heap.size + 2 := by rw [hb]; simp [za]
    have cb : Chg nob wa wb := by rw [hb]; exact (Chg.refl _ _).alloc _
    rw [← hb, za] at k1
    rw [← hb] at hw1
    have k2 := heap_alloc_new wb (.cells #[.pointer none, .pointer (some ⟨w.heap.size + 1, 0, none⟩)] 42)
    have cc : Chg nob wb w1 := by rw [hw1]; exact (Chg.refl _ _).alloc _
    rw [← hw1, zb] at k2
    have k0' := (cb.thenNew cc).heap k0 (not_nob _)
    have k1' := cc.heap k1 (not_nob _)
    refine ⟨.inl rfl, .inl ⟨_, rfl, rfl, none, 0, k1', Nat.le_refl _, Kd.C_nil _ _ _ _⟩, ?_, ?_, ?_, ?_, ?_, Nat.le_refl _, (ca.thenNew cb).thenNew cc⟩
    · rw [cell_of_row _ _ 1 _ _ _ k0']; rfl
    · rw [cell_of_row _ _ 2 _ _ _ k0']; rfl
    · rw [cell_of_row _ _ 3 _ _ _ k0']; rfl
    · rw [cell_of_row _ _ 0 _ _ _ k2]; rfl
    · rw [cell_of_row _ _ 1 _ _ _ k2]; rfl
  rw [← hw1]
  clear hw1
  go_loopw [5] (fun i wr => ∃ j : Nat, i = .int .i64 j ∧ j ≤ 2 ∧ Hid (NoneSt w w.heap.size (.int .i64 s1) (.int .i64 s2) (.int .u64 s3) none wr)) (fun i _ => 2 - (intOf i).toNat)
  case atStart => exact ⟨0, rfl, by omega, hs0⟩
  case round =>
    obtain ⟨j, rfl, hj, HS⟩ := hrel
    by_cases hj0 : j = 0
    · subst hj0
      have l0 := HS.out.l0
      rw [show (((0 : Nat) : Int)) = (0 : Int) from rfl]
      have c1 := HS.out.c1
      have c2 := HS.out.c2
      have c3 := HS.out.c3
      go_wp2_with fail
      refine (rd_num HS.out.me s3 h3).mono ?_
      rintro x w' ⟨rfl, h5, h6⟩
      rw [show rNum false [] 0 s3 = (0, [], 0) from rfl] at h5 ⊢
      rw [show (((0 : Nat) : Int)) = (0 : Int) from rfl]
      have HS := Lib.hid (HS.out.step h5 h6)
      clear h5 h6
      clear c1 c2 c3
      have c1 := HS.out.c1
      have c2 := HS.out.c2
      have c3 := HS.out.c3
      go_wp2_with fail
      refine (rd_text HS.out.me s2 h2 h2').mono ?_
      rintro x w' ⟨rfl, h5, h6⟩
      rw [show rText false [] 0 s2 = (⟨#[]⟩, [], 0) from rfl] at h5 ⊢
      have HS := Lib.hid (HS.out.step h5 h6)
      clear h5 h6
      clear c1 c2 c3
      have c1 := HS.out.c1
      have c2 := HS.out.c2
      have c3 := HS.out.c3
      go_wp2_with fail
      refine (rd_flag HS.out.me).mono ?_
      rintro x w' ⟨rfl, h5, h6⟩
      rw [show rFlag false [] 0 = (false, [], 0) from rfl] at h5 ⊢
      have HS := Lib.hid (HS.out.step h5 h6)
      clear h5 h6
      clear c1 c2 c3
      have c1 := HS.out.c1
      have c2 := HS.out.c2
      have c3 := HS.out.c3
      go_wp2_with fail
      refine (rd_texts HS.out.me s1 h1 h1' s2 h2 h2' (Nat.zero_le _)).mono ?_
      rintro x w' ⟨A, c, rfl, _, _, h5, h6⟩
      rw [show rList (rT s2) false [] 0 s1 = ([], [], 0) from rfl] at h5 ⊢
      rw [show (([] : List ByteArray).length) = 0 from rfl]
      have HS := Lib.hid (HS.out.step h5 h6)
      clear h5 h6
      clear c1 c2 c3
      have c1 := HS.out.c1
      have c2 := HS.out.c2
      have c3 := HS.out.c3
      go_wp2_with fail
      refine (rd_nums HS.out.me s1 h1 h1' s3 h3 (Nat.zero_le _)).mono ?_
      rintro x w' ⟨A, c, rfl, _, _, h5, h6⟩
      rw [show rList (rU s3) false [] 0 s1 = ([], [], 0) from rfl] at h5 ⊢
      rw [show (([] : List Int).length) = 0 from rfl]
      have HS := Lib.hid (HS.out.step h5 h6)
      clear h5 h6
      clear c1 c2 c3
      have c1 := HS.out.c1
      have c2 := HS.out.c2
      have c3 := HS.out.c3
      go_wp2_with fail
      refine (rd_left HS.out.me).mono ?_
      rintro x w' ⟨rfl, rfl⟩
      rw [show ((([] : List UInt8).length : Nat) : Int) = (0 : Int) from rfl]
      clear c1 c2 c3
      have c1 := HS.out.c1
      have c2 := HS.out.c2
      have c3 := HS.out.c3
      go_wp2_with fail
      refine (rd_wrong HS.out.me).mono ?_
      rintro x w' ⟨rfl, rfl⟩
      rw [show (((0 : Nat) : Int)) = (0 : Int) from rfl]
      clear c1 c2 c3
      have c1 := HS.out.c1
      have c2 := HS.out.c2
      have c3 := HS.out.c3
      go_wp2_with fail
      refine (rd_done HS.out.me).mono ?_
      rintro x w' ⟨rfl, rfl⟩
      rw [show ((rDone [] 0 : Nat) : Int) = (0 : Int) from rfl]
      clear c1 c2 c3
      go_wp2
      go_roundw
      case rel => exact ⟨1, rfl, by omega, HS⟩
      case measure => simp [intOf]
    · by_cases hj1 : j = 1
      · subst hj1
        have l0 := HS.out.l1
        have HS : Hid (NoneSt w w.heap.size (.int .i64 s1) (.int .i64 s2) (.int .u64 s3) (some ⟨w.heap.size + 1, 0, none⟩) wr) := ⟨.inr rfl, HS.out.rd, HS.out.c1, HS.out.c2, HS.out.c3, HS.out.l0, HS.out.l1, HS.out.low, HS.out.chg⟩
        rw [show (((1 : Nat) : Int)) = (1 : Int) from rfl]
        have c1 := HS.out.c1
        have c2 := HS.out.c2
        have c3 := HS.out.c3
        go_wp2_with fail
        refine (rd_num HS.out.me s3 h3).mono ?_
        rintro x w' ⟨rfl, h5, h6⟩
        rw [show rNum false [] 0 s3 = (0, [], 0) from rfl] at h5 ⊢
        rw [show (((0 : Nat) : Int)) = (0 : Int) from rfl]
        have HS := Lib.hid (HS.out.step h5 h6)
        clear h5 h6
        clear c1 c2 c3
        have c1 := HS.out.c1
        have c2 := HS.out.c2
        have c3 := HS.out.c3
        go_wp2_with fail
        refine (rd_text HS.out.me s2 h2 h2').mono ?_
        rintro x w' ⟨rfl, h5, h6⟩
        rw [show rText false [] 0 s2 = (⟨#[]⟩, [], 0) from rfl] at h5 ⊢
        have HS := Lib.hid (HS.out.step h5 h6)
        clear h5 h6
        clear c1 c2 c3
        have c1 := HS.out.c1
        have c2 := HS.out.c2
        have c3 := HS.out.c3
        go_wp2_with fail
        refine (rd_flag HS.out.me).mono ?_
        rintro x w' ⟨rfl, h5, h6⟩
        rw [show rFlag false [] 0 = (false, [], 0) from rfl] at h5 ⊢
        have HS := Lib.hid (HS.out.step h5 h6)
        clear h5 h6
        clear c1 c2 c3
        have c1 := HS.out.c1
        have c2 := HS.out.c2
        have c3 := HS.out.c3
        go_wp2_with fail
        refine (rd_texts HS.out.me s1 h1 h1' s2 h2 h2' (Nat.zero_le _)).mono ?_
        rintro x w' ⟨A, c, rfl, _, _, h5, h6⟩
        rw [show rList (rT s2) false [] 0 s1 = ([], [], 0) from rfl] at h5 ⊢
        rw [show (([] : List ByteArray).length) = 0 from rfl]
        have HS := Lib.hid (HS.out.step h5 h6)
        clear h5 h6
        clear c1 c2 c3
        have c1 := HS.out.c1
        have c2 := HS.out.c2
        have c3 := HS.out.c3
        go_wp2_with fail
        refine (rd_nums HS.out.me s1 h1 h1' s3 h3 (Nat.zero_le _)).mono ?_
        rintro x w' ⟨A, c, rfl, _, _, h5, h6⟩
        rw [show rList (rU s3) false [] 0 s1 = ([], [], 0) from rfl] at h5 ⊢
        rw [show (([] : List Int).length) = 0 from rfl]
        have HS := Lib.hid (HS.out.step h5 h6)
        clear h5 h6
        clear c1 c2 c3
        have c1 := HS.out.c1
        have c2 := HS.out.c2
        have c3 := HS.out.c3
        go_wp2_with fail
        refine (rd_left HS.out.me).mono ?_
        rintro x w' ⟨rfl, rfl⟩
        rw [show ((([] : List UInt8).length : Nat) : Int) = (0 : Int) from rfl]
        clear c1 c2 c3
        have c1 := HS.out.c1
        have c2 := HS.out.c2
        have c3 := HS.out.c3
        go_wp2_with fail
        refine (rd_wrong HS.out.me).mono ?_
        rintro x w' ⟨rfl, rfl⟩
        rw [show (((0 : Nat) : Int)) = (0 : Int) from rfl]
        clear c1 c2 c3
        have c1 := HS.out.c1
        have c2 := HS.out.c2
        have c3 := HS.out.c3
        go_wp2_with fail
        refine (rd_done HS.out.me).mono ?_
        rintro x w' ⟨rfl, rfl⟩
        rw [show ((rDone [] 0 : Nat) : Int) = (0 : Int) from rfl]
        clear c1 c2 c3
        go_wp2
        go_roundw
        case rel => exact ⟨2, rfl, by omega, ⟨.inl rfl, HS.out.rd, HS.out.c1, HS.out.c2, HS.out.c3, HS.out.l0, HS.out.l1, HS.out.low, HS.out.chg⟩⟩
        case measure => simp [intOf]
      · obtain rfl : j = 2 := by omega
        rw [show (((2 : Nat) : Int)) = (2 : Int) from rfl]
        go_wp2_with fail
        refine (field_works wr).mono ?_
        rintro x w' ⟨rfl, hc⟩
        have HE := HS.out.chg.thenNew hc
        clear HS hc
        go_wp2
        go_ret
        exact ⟨rfl, HE⟩
abbrev fstepK : Kd (Int × Int × Int × Int) :=
  Kd.pair (Kd.such (Kd.int .i64) (fun x => (Lit.int .i64 x).wf = true)) (Kd.pair (Kd.such (Kd.int .i64) (fun x => (Lit.int .i64 x).wf = true)) (Kd.pair (Kd.such (Kd.int .i64) (fun x => (Lit.int .i64 x).wf = true)) (Kd.such (Kd.int .u64) (fun x => (Lit.int .u64 x).wf = true))))
def fstepWf (x : Int × Int × Int × Int) : Prop :=
  (-9223372036854775808 ≤ x.1 ∧ x.1 ≤ 9223372036854775807) ∧ (-9223372036854775808 ≤ x.2.1 ∧ x.2.1 ≤ 9223372036854775807) ∧ (-9223372036854775808 ≤ x.2.2.1 ∧ x.2.2.1 ≤ 9223372036854775807) ∧ (0 ≤ x.2.2.2 ∧ x.2.2.2 ≤ 18446744073709551615)
theorem fstep_cells {w : World} {ok : Nat → Prop} {x : Int × Int × Int × Int} {cs : List Value} (h : fstepK.K w ok x cs) : cs = [.int .i64 x.1, .int .i64 x.2.1, .int .i64 x.2.2.1, .int .u64 x.2.2.2] ∧ fstepWf x := by
  obtain ⟨c0, _, rfl, ⟨h0, g0⟩, c1, _, rfl, ⟨h1, g1⟩, c2, c3, rfl, ⟨h2, g2⟩, ⟨h3, g3⟩⟩ := h
  have h0' : c0 = [.int .i64 x.1] := h0
  have h1' : c1 = [.int .i64 x.2.1] := h1
  have h2' : c2 = [.int .i64 x.2.2.1] := h2
  have h3' : c3 = [.int .u64 x.2.2.2] := h3
  subst h0' h1' h2' h3'
  exact ⟨rfl, wf_i64 g0, wf_i64 g1, wf_i64 g2, wf_u64 g3⟩
theorem fieldNone_row {w : World} {x : Int × Int × Int × Int} {cs : Array Value} (h : fstepK.K w (fun b => b < w.heap.size) x cs.toList) :
    Calls Try.prog 4 #[.agg cs] w fun e w' => e = .returned (.bool true) ∧ Chg nob w w' := by
  obtain ⟨hcs, h0, h1, h2, h3⟩ := fstep_cells h
  obtain ⟨n, hn⟩ := Int.eq_ofNat_of_zero_le h3.1
  have e : cs = #[.int .i64 x.1, .int .i64 x.2.1, .int .i64 x.2.2.1, .int .u64 (n : Int)] := by rw [← hn]; cases cs; simpa using hcs
  subst e
  exact fieldNone_walk x.1 x.2.1 x.2.2.1 n h1.1 h1.2 h2.1 h2.2 (by omega)
end Go.Proofs.Yticbffoclnjciaa
