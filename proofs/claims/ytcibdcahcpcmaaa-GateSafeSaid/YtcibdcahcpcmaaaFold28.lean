import Derived.Test.YtcibdcahcpcmaaaFold27
import Derived.Handy
/- field.Reader: what a call of stands, fail, Left, Wrong, Num does. -/
namespace Go.Proofs.Ytcibdcahcpcmaaa
open Go.RowKit
set_option maxRecDepth 100000
set_option linter.unusedVariables false
/-- Block g is a reader: whether it was made, the bytes that are left, what is wrong. What it rests on is ok. -/
def IsRdAt (w : World) (ok : Nat → Prop) (g : Nat) (mk : Bool) (bs : List UInt8) (e : Nat) : Prop :=
  ok g ∧ ∃ A c, w.heap[g]? = some (.cells #[.bool mk, .slice A bs.length c, .int .i64 e] 141 (0, 0)) ∧ bs.length ≤ c ∧ Kd.byte.C w (fun b => ok b ∧ b ≠ g) A bs
def IsRd (w : World) (ok : Nat → Prop) (p : Option Addr) (mk : Bool) (bs : List UInt8) (e : Nat) : Prop :=
  (∃ g, p = some ⟨g, 0, none⟩ ∧ IsRdAt w ok g mk bs e) ∨ (p = none ∧ mk = false ∧ bs = [] ∧ e = 0)
/-- The reader's own block. -/
def At (p : Option Addr) : Nat → Prop := fun b => p = some ⟨b, 0, none⟩
section
variable {w w' : World} {ok ok' : Nat → Prop} {g : Nat} {mk : Bool} {bs : List UInt8} {e : Nat} {p : Option Addr}
theorem IsRdAt.chg {S : Nat → Prop} (h : IsRdAt w ok g mk bs e) (hc : Chg S w w') (hs : ∀ b, ok b → ¬ S b) : IsRdAt w' ok g mk bs e := by
  obtain ⟨h0, A, c, h1, h2, h3⟩ := h
  exact ⟨h0, A, c, hc.heap h1 (hs g h0), h2, Kd.C_chg h3 hc (fun b hb => hs b hb.1)⟩
theorem IsRdAt.mono (h : IsRdAt w ok g mk bs e) (hk : ∀ b, ok b → ok' b) : IsRdAt w ok' g mk bs e := by
  obtain ⟨h0, A, c, h1, h2, h3⟩ := h
  exact ⟨hk g h0, A, c, h1, h2, Kd.C_mono h3 (fun b hb => ⟨hk b hb.1, hb.2⟩)⟩
theorem IsRdAt.lt (h : IsRdAt w ok g mk bs e) : g < w.heap.size := by
  obtain ⟨_, A, c, h1, _⟩ := h
  exact heap_lt h1
theorem IsRdAt.err (h : IsRdAt w ok g mk bs e) (e' : Nat) : IsRdAt (w.setCell ⟨g, 2, none⟩ (.int .i64 e')) ok g mk bs e' := by
  obtain ⟨h0, A, c, h1, h2, h3⟩ := h
  refine ⟨h0, A, c, ?_, h2, Kd.C_step h3 (fun b hb _ => Below.heap_setCell _ _ _ _ hb.2)⟩
  simp [World.setCell, Array.getElem?_modify, h1]
theorem IsRdAt.put {A' : Option Addr} {c' n : Nat} {bs' : List UInt8} (h : IsRdAt w ok g mk bs e) (hC : Kd.byte.C w (fun b => ok b ∧ b ≠ g) A' bs') (hn : bs'.length = n) (hc : n ≤ c') : IsRdAt (w.setCell ⟨g, 1, none⟩ (.slice A' n c')) ok g mk bs' e := by
  subst hn
  obtain ⟨h0, A, c, h1, h2, h3⟩ := h
  refine ⟨h0, A', c', ?_, hc, Kd.C_step hC (fun b hb _ => Below.heap_setCell _ _ _ _ hb.2)⟩
  simp [World.setCell, Array.getElem?_modify, h1]
theorem IsRd.chg {S : Nat → Prop} (h : IsRd w ok p mk bs e) (hc : Chg S w w') (hs : ∀ b, ok b → ¬ S b) : IsRd w' ok p mk bs e := by
  rcases h with ⟨g, rfl, h⟩ | h
  · exact .inl ⟨g, rfl, h.chg hc hs⟩
  · exact .inr h
theorem IsRd.new (h : IsRd w ok p mk bs e) (hc : Chg nob w w') : IsRd w' ok p mk bs e := h.chg hc (fun b _ => not_nob b)
theorem IsRd.mono (h : IsRd w ok p mk bs e) (hk : ∀ b, ok b → ok' b) : IsRd w ok' p mk bs e := by
  rcases h with ⟨g, rfl, h⟩ | h
  · exact .inl ⟨g, rfl, h.mono hk⟩
  · exact .inr h
end
theorem set_chg {w : World} {g o : Nat} (u : Value) : Chg (At (some ⟨g, 0, none⟩)) w (w.setCell ⟨g, o, none⟩ u) := Chg.setCell (S := At (some ⟨g, 0, none⟩)) (Chg.refl _ w) (p := ⟨g, o, none⟩) (.inl rfl) u
theorem rd_stands {w : World} {ok : Nat → Prop} {p : Option Addr} {mk : Bool} {bs : List UInt8} {e : Nat} (h : IsRd w ok p mk bs e) :
    Calls Try.prog 77 #[.pointer p] w fun x w' => x = .returned (.bool (mk && decide (e = 0))) ∧ w' = w := by
  rcases h with ⟨g, rfl, h0, A, c, h1, h2, h3⟩ | ⟨rfl, rfl, rfl, rfl⟩
  · have e0 : w.cell? ⟨g, 0, none⟩ = some (.bool mk) := by rw [cell_of_row w g 0 _ _ _ h1]; rfl
    have e2 : w.cell? ⟨g, 2, none⟩ = some (.int .i64 e) := by rw [cell_of_row w g 2 _ _ _ h1]; rfl
    clear h1 h2 h3
    go_enter Try.func77, Try.ntmps77
    cases mk with
    | false =>
      go_wp2
      go_ret
      exact ⟨rfl, rfl⟩
    | true =>
      go_wp2
      go_ret
      refine ⟨?_, rfl⟩
      show Ending.returned (.bool _) = .returned (.bool _)
      congr 2
      rw [Bool.eq_iff_iff]
      simp
      try omega
  · go_enter Try.func77, Try.ntmps77
    go_wp2
    go_ret
    exact ⟨rfl, rfl⟩
theorem rd_fail {w : World} {ok : Nat → Prop} {g : Nat} {mk : Bool} {bs : List UInt8} {e : Nat} (h : IsRdAt w ok g mk bs e) (e' : Nat) :
    Calls Try.prog 79 #[.pointer (some ⟨g, 0, none⟩), .int .i64 e'] w fun x w' => x = .returned (.tuple #[]) ∧ IsRdAt w' ok g mk bs e' ∧ Chg (At (some ⟨g, 0, none⟩)) w w' := by
  have H := h
  obtain ⟨h0, A, c, h1, h2, h3⟩ := h
  have e2 : w.cell? ⟨g, 2, none⟩ = some (.int .i64 e) := by rw [cell_of_row w g 2 _ _ _ h1]; rfl
  have ef : w.frozen? ⟨g, 2, none⟩ = false := by simp [World.frozen?, h1]
  clear h1 h2 h3
  go_enter Try.func79, Try.ntmps79
  go_wp2
  go_returns
  exact ⟨rfl, H.err e', set_chg _⟩
theorem rd_left {w : World} {ok : Nat → Prop} {p : Option Addr} {mk : Bool} {bs : List UInt8} {e : Nat} (h : IsRd w ok p mk bs e) :
    Calls Try.prog 80 #[.pointer p] w fun x w' => x = .returned (.int .i64 bs.length) ∧ w' = w := by
  rcases h with ⟨g, rfl, h0, A, c, h1, h2, h3⟩ | ⟨rfl, rfl, rfl, rfl⟩
  · have e1 : w.cell? ⟨g, 1, none⟩ = some (.slice A bs.length c) := by rw [cell_of_row w g 1 _ _ _ h1]; rfl
    clear h1 h2 h3
    go_enter Try.func80, Try.ntmps80
    go_wp2
    go_ret
    exact ⟨rfl, rfl⟩
  · go_enter Try.func80, Try.ntmps80
    go_wp2
    go_ret
    exact ⟨rfl, rfl⟩
theorem rd_wrong {w : World} {ok : Nat → Prop} {p : Option Addr} {mk : Bool} {bs : List UInt8} {e : Nat} (h : IsRd w ok p mk bs e) :
    Calls Try.prog 53 #[.pointer p] w fun x w' => x = .returned (.int .i64 e) ∧ w' = w := by
  rcases h with ⟨g, rfl, h0, A, c, h1, h2, h3⟩ | ⟨rfl, rfl, rfl, rfl⟩
  · have e1 : w.cell? ⟨g, 2, none⟩ = some (.int .i64 e) := by rw [cell_of_row w g 2 _ _ _ h1]; rfl
    clear h1 h2 h3
    go_enter Try.func53, Try.ntmps53
    go_wp2
    go_ret
    exact ⟨rfl, rfl⟩
  · go_enter Try.func53, Try.ntmps53
    go_wp2
    go_ret
    exact ⟨rfl, rfl⟩
/-- What the reader's block says. -/
theorem IsRdAt.read {w : World} {ok : Nat → Prop} {g : Nat} {mk : Bool} {bs : List UInt8} {e : Nat} (h : IsRdAt w ok g mk bs e) :
    ∃ A c, w.cell? ⟨g, 0, none⟩ = some (.bool mk) ∧ w.cell? ⟨g, 1, none⟩ = some (.slice A bs.length c) ∧ w.cell? ⟨g, 2, none⟩ = some (.int .i64 e) ∧ w.frozen? ⟨g, 1, none⟩ = false ∧ bs.length ≤ c ∧ Kd.byte.C w (fun b => ok b ∧ b ≠ g) A bs := by
  obtain ⟨h0, A, c, h1, h2, h3⟩ := h
  refine ⟨A, c, ?_, ?_, ?_, ?_, h2, h3⟩
  · rw [cell_of_row w g 0 _ _ _ h1]; rfl
  · rw [cell_of_row w g 1 _ _ _ h1]; rfl
  · rw [cell_of_row w g 2 _ _ _ h1]; rfl
  · simp [World.frozen?, h1]
set_option maxHeartbeats 1000000 in
theorem rd_num {w : World} {ok : Nat → Prop} {p : Option Addr} {mk : Bool} {bs : List UInt8} {e : Nat} (h : IsRd w ok p mk bs e) (most : Nat) (hmost : most < 18446744073709551616) :
    Calls Try.prog 55 #[.pointer p, .int .u64 most] w fun x w' => x = .returned (.int .u64 (rNum mk bs e most).1) ∧ IsRd w' ok p mk (rNum mk bs e most).2.1 (rNum mk bs e most).2.2 ∧ Chg (At p) w w' := by
  by_cases hst : mk = true ∧ e = 0
  · obtain ⟨rfl, rfl⟩ := hst
    rcases h with ⟨g, rfl, h⟩ | ⟨_, h, _⟩
    · have HI : Hid (IsRd w ok (some ⟨g, 0, none⟩) true bs 0) := .inl ⟨g, rfl, h⟩
      have HA := Lib.hid h
      obtain ⟨A, c, e0, e1, e2, ef, hl, hC⟩ := h.read
      have HC := Lib.hid hC
      have hsm := hC.small
      obtain ⟨m, hm⟩ : ∃ m, bs.length = m := ⟨_, rfl⟩
      rw [hm] at e1 hl hsm
      have HM := Lib.hid hm
      obtain ⟨na, nb, nc⟩ := numAt_lt bs
      obtain ⟨N, Z, E, hN⟩ : ∃ N Z E, numAt bs = (N, Z, E) := ⟨_, _, _, rfl⟩
      rw [hN] at na nb nc
      simp only at na nb nc
      have HZ : Hid (E = 0 → 1 ≤ Z ∧ Z ≤ m) := by
        show E = 0 → _
        intro he
        have := numAt_size (bs := bs) (by rw [hN]; exact he)
        rw [hN] at this
        rw [← hm]
        exact this
      have HN := Lib.hid hN
      clear h hC hm hN
      go_enter Try.func55, Try.ntmps55
      go_wp2_with fail
      refine (rd_stands HI.out).mono ?_
      rintro x w1 ⟨rfl, rfl⟩
      simp only [decide_true, Bool.and_true]
      go_wp2_with fail
      refine (field_number HC.out HM.out hl).mono ?_
      rintro x w2 ⟨rfl, hc2⟩
      rw [HN.out]
      have HA2 : Hid (IsRdAt w2 ok g true bs 0) := HA.out.chg hc2 (fun b _ => not_nob b)
      obtain ⟨A', c', e0', e1', e2', ef', hl', hC'⟩ := HA2.out.read
      have f1 : w2.cell? ⟨g, 1, none⟩ = some (.slice A m c) := hc2.cell e1 (not_nob _)
      have f2 : w2.cell? ⟨g, 2, none⟩ = some (.int .i64 (0 : Nat)) := hc2.cell e2 (not_nob _)
      have hC2 := Lib.hid (Kd.C_new HC.out hc2)
      have HC2 := Lib.hid hc2
      clear e0' e1' e2' hl' hC' e0 e1 e2 ef hc2
      by_cases he : E = 0
      · subst he
        obtain ⟨z1, z2⟩ := HZ.out rfl
        rw [show numV (N, Z, 0) = .tuple #[.int .u64 N, .int .i64 Z, .int .i64 0] from rfl]
        by_cases hb : most < N
        · have HR : Hid (rNum true bs 0 most = (0, bs, 3)) := by show _ = _; simp [rNum, rNumE, HN.out, hb]
          have b1 : (most : Int) < (N : Int) := by omega
          go_wp2_with fail
          refine (rd_fail HA2.out 3).mono ?_
          rintro x w3 ⟨rfl, hA3, hc3⟩
          go_wp2
          go_ret
          rw [HR.out]
          exact ⟨rfl, .inl ⟨g, rfl, hA3⟩, (Chg.ofNew HC2.out).trans hc3 (fun b hb => .inl hb)⟩
        · have HR : Hid (rNum true bs 0 most = (N, bs.drop Z, 0)) := by show _ = _; simp [rNum, rNumE, HN.out, hb]
          have b1 : ¬ (most : Int) < (N : Int) := by omega
          have hD := C_dropB hC2.out Z c (by rw [HM.out]; exact z2) (by rw [HM.out]; exact hl)
          have hdl : (bs.drop Z).length = m - Z := by rw [List.length_drop, HM.out]
          have HD := Lib.hid hD
          have HDL := Lib.hid hdl
          clear hD hdl
          go_wp2
          all_goals
            go_ret
            rw [HR.out]
            refine ⟨rfl, .inl ⟨g, rfl, IsRdAt.put HA2.out ?_ HDL.out (by omega)⟩, (Chg.ofNew HC2.out).trans (set_chg _) (fun b hb => .inl hb)⟩
            have hD := HD.out
            first | (rw [if_pos (by assumption)] at hD; exact hD) | (rw [if_neg (by assumption)] at hD; exact hD)
      · have he' : ((E : Int) == 0) = false := by simp; omega
        have HR : Hid (rNum true bs 0 most = (0, bs, E)) := by show _ = _; simp [rNum, rNumE, HN.out, he]
        rw [show numV (N, Z, E) = .tuple #[.int .u64 N, .int .i64 Z, .int .i64 E] from rfl]
        go_wp2_with fail
        refine (rd_fail HA2.out E).mono ?_
        rintro x w3 ⟨rfl, hA3, hc3⟩
        go_wp2
        go_ret
        rw [HR.out]
        exact ⟨rfl, .inl ⟨g, rfl, hA3⟩, (Chg.ofNew HC2.out).trans hc3 (fun b hb => .inl hb)⟩
    · cases h
  · have hb : (mk && decide (e = 0)) = false := by
      cases mk <;> simp_all
    have HR : Hid (rNum mk bs e most = (0, bs, e)) := by show _ = _; rw [rNum, if_neg hst]
    have HI := Lib.hid h
    go_enter Try.func55, Try.ntmps55
    clear h
    go_wp2_with fail
    refine (rd_stands HI.out).mono ?_
    rintro x w1 ⟨rfl, rfl⟩
    rw [hb]
    go_wp2
    go_ret
    rw [HR.out]
    exact ⟨rfl, HI.out, Chg.refl _ _⟩
end Go.Proofs.Ytcibdcahcpcmaaa
