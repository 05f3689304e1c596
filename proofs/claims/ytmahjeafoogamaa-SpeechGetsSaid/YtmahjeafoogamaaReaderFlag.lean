/- field.Reader: what a call of Flag, Done, Read does. -/
import Derived.Test.YtmahjeafoogamaaReaderText
namespace Go.Proofs.Ytmahjeafoogamaa
open Go.RowKit
set_option linter.unusedVariables false
set_option maxHeartbeats 1000000 in
theorem rd_flag {w : World} {ok : Nat → Prop} {p : Option Addr} {mk : Bool} {bs : List UInt8} {e : Nat} (h : IsRd w ok p mk bs e) :
    Calls Try.prog 47 #[.pointer p] w fun x w' => x = .returned (.bool (rFlag mk bs e).1) ∧ IsRd w' ok p mk (rFlag mk bs e).2.1 (rFlag mk bs e).2.2 ∧ Chg (At p) w w' := by
  by_cases hst : mk = true ∧ e = 0
  · obtain ⟨rfl, rfl⟩ := hst
    rcases h with ⟨g, rfl, h⟩ | ⟨_, h, _⟩
    · have HI : Hid (IsRd w ok (some ⟨g, 0, none⟩) true bs 0) := .inl ⟨g, rfl, h⟩
      obtain ⟨A, c, e0, e1, e2, ef, hl, hC⟩ := h.read
      have HC := Lib.hid hC
      obtain ⟨m, hm⟩ : ∃ m, bs.length = m := ⟨_, rfl⟩
      rw [hm] at e1 hl
      have HM := Lib.hid hm
      obtain ⟨na, nb, nc⟩ := numAt_lt bs
      obtain ⟨N, Z, E, hN⟩ : ∃ N Z E, numAt bs = (N, Z, E) := ⟨_, _, _, rfl⟩
      rw [hN] at na nb nc
      simp only at na nb nc
      have HN := Lib.hid hN
      have hnum : rNum true bs 0 18446744073709551615 = (if E = 0 then (N, bs.drop Z, 0) else (0, bs, E)) := by
        have h9 : ¬ 18446744073709551615 < N := by omega
        simp [rNum, rNumE, hN, h9]
      have HNUM := Lib.hid hnum
      clear h hC hm hN hnum
      go_enter Try.func47, Try.ntmps47
      go_wp2_with fail
      refine (rd_stands HI.out).mono ?_
      rintro x w1 ⟨rfl, rfl⟩
      simp only [decide_true, Bool.and_true]
      go_wp2_with fail
      refine (rd_num HI.out 18446744073709551615 (by omega)).mono ?_
      rintro x w2 ⟨rfl, hI2, hc2⟩
      rw [HNUM.out] at hI2 ⊢
      have HC2 := Lib.hid hc2
      clear e0 e1 e2 ef
      by_cases he : E = 0
      · subst he
        rw [if_pos rfl] at hI2 ⊢
        have HI2 : Hid (IsRd w2 ok (some ⟨g, 0, none⟩) true (bs.drop Z) 0) := hI2
        rcases hI2 with ⟨g', e', hA2⟩ | ⟨h9, _⟩
        · cases e'
          have HA2 := Lib.hid hA2
          obtain ⟨A', c', e0, e1, e2, ef, hl', hC'⟩ := hA2.read
          have HC3 : Hid (Kd.byte.C w2 (fun b => ok b ∧ b ≠ g) A bs) := Kd.C_chg HC.out hc2 (fun b hb => by rintro e; cases e; exact hb.2 rfl)
          clear hA2 hC' hc2
          by_cases hb : 1 < N
          · have HR : Hid (rFlag true bs 0 = (false, bs, 40)) := by show _ = _; simp [rFlag, rFlagE, HN.out, hb]
            have b1 : (1 : Int) < (N : Int) := by omega
            go_wp2_with fail
            have hA3 : IsRdAt (w2.setCell ⟨g, 1, none⟩ (.slice A m c)) ok g true bs 0 := IsRdAt.put HA2.out HC3.out HM.out hl
            refine (rd_fail hA3 40).mono ?_
            rintro x w3 ⟨rfl, hA4, hc4⟩
            go_wp2
            go_ret
            rw [HR.out]
            exact ⟨rfl, .inl ⟨g, rfl, hA4⟩, (HC2.out.trans (set_chg _) (fun b hb => .inl hb)).trans hc4 (fun b hb => .inl hb)⟩
          · have HR : Hid (rFlag true bs 0 = (N == 1, bs.drop Z, 0)) := by show _ = _; simp [rFlag, rFlagE, HN.out, hb]
            have b1 : ¬ (1 : Int) < (N : Int) := by omega
            go_wp2
            go_ret
            rw [HR.out]
            refine ⟨?_, HI2.out, HC2.out⟩
            show Ending.returned (.bool _) = .returned (.bool _)
            congr 2
            rw [Bool.eq_iff_iff]
            simp
            try omega
        · cases h9
      · rw [if_neg he] at hI2 ⊢
        have HI2 : Hid (IsRd w2 ok (some ⟨g, 0, none⟩) true bs E) := hI2
        rcases hI2 with ⟨g', e', hA2⟩ | ⟨h9, _⟩
        · cases e'
          obtain ⟨A', c', e0, e1, e2, ef, hl', hC'⟩ := hA2.read
          clear hA2 hC' hc2 e1
          have HR : Hid (rFlag true bs 0 = (false, bs, E)) := by show _ = _; simp [rFlag, rFlagE, HN.out, he]
          have he' : ((E : Int) == 0) = false := by simp; omega
          rw [show (((0 : Nat) : Int)) = (0 : Int) from rfl]
          go_wp2
          go_ret
          rw [HR.out]
          exact ⟨rfl, HI2.out, HC2.out⟩
        · cases h9
    · cases h
  · have hb : (mk && decide (e = 0)) = false := by
      cases mk <;> simp_all
    have HR : Hid (rFlag mk bs e = (false, bs, e)) := by show _ = _; rw [rFlag, if_neg hst]
    have HI := Lib.hid h
    go_enter Try.func47, Try.ntmps47
    clear h
    go_wp2_with fail
    refine (rd_stands HI.out).mono ?_
    rintro x w1 ⟨rfl, rfl⟩
    rw [hb]
    go_wp2
    go_ret
    rw [HR.out]
    exact ⟨rfl, HI.out, Chg.refl _ _⟩
theorem rd_done {w : World} {ok : Nat → Prop} {p : Option Addr} {mk : Bool} {bs : List UInt8} {e : Nat} (h : IsRd w ok p mk bs e) :
    Calls Try.prog 33 #[.pointer p] w fun x w' => x = .returned (.int .i64 (rDone bs e)) ∧ w' = w := by
  have HI := Lib.hid h
  clear h
  go_enter Try.func33, Try.ntmps33
  go_wp2_with fail
  refine (rd_wrong HI.out).mono ?_
  rintro x w1 ⟨rfl, rfl⟩
  by_cases he : e = 0
  · subst he
    rw [show (((0 : Nat) : Int)) = (0 : Int) from rfl]
    go_wp2_with fail
    refine (rd_left HI.out).mono ?_
    rintro x w1 ⟨rfl, rfl⟩
    have HR : Hid (rDone bs 0 = if 0 < bs.length then 41 else 0) := by show _ = _; simp [rDone]
    obtain ⟨m, hm⟩ : ∃ m, bs.length = m := ⟨_, rfl⟩
    rw [hm] at HR ⊢
    clear HI hm
    by_cases hm : 0 < m
    · rw [if_pos hm] at HR
      go_wp2
      go_ret
      rw [HR.out]
      exact ⟨rfl, rfl⟩
    · obtain rfl : m = 0 := by omega
      rw [if_neg hm] at HR
      rw [show (((0 : Nat) : Int)) = (0 : Int) from rfl]
      go_wp2
      go_ret
      rw [HR.out]
      exact ⟨rfl, rfl⟩
  · have he' : ((e : Int) == 0) = false := by simp; omega
    go_wp2
    go_ret
    rw [rDone, if_pos he]
    exact ⟨rfl, rfl⟩
/-- A new reader, of the call's own. -/
def RdNew (w : World) (bs : List UInt8) (x : Ending) (w' : World) : Prop := ∃ g, x = .returned (.pointer (some ⟨g, 0, none⟩)) ∧ IsRdAt w' (fun b => w.heap.size ≤ b) g true bs 0 ∧ Chg nob w w'
theorem rd_read {w : World} {ok : Nat → Prop} {A : Option Addr} {m c : Nat} {bs : List UInt8} (hb : Kd.byte.C w ok A bs) (hm : bs.length = m) (hm2 : m ≤ 140737488355328) :
    Calls Try.prog 31 #[.slice A m c] w (RdNew w bs) := by
  have HB := Lib.hid hb
  have HM := Lib.hid hm
  clear hb hm
  have HE : Hid (Kd.byte.R 5 (w.alloc (.cells #[] 5)) w.heap.size (fun k => k = w.heap.size) (.slice (some ⟨w.heap.size, 0, none⟩) 0 0) ([] : List UInt8)) := empty_own w w.heap.size 5 Kd.byte (Nat.le_refl _)
  go_enter Try.func31, Try.ntmps31
  go_wp2_with (at_builtin; refine wp_appB rfl _ _ rfl w.heap.size _ _ (.slice (some ⟨w.heap.size, 0, none⟩) 0 0) ([] : List UInt8) bs A m c rfl rfl HM.out HE.out (Kd.C_new HB.out ((Chg.refl _ _).alloc _)) (by simp) m ?_ ?_ ?_)
  · simp
  · omega
  intro A1 c1 w1 hR hC _
  have hc1 : Chg nob w w1 := ((Chg.refl _ w).alloc _).trans hC (fun b hb => .inr (by
    have : some b = some w.heap.size := hb
    cases this
    exact Nat.le_refl _))
  have s1 := hc1.size
  have HR := Lib.hid (Kd.R_read (byte_ge hR)).1
  obtain ⟨hlen, hcap⟩ := (Kd.R_read hR).2
  clear hR hC HE
  have HN : ∀ cs t, Chg nob w1 (w1.alloc (.cells cs t)) := fun cs t => (Chg.refl _ _).alloc _
  go_wp2
  go_ret
  refine ⟨w1.heap.size, rfl, ⟨s1, A1, c1, ?_, by rw [HM.out]; exact hcap, ?_⟩, hc1.thenNew ((Chg.refl _ _).alloc _)⟩
  · rw [HM.out]
    exact heap_alloc_new w1 _
  · exact Kd.C_new (Kd.C_mono (Kd.C_bound HR.out) (fun b hb => ⟨hb.1, by omega⟩)) ((Chg.refl _ _).alloc _)
end Go.Proofs.Ytmahjeafoogamaa
